/-
  THE WALK of the closure that visits the sums (bricks: nearest), at a kind of bricks: its loop; and by induction at whatever sum.
-/
import Derived.Test.YtfkmnneieglolaaGreatDoorNear
namespace Go.Proofs.YtfkmnneieglolaaGreatDoor
open Go.RowKit Go.Shelf
/-- What the loop has done behind j numbers. -/
def foldN (wt : Int) (t : List BrickR) (s W : Int) (st : Option Int) : Nat → Option Int
  | 0 => st
  | j + 1 => visitN wt t (s + j * W) (foldN wt t s W st j)
theorem foldN_eq (wt : Int) (t : List BrickR) (s W : Int) (st : Option Int) (j : Nat) : foldN wt t s W st j = ((List.range j).map fun k : Nat => (k : Int)).foldl (fun st k => visitN wt t (s + k * W) st) st := by
  induction j with
  | zero => rfl
  | succ j ih => rw [List.range_succ, List.map_append, List.foldl_append, ← ih]; rfl
theorem visitN_drop {wt : Int} {L : List BrickR} {k : Nat} (h : k < L.length) (s : Int) (st : Option Int) : visitN wt (L.drop k) s st = foldN wt (L.drop (k + 1)) s (bg L k).weight st ((bg L k).count + 1).toNat := by
  rw [List.drop_eq_getElem_cons h, foldN_eq, bg_eq L k h]
  rfl
theorem near_subset {wt : Int} {L : List BrickR} {s : Int} {st : Option Int} {b : Int} (h : visitN wt L s st = some b) : st = some b ∨ ∃ c, IsC L c ∧ b = s + sumC L c := by
  have hn := near_visit wt L s (fun x => st = some x) st (by
    cases st with
    | none => exact fun x hx => by cases hx
    | some y => exact ⟨rfl, fun x hx => by injection hx with e; subst e; unfold nearer; omega⟩)
  rw [h] at hn
  exact hn.1
theorem visitN_bd {wt : Int} {L : List BrickR} {s M : Int} {st : Option Int} (ok : BrickOK L) (h0 : 0 ≤ s) (h1 : s + restC L ≤ M) (h : ∀ b, st = some b → 0 ≤ b ∧ b ≤ M) : ∀ b, visitN wt L s st = some b → 0 ≤ b ∧ b ≤ M := by
  intro b hb
  rcases near_subset hb with e | ⟨c, hc, rfl⟩
  · exact h b e
  · have := isC_bd ok hc; omega
theorem foldN_bd {wt : Int} {t : List BrickR} {s W C M : Int} {st : Option Int} (ok : BrickOK t) (h0 : 0 ≤ s) (hW : 0 ≤ W) (h1 : s + C * W + restC t ≤ M) (h : ∀ b, st = some b → 0 ≤ b ∧ b ≤ M) : ∀ j : Nat, (j : Int) ≤ C + 1 → ∀ b, foldN wt t s W st j = some b → 0 ≤ b ∧ b ≤ M
  | 0, _ => h
  | j + 1, hj => visitN_bd ok (by have := Int.mul_nonneg (show (0 : Int) ≤ j by omega) hW; omega) (by have := Int.mul_le_mul_of_nonneg_right (show (j : Int) ≤ C by omega) hW; omega) (foldN_bd ok h0 hW h1 h j (by omega))
set_option maxRecDepth 100000 in
set_option maxHeartbeats 60000000 in
theorem near_node {B Bs : Nat} {wt : Int} (a : Option Addr) (L : List BrickR) (cap : Nat) (k : Nat) (s : Int) (st : Option Int) (w : World) (hk : k ≤ L.length) (hw : -1099511627776 ≤ wt ∧ wt ≤ 1099511627776)
    (hs : 0 ≤ s ∧ s + restC (L.drop k) ≤ 503316480) (hr : 0 ≤ restC (L.drop k)) (hbs2 : ∀ b, st = some b → 0 ≤ b ∧ b ≤ 503316480) (hV : NearS B w Bs wt st) (hS : SearchAt B w Bs a L cap)
    (hgo : ∀ b, st = some b → ¬ (farN wt b < leastN wt s (restC (L.drop k)) ∨ (leastN wt s (restC (L.drop k)) = farN wt b ∧ b ≤ s))) (hl8 : L.length ≤ 8) (hlt : k < L.length) (hok : BrickOK L) (hBK : Bricks B w a L)
    (IH : ∀ (x : Nat) (st' : Option Int) (w' : World), (x : Int) ≤ (bg L k).count → (∀ b, st' = some b → 0 ≤ b ∧ b ≤ 503316480) → NearS B w' Bs wt st' → SearchAt B w' Bs a L cap → Bricks B w' a L →
      Calls Tryz.prog 72 #[.int .i64 ((k : Int) + 1), .int .i64 (s + x * (bg L k).weight), .pointer (some ⟨B + 1, 0, none⟩), .pointer (some ⟨B, 0, none⟩), .pointer (some ⟨B + 3, 0, none⟩), .pointer (some ⟨B + 4, 0, none⟩), .pointer (some ⟨B + 2, 0, none⟩), .pointer (some ⟨B + 5, 0, none⟩)] w' fun e w'' => e = .returned (.tuple #[]) ∧ NearS B w'' Bs wt (visitN wt (L.drop (k + 1)) (s + x * (bg L k).weight) st') ∧ Below B w' w'') :
    Calls Tryz.prog 72 #[.int .i64 k, .int .i64 s, .pointer (some ⟨B + 1, 0, none⟩), .pointer (some ⟨B, 0, none⟩), .pointer (some ⟨B + 3, 0, none⟩), .pointer (some ⟨B + 4, 0, none⟩), .pointer (some ⟨B + 2, 0, none⟩), .pointer (some ⟨B + 5, 0, none⟩)] w fun e w' => e = .returned (.tuple #[]) ∧ NearS B w' Bs wt (visitN wt (L.drop k) s st) ∧ Below B w w' := by
  rw [visitN_drop hlt]
  have HV := Lib.hid hV
  have HSE := Lib.hid hS
  have HBK := Lib.hid hBK
  obtain ⟨w1, w2, c1, c2⟩ := ok_bg hok hlt
  have q0 := hV.cs
  have q1 := hV.cw
  have q2 := hV.cb
  have q3 := hV.cf
  have q4 := hV.ca
  obtain ⟨hbs, q5, Br, hBr, q6, hR⟩ := hS
  have q7 := hR k hk
  have hdr := restC_drop hlt
  obtain ⟨b', off, rfl, hb', hc⟩ := hBK (by omega)
  obtain ⟨_, qw, qc⟩ := hc k hlt
  have okd : BrickOK (L.drop (k + 1)) := fun x hx => hok x (List.mem_of_mem_drop hx)
  have hrr : 0 ≤ restC (L.drop (k + 1)) := (rest_bd okd).1
  have HIH := Lib.hid IH
  clear IH hV hR hBK hok hc
  have HBF : Hid (∀ j : Nat, (j : Int) ≤ (bg L k).count → ∀ b, foldN wt (L.drop (k + 1)) s (bg L k).weight st j = some b → 0 ≤ b ∧ b ≤ 503316480) := Lib.hid fun j hj => foldN_bd (C := (bg L k).count) okd hs.1 (by omega) (by rw [Int.mul_comm]; omega) hbs2 j (by omega)
  clear okd hdr
  generalize restC (L.drop (k + 1)) = R2 at *
  generalize restC (L.drop k) = R at *
  generalize (bg L k).weight = W at *
  generalize (bg L k).count = C at *
  have hxm : ∀ x : Nat, (x : Int) ≤ C → 0 ≤ (x : Int) * W ∧ (x : Int) * W ≤ 1048576 * 60 := fun x hx => ⟨Int.mul_nonneg (by omega) (by omega), by
    have := Int.mul_le_mul (show (x : Int) ≤ 60 by omega) w2 (by omega) (by omega); omega⟩
  have HXM := Lib.hid hxm
  clear hxm
  have s1 : IntKind.i64.wrap (s - wt) = s - wt := IntWalk.i64_in _ (by omega)
  have s2 : IntKind.i64.wrap (wt - s) = wt - s := IntWalk.i64_in _ (by omega)
  have s3 : IntKind.i64.wrap (wt - s - R) = wt - s - R := IntWalk.i64_in _ (by omega)
  have j1 : (k : Int) < (L.length : Int) + 1 := by omega
  have j2 : (0 : Int) ≤ (k : Int) := by omega
  have j3 : k < L.length + 1 := by omega
  have hlv : (0 < s - wt ∧ ¬ s - wt < wt - s - R ∧ leastN wt s R = s - wt) ∨ (¬ 0 < s - wt ∧ 0 < wt - s - R ∧ leastN wt s R = wt - s - R) ∨ (¬ 0 < s - wt ∧ ¬ 0 < wt - s - R ∧ leastN wt s R = 0) := by
    unfold leastN
    omega
  have j4 : (k : Int) < (L.length : Int) := by omega
  have j5 : ((k : Int) == (L.length : Int)) = false := beq_eq_false_iff_ne.2 (by omega)
  have j6 : (k == L.length) = false := beq_eq_false_iff_ne.2 (by omega)
  have hkl8 : (k : Int) ≤ 1000000 := by have := hl8; omega
  cases st with
  | none =>
    simp only [Option.getD_none, Option.isSome_none] at q2 q3
    rcases hlv with ⟨m1, m2, _⟩ | ⟨m1, m2, _⟩ | ⟨m1, m2, _⟩
    · go_enter Tryz.func72, Tryz.ntmps72
      go_upto_region 0 with (fail)
      go_region
      go_upto_region 4 with (go_at_call 71; (with_reducible refine (farN_any (B + 1) wt b _ (by omega) (by omega) (by simpa using q1)).mono ?_); rintro e wf ⟨rfl, rfl⟩; rw [HF.out])
      have HVq := Lib.hid HV.out.drew
      have hBq := (Below.refl B w).drew
      clear q0 q1 q2 q3 q4 q5 q6 q7
      go_wp2_with fail
      go_loopw [11] (fun i wr => ∃ x : Nat, (x : Int) ≤ C + 1 ∧ i = .int .i64 x ∧ Hid (NearS B wr Bs wt (foldN wt (L.drop (k + 1)) s W none x)) ∧ Below B w wr) (fun i _ => (C + 1 - intOf i).toNat)
      case atStart => exact ⟨0, by omega, rfl, HVq, hBq⟩
      case round =>
        obtain ⟨x, hx, rfl, HVr, hB⟩ := hrel
        have q0 := HVr.out.cs
        obtain ⟨_, q5, _⟩ := HSE.out.keep hB
        have qw1 := (hB.cell (p := ⟨b', off + k * 3 + 1, none⟩) hb').trans qw
        have qc1 := (hB.cell (p := ⟨b', off + k * 3 + 2, none⟩) hb').trans qc
        clear hBq
        have hszr := HVr.out.size
        by_cases hxc : (x : Int) ≤ C
        · obtain ⟨m0, m1'⟩ := HXM.out x hxc
          have HFK : Hid (foldN wt (L.drop (k + 1)) s W none (x + 1) = visitN wt (L.drop (k + 1)) (s + x * W) (foldN wt (L.drop (k + 1)) s W none x)) := Lib.hid rfl
          have HBD := Lib.hid (HBF.out x hxc)
          generalize foldN wt (L.drop (k + 1)) s W none x = sx at *
          have t1 : IntKind.i64.wrap ((x : Int) * W) = (x : Int) * W := IntWalk.i64_in _ (by omega)
          have t2 : IntKind.i64.wrap (s + (x : Int) * W) = s + (x : Int) * W := IntWalk.i64_in _ (by omega)
          have t3 : IntKind.i64.wrap ((k : Int) + 1) = (k : Int) + 1 := IntWalk.i64_in _ (by omega)
          have t4 : IntKind.i64.wrap ((x : Int) + 1) = (x : Int) + 1 := IntWalk.i64_in _ (by omega)
          have hbr := Below.refl B wr
          have HSX : Hid (∀ (w' : World) (sy : Option Int), NearS B w' Bs wt sy → Below B wr w' → (Below B wr w' ∧ w'.cell? ⟨B + 5, 0, none⟩ = some (.func (.func 72) #[] #[.pointer (some ⟨B + 1, 0, none⟩), .pointer (some ⟨B, 0, none⟩), .pointer (some ⟨B + 3, 0, none⟩), .pointer (some ⟨B + 4, 0, none⟩), .pointer (some ⟨B + 2, 0, none⟩), .pointer (some ⟨B + 5, 0, none⟩)]) ∧ w'.cell? ⟨B, 0, none⟩ = some (.pointer (some ⟨Bs, 0, none⟩)) ∧ w'.cell? ⟨Bs, 0, none⟩ = some (.slice (some ⟨b', off, none⟩) L.length cap) ∧ w'.cell? ⟨b', off + k * 3 + 1, none⟩ = some (.int .i64 W))) := Lib.hid fun w' sy hV' hB' =>
            ⟨hB', hV'.cv, hV'.cs, (hB'.cell (p := ⟨Bs, 0, none⟩) hbs).trans q5, (hB'.cell (p := ⟨b', off + k * 3 + 1, none⟩) hb').trans qw1⟩
          go_upto_region 7 with (fail)
          refine wp_region_held_drew (S := (fun w' => Below B wr w' ∧ w'.cell? ⟨B + 5, 0, none⟩ = some (.func (.func 72) #[] #[.pointer (some ⟨B + 1, 0, none⟩), .pointer (some ⟨B, 0, none⟩), .pointer (some ⟨B + 3, 0, none⟩), .pointer (some ⟨B + 4, 0, none⟩), .pointer (some ⟨B + 2, 0, none⟩), .pointer (some ⟨B + 5, 0, none⟩)]) ∧ w'.cell? ⟨B, 0, none⟩ = some (.pointer (some ⟨Bs, 0, none⟩)) ∧ w'.cell? ⟨Bs, 0, none⟩ = some (.slice (some ⟨b', off, none⟩) L.length cap) ∧ w'.cell? ⟨b', off + k * 3 + 1, none⟩ = some (.int .i64 W))) (by kernel_rfl) (HSX.out _ _ HVr.out.drew hbr.drew) (fun hHeld => ?_)
          refine wpAnyH_take (i := 0) (oi := _) (v := ?_) rfl (by kernel_rfl) (by kernel_rfl) (by kernel_rfl) (fun _ _ _ h => h) (Or.inl ⟨by rfl, ?_⟩) (by assumption) ?_
          rotate_left
          · (intro w hSw; (try dsimp only at hSw); (try simp only [List.getElem_toArray, List.getElem_cons_zero]); go_simp; try with_reducible rfl)
          simp only [Act.put, List.setIfInBounds_toArray, List.set_cons_zero, List.set_cons_succ, List.getElem_toArray, List.getElem_cons_zero]
          refine wpAnyH_take (i := 1) (oi := _) (v := ?_) rfl (by kernel_rfl) (by kernel_rfl) (by kernel_rfl) (fun _ _ _ h => h) (Or.inl ⟨by rfl, ?_⟩) (by assumption) ?_
          rotate_left
          · (intro w hSw; (try dsimp only at hSw); (try simp only [List.getElem_toArray, List.getElem_cons_succ, List.getElem_cons_zero]); go_simp; try with_reducible rfl)
          simp only [Act.put, List.setIfInBounds_toArray, List.set_cons_zero, List.set_cons_succ, List.getElem_toArray, List.getElem_cons_succ, List.getElem_cons_zero]
          refine wpAnyH_take (i := 2) (oi := _) (v := ?_) rfl (by kernel_rfl) (by kernel_rfl) (by kernel_rfl) (fun _ _ _ h => h) (Or.inl ⟨by rfl, ?_⟩) (by assumption) ?_
          rotate_left
          · (intro w hSw; (try dsimp only at hSw); (try simp only [List.getElem_toArray, List.getElem_cons_succ, List.getElem_cons_zero]); go_simp; try with_reducible rfl)
          simp only [Act.put, List.setIfInBounds_toArray, List.set_cons_zero, List.set_cons_succ, List.getElem_toArray, List.getElem_cons_succ, List.getElem_cons_zero]
          refine wpAnyH_take (i := 3) (oi := _) (v := ?_) rfl (by kernel_rfl) (by kernel_rfl) (by kernel_rfl) (fun _ _ _ h => h) (Or.inl ⟨by rfl, ?_⟩) (by assumption) ?_
          rotate_left
          · (intro w hSw; (try dsimp only at hSw); (try simp only [List.getElem_toArray, List.getElem_cons_succ, List.getElem_cons_zero]); go_simp; try with_reducible rfl)
          simp only [Act.put, List.setIfInBounds_toArray, List.set_cons_zero, List.set_cons_succ, List.getElem_toArray, List.getElem_cons_succ, List.getElem_cons_zero]
          refine wpAnyH_take (i := 4) (oi := _) (v := ?_) rfl (by kernel_rfl) (by kernel_rfl) (by kernel_rfl) (fun _ _ _ h => h) (Or.inl ⟨by rfl, ?_⟩) (by assumption) ?_
          rotate_left
          · (intro w hSw; (try dsimp only at hSw); (try simp only [List.getElem_toArray, List.getElem_cons_succ, List.getElem_cons_zero]); go_simp; try with_reducible rfl)
          simp only [Act.put, List.setIfInBounds_toArray, List.set_cons_zero, List.set_cons_succ, List.getElem_toArray, List.getElem_cons_succ, List.getElem_cons_zero]
          refine wpAnyH_take (i := 5) (oi := _) (v := ?_) rfl (by kernel_rfl) (by kernel_rfl) (by kernel_rfl) (fun _ _ _ h => h) (Or.inl ⟨by rfl, ?_⟩) (by assumption) ?_
          rotate_left
          · (intro w hSw; (try dsimp only at hSw); (try simp only [List.getElem_toArray, List.getElem_cons_succ, List.getElem_cons_zero]); go_simp; try with_reducible rfl)
          simp only [Act.put, List.setIfInBounds_toArray, List.set_cons_zero, List.set_cons_succ, List.getElem_toArray, List.getElem_cons_succ, List.getElem_cons_zero]
          refine wpAnyH_take (i := 6) (oi := _) (v := ?_) rfl (by kernel_rfl) (by kernel_rfl) (by kernel_rfl) (fun _ _ _ h => h) (Or.inl ⟨by rfl, ?_⟩) (by assumption) ?_
          rotate_left
          · (intro w hSw; (try dsimp only at hSw); (try simp only [List.getElem_toArray, List.getElem_cons_succ, List.getElem_cons_zero]); go_simp; try with_reducible rfl)
          simp only [Act.put, List.setIfInBounds_toArray, List.set_cons_zero, List.set_cons_succ, List.getElem_toArray, List.getElem_cons_succ, List.getElem_cons_zero]
          refine wpAnyH_take (i := 7) (oi := _) (v := ?_) rfl (by kernel_rfl) (by kernel_rfl) (by kernel_rfl) (fun _ _ _ h => h) (Or.inl ⟨by rfl, ?_⟩) (by assumption) ?_
          rotate_left
          · (intro w hSw; (try dsimp only at hSw); (try simp only [List.getElem_toArray, List.getElem_cons_succ, List.getElem_cons_zero]); go_simp; try with_reducible rfl)
          simp only [Act.put, List.setIfInBounds_toArray, List.set_cons_zero, List.set_cons_succ, List.getElem_toArray, List.getElem_cons_succ, List.getElem_cons_zero]
          refine wpAnyH_take (i := 8) (oi := _) (v := ?_) rfl (by kernel_rfl) (by kernel_rfl) (by kernel_rfl) (fun _ _ _ h => h) (Or.inl ⟨by rfl, ?_⟩) (by assumption) ?_
          rotate_left
          · (intro w hSw; (try dsimp only at hSw); (try simp only [List.getElem_toArray, List.getElem_cons_succ, List.getElem_cons_zero]); go_simp; try with_reducible rfl)
          simp only [Act.put, List.setIfInBounds_toArray, List.set_cons_zero, List.set_cons_succ, List.getElem_toArray, List.getElem_cons_succ, List.getElem_cons_zero]
          refine wpAnyH_take (i := 9) (oi := _) (v := ?_) rfl (by kernel_rfl) (by kernel_rfl) (by kernel_rfl) (fun _ _ _ h => h) (Or.inl ⟨by rfl, ?_⟩) (by assumption) ?_
          rotate_left
          · (intro w hSw; (try dsimp only at hSw); (try simp only [List.getElem_toArray, List.getElem_cons_succ, List.getElem_cons_zero]); go_simp; try with_reducible rfl)
          simp only [Act.put, List.setIfInBounds_toArray, List.set_cons_zero, List.set_cons_succ, List.getElem_toArray, List.getElem_cons_succ, List.getElem_cons_zero]
          refine wpAnyH_take (i := 10) (oi := _) (v := ?_) rfl (by kernel_rfl) (by kernel_rfl) (by kernel_rfl) (fun _ _ _ h => h) (Or.inl ⟨by rfl, ?_⟩) (by assumption) ?_
          rotate_left
          · (intro w hSw; (try dsimp only at hSw); (try simp only [List.getElem_toArray, List.getElem_cons_succ, List.getElem_cons_zero]); go_simp; try with_reducible rfl)
          simp only [Act.put, List.setIfInBounds_toArray, List.set_cons_zero, List.set_cons_succ, List.getElem_toArray, List.getElem_cons_succ, List.getElem_cons_zero]
          refine wpAnyH_take (i := 11) (oi := _) (v := ?_) rfl (by kernel_rfl) (by kernel_rfl) (by kernel_rfl) (fun _ _ _ h => h) (Or.inl ⟨by rfl, ?_⟩) (by assumption) ?_
          rotate_left
          · (intro w hSw; (try dsimp only at hSw); (try simp only [List.getElem_toArray, List.getElem_cons_succ, List.getElem_cons_zero]); go_simp; try with_reducible rfl)
          simp only [Act.put, List.setIfInBounds_toArray, List.set_cons_zero, List.set_cons_succ, List.getElem_toArray, List.getElem_cons_succ, List.getElem_cons_zero]
          refine wpAnyH_take (i := 12) (oi := _) (v := ?_) rfl (by kernel_rfl) (by kernel_rfl) (by kernel_rfl) (fun _ _ _ h => h) (Or.inl ⟨by rfl, ?_⟩) (by assumption) ?_
          rotate_left
          · (intro w hSw; (try dsimp only at hSw); (try simp only [List.getElem_toArray, List.getElem_cons_succ, List.getElem_cons_zero]); go_simp; try with_reducible rfl)
          simp only [Act.put, List.setIfInBounds_toArray, List.set_cons_zero, List.set_cons_succ, List.getElem_toArray, List.getElem_cons_succ, List.getElem_cons_zero]
          refine wpAnyH_take (i := 13) (oi := _) (v := ?_) rfl (by kernel_rfl) (by kernel_rfl) (by kernel_rfl) (fun _ _ _ h => h) (Or.inl ⟨by rfl, ?_⟩) (by assumption) ?_
          rotate_left
          · (intro w hSw; (try dsimp only at hSw); (try simp only [List.getElem_toArray, List.getElem_cons_succ, List.getElem_cons_zero]); go_simp; try with_reducible rfl)
          simp only [Act.put, List.setIfInBounds_toArray, List.set_cons_zero, List.set_cons_succ, List.getElem_toArray, List.getElem_cons_succ, List.getElem_cons_zero]
          refine wpAnyH_take (i := 14) (oi := _) (v := ?_) rfl (by kernel_rfl) (by kernel_rfl) (by kernel_rfl) (fun _ _ _ h => h) (Or.inl ⟨by rfl, ?_⟩) (by assumption) ?_
          rotate_left
          · (intro w hSw; (try dsimp only at hSw); (try simp only [List.getElem_toArray, List.getElem_cons_succ, List.getElem_cons_zero]); go_simp; try with_reducible rfl)
          simp only [Act.put, List.setIfInBounds_toArray, List.set_cons_zero, List.set_cons_succ, List.getElem_toArray, List.getElem_cons_succ, List.getElem_cons_zero]
          refine wpAnyH_ready (rs := [15]) (by kernel_rfl) (by simp) ?_
          refine AllReadyH.cons (o := _) rfl (fun K hK => ?_) AllReadyH.nil
          try simp only [List.getElem_toArray, List.getElem_cons_succ, List.getElem_cons_zero]
          go_simp
          (go_at_call 72; go_split_ands; (with_reducible refine (HIH.out x _ _ hxc HBD.out HVr.out.drew (HSE.out.keep hB.drew) (HBK.out.below hB.drew)).mono ?_); rintro e y ⟨rfl, hVy, hBy⟩; have HVy := Lib.hid hVy; clear hVy)
          go_wp2_with fail
          refine hK.out _ _ (HSX.out _ _ HVy.out (hbr.drew.trans hBy)) (fun hHeld => ?_)
          clear hK K
          try simp only [Act.put, List.setIfInBounds_toArray, List.set_cons_zero, List.set_cons_succ, List.getElem_toArray, List.getElem_cons_succ, List.getElem_cons_zero]
          refine wpAnyH_done (by kernel_rfl) ?_ _
          go_wp2_with fail
          go_roundw
          case rel => exact ⟨x + 1, by omega, by go_num, Lib.hid (by rw [HFK.out]; exact HVy.out), hB.trans (hbr.drew.trans hBy)⟩
          case measure => simp [intOf]; omega
        · have hxe : x = (C + 1).toNat := by omega
          have HVe := Lib.hid (by rw [hxe] at HVr; exact HVr.out : NearS B wr Bs wt (foldN wt (L.drop (k + 1)) s W none (C + 1).toNat))
          clear HVr hxe
          go_wp2_with fail
          exact bodyPost_end (results_none rfl _ _ _) rfl ⟨rfl, HVe.out, hB⟩
    · go_enter Tryz.func72, Tryz.ntmps72
      go_upto_region 0 with (fail)
      go_region
      go_upto_region 4 with (go_at_call 71; (with_reducible refine (farN_any (B + 1) wt b _ (by omega) (by omega) (by simpa using q1)).mono ?_); rintro e wf ⟨rfl, rfl⟩; rw [HF.out])
      have HVq := Lib.hid HV.out.drew
      have hBq := (Below.refl B w).drew
      clear q0 q1 q2 q3 q4 q5 q6 q7
      go_wp2_with fail
      go_loopw [11] (fun i wr => ∃ x : Nat, (x : Int) ≤ C + 1 ∧ i = .int .i64 x ∧ Hid (NearS B wr Bs wt (foldN wt (L.drop (k + 1)) s W none x)) ∧ Below B w wr) (fun i _ => (C + 1 - intOf i).toNat)
      case atStart => exact ⟨0, by omega, rfl, HVq, hBq⟩
      case round =>
        obtain ⟨x, hx, rfl, HVr, hB⟩ := hrel
        have q0 := HVr.out.cs
        obtain ⟨_, q5, _⟩ := HSE.out.keep hB
        have qw1 := (hB.cell (p := ⟨b', off + k * 3 + 1, none⟩) hb').trans qw
        have qc1 := (hB.cell (p := ⟨b', off + k * 3 + 2, none⟩) hb').trans qc
        clear hBq
        have hszr := HVr.out.size
        by_cases hxc : (x : Int) ≤ C
        · obtain ⟨m0, m1'⟩ := HXM.out x hxc
          have HFK : Hid (foldN wt (L.drop (k + 1)) s W none (x + 1) = visitN wt (L.drop (k + 1)) (s + x * W) (foldN wt (L.drop (k + 1)) s W none x)) := Lib.hid rfl
          have HBD := Lib.hid (HBF.out x hxc)
          generalize foldN wt (L.drop (k + 1)) s W none x = sx at *
          have t1 : IntKind.i64.wrap ((x : Int) * W) = (x : Int) * W := IntWalk.i64_in _ (by omega)
          have t2 : IntKind.i64.wrap (s + (x : Int) * W) = s + (x : Int) * W := IntWalk.i64_in _ (by omega)
          have t3 : IntKind.i64.wrap ((k : Int) + 1) = (k : Int) + 1 := IntWalk.i64_in _ (by omega)
          have t4 : IntKind.i64.wrap ((x : Int) + 1) = (x : Int) + 1 := IntWalk.i64_in _ (by omega)
          have hbr := Below.refl B wr
          have HSX : Hid (∀ (w' : World) (sy : Option Int), NearS B w' Bs wt sy → Below B wr w' → (Below B wr w' ∧ w'.cell? ⟨B + 5, 0, none⟩ = some (.func (.func 72) #[] #[.pointer (some ⟨B + 1, 0, none⟩), .pointer (some ⟨B, 0, none⟩), .pointer (some ⟨B + 3, 0, none⟩), .pointer (some ⟨B + 4, 0, none⟩), .pointer (some ⟨B + 2, 0, none⟩), .pointer (some ⟨B + 5, 0, none⟩)]) ∧ w'.cell? ⟨B, 0, none⟩ = some (.pointer (some ⟨Bs, 0, none⟩)) ∧ w'.cell? ⟨Bs, 0, none⟩ = some (.slice (some ⟨b', off, none⟩) L.length cap) ∧ w'.cell? ⟨b', off + k * 3 + 1, none⟩ = some (.int .i64 W))) := Lib.hid fun w' sy hV' hB' =>
            ⟨hB', hV'.cv, hV'.cs, (hB'.cell (p := ⟨Bs, 0, none⟩) hbs).trans q5, (hB'.cell (p := ⟨b', off + k * 3 + 1, none⟩) hb').trans qw1⟩
          go_upto_region 7 with (fail)
          refine wp_region_held_drew (S := (fun w' => Below B wr w' ∧ w'.cell? ⟨B + 5, 0, none⟩ = some (.func (.func 72) #[] #[.pointer (some ⟨B + 1, 0, none⟩), .pointer (some ⟨B, 0, none⟩), .pointer (some ⟨B + 3, 0, none⟩), .pointer (some ⟨B + 4, 0, none⟩), .pointer (some ⟨B + 2, 0, none⟩), .pointer (some ⟨B + 5, 0, none⟩)]) ∧ w'.cell? ⟨B, 0, none⟩ = some (.pointer (some ⟨Bs, 0, none⟩)) ∧ w'.cell? ⟨Bs, 0, none⟩ = some (.slice (some ⟨b', off, none⟩) L.length cap) ∧ w'.cell? ⟨b', off + k * 3 + 1, none⟩ = some (.int .i64 W))) (by kernel_rfl) (HSX.out _ _ HVr.out.drew hbr.drew) (fun hHeld => ?_)
          refine wpAnyH_take (i := 0) (oi := _) (v := ?_) rfl (by kernel_rfl) (by kernel_rfl) (by kernel_rfl) (fun _ _ _ h => h) (Or.inl ⟨by rfl, ?_⟩) (by assumption) ?_
          rotate_left
          · (intro w hSw; (try dsimp only at hSw); (try simp only [List.getElem_toArray, List.getElem_cons_zero]); go_simp; try with_reducible rfl)
          simp only [Act.put, List.setIfInBounds_toArray, List.set_cons_zero, List.set_cons_succ, List.getElem_toArray, List.getElem_cons_zero]
          refine wpAnyH_take (i := 1) (oi := _) (v := ?_) rfl (by kernel_rfl) (by kernel_rfl) (by kernel_rfl) (fun _ _ _ h => h) (Or.inl ⟨by rfl, ?_⟩) (by assumption) ?_
          rotate_left
          · (intro w hSw; (try dsimp only at hSw); (try simp only [List.getElem_toArray, List.getElem_cons_succ, List.getElem_cons_zero]); go_simp; try with_reducible rfl)
          simp only [Act.put, List.setIfInBounds_toArray, List.set_cons_zero, List.set_cons_succ, List.getElem_toArray, List.getElem_cons_succ, List.getElem_cons_zero]
          refine wpAnyH_take (i := 2) (oi := _) (v := ?_) rfl (by kernel_rfl) (by kernel_rfl) (by kernel_rfl) (fun _ _ _ h => h) (Or.inl ⟨by rfl, ?_⟩) (by assumption) ?_
          rotate_left
          · (intro w hSw; (try dsimp only at hSw); (try simp only [List.getElem_toArray, List.getElem_cons_succ, List.getElem_cons_zero]); go_simp; try with_reducible rfl)
          simp only [Act.put, List.setIfInBounds_toArray, List.set_cons_zero, List.set_cons_succ, List.getElem_toArray, List.getElem_cons_succ, List.getElem_cons_zero]
          refine wpAnyH_take (i := 3) (oi := _) (v := ?_) rfl (by kernel_rfl) (by kernel_rfl) (by kernel_rfl) (fun _ _ _ h => h) (Or.inl ⟨by rfl, ?_⟩) (by assumption) ?_
          rotate_left
          · (intro w hSw; (try dsimp only at hSw); (try simp only [List.getElem_toArray, List.getElem_cons_succ, List.getElem_cons_zero]); go_simp; try with_reducible rfl)
          simp only [Act.put, List.setIfInBounds_toArray, List.set_cons_zero, List.set_cons_succ, List.getElem_toArray, List.getElem_cons_succ, List.getElem_cons_zero]
          refine wpAnyH_take (i := 4) (oi := _) (v := ?_) rfl (by kernel_rfl) (by kernel_rfl) (by kernel_rfl) (fun _ _ _ h => h) (Or.inl ⟨by rfl, ?_⟩) (by assumption) ?_
          rotate_left
          · (intro w hSw; (try dsimp only at hSw); (try simp only [List.getElem_toArray, List.getElem_cons_succ, List.getElem_cons_zero]); go_simp; try with_reducible rfl)
          simp only [Act.put, List.setIfInBounds_toArray, List.set_cons_zero, List.set_cons_succ, List.getElem_toArray, List.getElem_cons_succ, List.getElem_cons_zero]
          refine wpAnyH_take (i := 5) (oi := _) (v := ?_) rfl (by kernel_rfl) (by kernel_rfl) (by kernel_rfl) (fun _ _ _ h => h) (Or.inl ⟨by rfl, ?_⟩) (by assumption) ?_
          rotate_left
          · (intro w hSw; (try dsimp only at hSw); (try simp only [List.getElem_toArray, List.getElem_cons_succ, List.getElem_cons_zero]); go_simp; try with_reducible rfl)
          simp only [Act.put, List.setIfInBounds_toArray, List.set_cons_zero, List.set_cons_succ, List.getElem_toArray, List.getElem_cons_succ, List.getElem_cons_zero]
          refine wpAnyH_take (i := 6) (oi := _) (v := ?_) rfl (by kernel_rfl) (by kernel_rfl) (by kernel_rfl) (fun _ _ _ h => h) (Or.inl ⟨by rfl, ?_⟩) (by assumption) ?_
          rotate_left
          · (intro w hSw; (try dsimp only at hSw); (try simp only [List.getElem_toArray, List.getElem_cons_succ, List.getElem_cons_zero]); go_simp; try with_reducible rfl)
          simp only [Act.put, List.setIfInBounds_toArray, List.set_cons_zero, List.set_cons_succ, List.getElem_toArray, List.getElem_cons_succ, List.getElem_cons_zero]
          refine wpAnyH_take (i := 7) (oi := _) (v := ?_) rfl (by kernel_rfl) (by kernel_rfl) (by kernel_rfl) (fun _ _ _ h => h) (Or.inl ⟨by rfl, ?_⟩) (by assumption) ?_
          rotate_left
          · (intro w hSw; (try dsimp only at hSw); (try simp only [List.getElem_toArray, List.getElem_cons_succ, List.getElem_cons_zero]); go_simp; try with_reducible rfl)
          simp only [Act.put, List.setIfInBounds_toArray, List.set_cons_zero, List.set_cons_succ, List.getElem_toArray, List.getElem_cons_succ, List.getElem_cons_zero]
          refine wpAnyH_take (i := 8) (oi := _) (v := ?_) rfl (by kernel_rfl) (by kernel_rfl) (by kernel_rfl) (fun _ _ _ h => h) (Or.inl ⟨by rfl, ?_⟩) (by assumption) ?_
          rotate_left
          · (intro w hSw; (try dsimp only at hSw); (try simp only [List.getElem_toArray, List.getElem_cons_succ, List.getElem_cons_zero]); go_simp; try with_reducible rfl)
          simp only [Act.put, List.setIfInBounds_toArray, List.set_cons_zero, List.set_cons_succ, List.getElem_toArray, List.getElem_cons_succ, List.getElem_cons_zero]
          refine wpAnyH_take (i := 9) (oi := _) (v := ?_) rfl (by kernel_rfl) (by kernel_rfl) (by kernel_rfl) (fun _ _ _ h => h) (Or.inl ⟨by rfl, ?_⟩) (by assumption) ?_
          rotate_left
          · (intro w hSw; (try dsimp only at hSw); (try simp only [List.getElem_toArray, List.getElem_cons_succ, List.getElem_cons_zero]); go_simp; try with_reducible rfl)
          simp only [Act.put, List.setIfInBounds_toArray, List.set_cons_zero, List.set_cons_succ, List.getElem_toArray, List.getElem_cons_succ, List.getElem_cons_zero]
          refine wpAnyH_take (i := 10) (oi := _) (v := ?_) rfl (by kernel_rfl) (by kernel_rfl) (by kernel_rfl) (fun _ _ _ h => h) (Or.inl ⟨by rfl, ?_⟩) (by assumption) ?_
          rotate_left
          · (intro w hSw; (try dsimp only at hSw); (try simp only [List.getElem_toArray, List.getElem_cons_succ, List.getElem_cons_zero]); go_simp; try with_reducible rfl)
          simp only [Act.put, List.setIfInBounds_toArray, List.set_cons_zero, List.set_cons_succ, List.getElem_toArray, List.getElem_cons_succ, List.getElem_cons_zero]
          refine wpAnyH_take (i := 11) (oi := _) (v := ?_) rfl (by kernel_rfl) (by kernel_rfl) (by kernel_rfl) (fun _ _ _ h => h) (Or.inl ⟨by rfl, ?_⟩) (by assumption) ?_
          rotate_left
          · (intro w hSw; (try dsimp only at hSw); (try simp only [List.getElem_toArray, List.getElem_cons_succ, List.getElem_cons_zero]); go_simp; try with_reducible rfl)
          simp only [Act.put, List.setIfInBounds_toArray, List.set_cons_zero, List.set_cons_succ, List.getElem_toArray, List.getElem_cons_succ, List.getElem_cons_zero]
          refine wpAnyH_take (i := 12) (oi := _) (v := ?_) rfl (by kernel_rfl) (by kernel_rfl) (by kernel_rfl) (fun _ _ _ h => h) (Or.inl ⟨by rfl, ?_⟩) (by assumption) ?_
          rotate_left
          · (intro w hSw; (try dsimp only at hSw); (try simp only [List.getElem_toArray, List.getElem_cons_succ, List.getElem_cons_zero]); go_simp; try with_reducible rfl)
          simp only [Act.put, List.setIfInBounds_toArray, List.set_cons_zero, List.set_cons_succ, List.getElem_toArray, List.getElem_cons_succ, List.getElem_cons_zero]
          refine wpAnyH_take (i := 13) (oi := _) (v := ?_) rfl (by kernel_rfl) (by kernel_rfl) (by kernel_rfl) (fun _ _ _ h => h) (Or.inl ⟨by rfl, ?_⟩) (by assumption) ?_
          rotate_left
          · (intro w hSw; (try dsimp only at hSw); (try simp only [List.getElem_toArray, List.getElem_cons_succ, List.getElem_cons_zero]); go_simp; try with_reducible rfl)
          simp only [Act.put, List.setIfInBounds_toArray, List.set_cons_zero, List.set_cons_succ, List.getElem_toArray, List.getElem_cons_succ, List.getElem_cons_zero]
          refine wpAnyH_take (i := 14) (oi := _) (v := ?_) rfl (by kernel_rfl) (by kernel_rfl) (by kernel_rfl) (fun _ _ _ h => h) (Or.inl ⟨by rfl, ?_⟩) (by assumption) ?_
          rotate_left
          · (intro w hSw; (try dsimp only at hSw); (try simp only [List.getElem_toArray, List.getElem_cons_succ, List.getElem_cons_zero]); go_simp; try with_reducible rfl)
          simp only [Act.put, List.setIfInBounds_toArray, List.set_cons_zero, List.set_cons_succ, List.getElem_toArray, List.getElem_cons_succ, List.getElem_cons_zero]
          refine wpAnyH_ready (rs := [15]) (by kernel_rfl) (by simp) ?_
          refine AllReadyH.cons (o := _) rfl (fun K hK => ?_) AllReadyH.nil
          try simp only [List.getElem_toArray, List.getElem_cons_succ, List.getElem_cons_zero]
          go_simp
          (go_at_call 72; go_split_ands; (with_reducible refine (HIH.out x _ _ hxc HBD.out HVr.out.drew (HSE.out.keep hB.drew) (HBK.out.below hB.drew)).mono ?_); rintro e y ⟨rfl, hVy, hBy⟩; have HVy := Lib.hid hVy; clear hVy)
          go_wp2_with fail
          refine hK.out _ _ (HSX.out _ _ HVy.out (hbr.drew.trans hBy)) (fun hHeld => ?_)
          clear hK K
          try simp only [Act.put, List.setIfInBounds_toArray, List.set_cons_zero, List.set_cons_succ, List.getElem_toArray, List.getElem_cons_succ, List.getElem_cons_zero]
          refine wpAnyH_done (by kernel_rfl) ?_ _
          go_wp2_with fail
          go_roundw
          case rel => exact ⟨x + 1, by omega, by go_num, Lib.hid (by rw [HFK.out]; exact HVy.out), hB.trans (hbr.drew.trans hBy)⟩
          case measure => simp [intOf]; omega
        · have hxe : x = (C + 1).toNat := by omega
          have HVe := Lib.hid (by rw [hxe] at HVr; exact HVr.out : NearS B wr Bs wt (foldN wt (L.drop (k + 1)) s W none (C + 1).toNat))
          clear HVr hxe
          go_wp2_with fail
          exact bodyPost_end (results_none rfl _ _ _) rfl ⟨rfl, HVe.out, hB⟩
    · go_enter Tryz.func72, Tryz.ntmps72
      go_upto_region 0 with (fail)
      go_region
      go_upto_region 4 with (go_at_call 71; (with_reducible refine (farN_any (B + 1) wt b _ (by omega) (by omega) (by simpa using q1)).mono ?_); rintro e wf ⟨rfl, rfl⟩; rw [HF.out])
      have HVq := Lib.hid HV.out.drew
      have hBq := (Below.refl B w).drew
      clear q0 q1 q2 q3 q4 q5 q6 q7
      go_wp2_with fail
      go_loopw [11] (fun i wr => ∃ x : Nat, (x : Int) ≤ C + 1 ∧ i = .int .i64 x ∧ Hid (NearS B wr Bs wt (foldN wt (L.drop (k + 1)) s W none x)) ∧ Below B w wr) (fun i _ => (C + 1 - intOf i).toNat)
      case atStart => exact ⟨0, by omega, rfl, HVq, hBq⟩
      case round =>
        obtain ⟨x, hx, rfl, HVr, hB⟩ := hrel
        have q0 := HVr.out.cs
        obtain ⟨_, q5, _⟩ := HSE.out.keep hB
        have qw1 := (hB.cell (p := ⟨b', off + k * 3 + 1, none⟩) hb').trans qw
        have qc1 := (hB.cell (p := ⟨b', off + k * 3 + 2, none⟩) hb').trans qc
        clear hBq
        have hszr := HVr.out.size
        by_cases hxc : (x : Int) ≤ C
        · obtain ⟨m0, m1'⟩ := HXM.out x hxc
          have HFK : Hid (foldN wt (L.drop (k + 1)) s W none (x + 1) = visitN wt (L.drop (k + 1)) (s + x * W) (foldN wt (L.drop (k + 1)) s W none x)) := Lib.hid rfl
          have HBD := Lib.hid (HBF.out x hxc)
          generalize foldN wt (L.drop (k + 1)) s W none x = sx at *
          have t1 : IntKind.i64.wrap ((x : Int) * W) = (x : Int) * W := IntWalk.i64_in _ (by omega)
          have t2 : IntKind.i64.wrap (s + (x : Int) * W) = s + (x : Int) * W := IntWalk.i64_in _ (by omega)
          have t3 : IntKind.i64.wrap ((k : Int) + 1) = (k : Int) + 1 := IntWalk.i64_in _ (by omega)
          have t4 : IntKind.i64.wrap ((x : Int) + 1) = (x : Int) + 1 := IntWalk.i64_in _ (by omega)
          have hbr := Below.refl B wr
          have HSX : Hid (∀ (w' : World) (sy : Option Int), NearS B w' Bs wt sy → Below B wr w' → (Below B wr w' ∧ w'.cell? ⟨B + 5, 0, none⟩ = some (.func (.func 72) #[] #[.pointer (some ⟨B + 1, 0, none⟩), .pointer (some ⟨B, 0, none⟩), .pointer (some ⟨B + 3, 0, none⟩), .pointer (some ⟨B + 4, 0, none⟩), .pointer (some ⟨B + 2, 0, none⟩), .pointer (some ⟨B + 5, 0, none⟩)]) ∧ w'.cell? ⟨B, 0, none⟩ = some (.pointer (some ⟨Bs, 0, none⟩)) ∧ w'.cell? ⟨Bs, 0, none⟩ = some (.slice (some ⟨b', off, none⟩) L.length cap) ∧ w'.cell? ⟨b', off + k * 3 + 1, none⟩ = some (.int .i64 W))) := Lib.hid fun w' sy hV' hB' =>
            ⟨hB', hV'.cv, hV'.cs, (hB'.cell (p := ⟨Bs, 0, none⟩) hbs).trans q5, (hB'.cell (p := ⟨b', off + k * 3 + 1, none⟩) hb').trans qw1⟩
          go_upto_region 7 with (fail)
          refine wp_region_held_drew (S := (fun w' => Below B wr w' ∧ w'.cell? ⟨B + 5, 0, none⟩ = some (.func (.func 72) #[] #[.pointer (some ⟨B + 1, 0, none⟩), .pointer (some ⟨B, 0, none⟩), .pointer (some ⟨B + 3, 0, none⟩), .pointer (some ⟨B + 4, 0, none⟩), .pointer (some ⟨B + 2, 0, none⟩), .pointer (some ⟨B + 5, 0, none⟩)]) ∧ w'.cell? ⟨B, 0, none⟩ = some (.pointer (some ⟨Bs, 0, none⟩)) ∧ w'.cell? ⟨Bs, 0, none⟩ = some (.slice (some ⟨b', off, none⟩) L.length cap) ∧ w'.cell? ⟨b', off + k * 3 + 1, none⟩ = some (.int .i64 W))) (by kernel_rfl) (HSX.out _ _ HVr.out.drew hbr.drew) (fun hHeld => ?_)
          refine wpAnyH_take (i := 0) (oi := _) (v := ?_) rfl (by kernel_rfl) (by kernel_rfl) (by kernel_rfl) (fun _ _ _ h => h) (Or.inl ⟨by rfl, ?_⟩) (by assumption) ?_
          rotate_left
          · (intro w hSw; (try dsimp only at hSw); (try simp only [List.getElem_toArray, List.getElem_cons_zero]); go_simp; try with_reducible rfl)
          simp only [Act.put, List.setIfInBounds_toArray, List.set_cons_zero, List.set_cons_succ, List.getElem_toArray, List.getElem_cons_zero]
          refine wpAnyH_take (i := 1) (oi := _) (v := ?_) rfl (by kernel_rfl) (by kernel_rfl) (by kernel_rfl) (fun _ _ _ h => h) (Or.inl ⟨by rfl, ?_⟩) (by assumption) ?_
          rotate_left
          · (intro w hSw; (try dsimp only at hSw); (try simp only [List.getElem_toArray, List.getElem_cons_succ, List.getElem_cons_zero]); go_simp; try with_reducible rfl)
          simp only [Act.put, List.setIfInBounds_toArray, List.set_cons_zero, List.set_cons_succ, List.getElem_toArray, List.getElem_cons_succ, List.getElem_cons_zero]
          refine wpAnyH_take (i := 2) (oi := _) (v := ?_) rfl (by kernel_rfl) (by kernel_rfl) (by kernel_rfl) (fun _ _ _ h => h) (Or.inl ⟨by rfl, ?_⟩) (by assumption) ?_
          rotate_left
          · (intro w hSw; (try dsimp only at hSw); (try simp only [List.getElem_toArray, List.getElem_cons_succ, List.getElem_cons_zero]); go_simp; try with_reducible rfl)
          simp only [Act.put, List.setIfInBounds_toArray, List.set_cons_zero, List.set_cons_succ, List.getElem_toArray, List.getElem_cons_succ, List.getElem_cons_zero]
          refine wpAnyH_take (i := 3) (oi := _) (v := ?_) rfl (by kernel_rfl) (by kernel_rfl) (by kernel_rfl) (fun _ _ _ h => h) (Or.inl ⟨by rfl, ?_⟩) (by assumption) ?_
          rotate_left
          · (intro w hSw; (try dsimp only at hSw); (try simp only [List.getElem_toArray, List.getElem_cons_succ, List.getElem_cons_zero]); go_simp; try with_reducible rfl)
          simp only [Act.put, List.setIfInBounds_toArray, List.set_cons_zero, List.set_cons_succ, List.getElem_toArray, List.getElem_cons_succ, List.getElem_cons_zero]
          refine wpAnyH_take (i := 4) (oi := _) (v := ?_) rfl (by kernel_rfl) (by kernel_rfl) (by kernel_rfl) (fun _ _ _ h => h) (Or.inl ⟨by rfl, ?_⟩) (by assumption) ?_
          rotate_left
          · (intro w hSw; (try dsimp only at hSw); (try simp only [List.getElem_toArray, List.getElem_cons_succ, List.getElem_cons_zero]); go_simp; try with_reducible rfl)
          simp only [Act.put, List.setIfInBounds_toArray, List.set_cons_zero, List.set_cons_succ, List.getElem_toArray, List.getElem_cons_succ, List.getElem_cons_zero]
          refine wpAnyH_take (i := 5) (oi := _) (v := ?_) rfl (by kernel_rfl) (by kernel_rfl) (by kernel_rfl) (fun _ _ _ h => h) (Or.inl ⟨by rfl, ?_⟩) (by assumption) ?_
          rotate_left
          · (intro w hSw; (try dsimp only at hSw); (try simp only [List.getElem_toArray, List.getElem_cons_succ, List.getElem_cons_zero]); go_simp; try with_reducible rfl)
          simp only [Act.put, List.setIfInBounds_toArray, List.set_cons_zero, List.set_cons_succ, List.getElem_toArray, List.getElem_cons_succ, List.getElem_cons_zero]
          refine wpAnyH_take (i := 6) (oi := _) (v := ?_) rfl (by kernel_rfl) (by kernel_rfl) (by kernel_rfl) (fun _ _ _ h => h) (Or.inl ⟨by rfl, ?_⟩) (by assumption) ?_
          rotate_left
          · (intro w hSw; (try dsimp only at hSw); (try simp only [List.getElem_toArray, List.getElem_cons_succ, List.getElem_cons_zero]); go_simp; try with_reducible rfl)
          simp only [Act.put, List.setIfInBounds_toArray, List.set_cons_zero, List.set_cons_succ, List.getElem_toArray, List.getElem_cons_succ, List.getElem_cons_zero]
          refine wpAnyH_take (i := 7) (oi := _) (v := ?_) rfl (by kernel_rfl) (by kernel_rfl) (by kernel_rfl) (fun _ _ _ h => h) (Or.inl ⟨by rfl, ?_⟩) (by assumption) ?_
          rotate_left
          · (intro w hSw; (try dsimp only at hSw); (try simp only [List.getElem_toArray, List.getElem_cons_succ, List.getElem_cons_zero]); go_simp; try with_reducible rfl)
          simp only [Act.put, List.setIfInBounds_toArray, List.set_cons_zero, List.set_cons_succ, List.getElem_toArray, List.getElem_cons_succ, List.getElem_cons_zero]
          refine wpAnyH_take (i := 8) (oi := _) (v := ?_) rfl (by kernel_rfl) (by kernel_rfl) (by kernel_rfl) (fun _ _ _ h => h) (Or.inl ⟨by rfl, ?_⟩) (by assumption) ?_
          rotate_left
          · (intro w hSw; (try dsimp only at hSw); (try simp only [List.getElem_toArray, List.getElem_cons_succ, List.getElem_cons_zero]); go_simp; try with_reducible rfl)
          simp only [Act.put, List.setIfInBounds_toArray, List.set_cons_zero, List.set_cons_succ, List.getElem_toArray, List.getElem_cons_succ, List.getElem_cons_zero]
          refine wpAnyH_take (i := 9) (oi := _) (v := ?_) rfl (by kernel_rfl) (by kernel_rfl) (by kernel_rfl) (fun _ _ _ h => h) (Or.inl ⟨by rfl, ?_⟩) (by assumption) ?_
          rotate_left
          · (intro w hSw; (try dsimp only at hSw); (try simp only [List.getElem_toArray, List.getElem_cons_succ, List.getElem_cons_zero]); go_simp; try with_reducible rfl)
          simp only [Act.put, List.setIfInBounds_toArray, List.set_cons_zero, List.set_cons_succ, List.getElem_toArray, List.getElem_cons_succ, List.getElem_cons_zero]
          refine wpAnyH_take (i := 10) (oi := _) (v := ?_) rfl (by kernel_rfl) (by kernel_rfl) (by kernel_rfl) (fun _ _ _ h => h) (Or.inl ⟨by rfl, ?_⟩) (by assumption) ?_
          rotate_left
          · (intro w hSw; (try dsimp only at hSw); (try simp only [List.getElem_toArray, List.getElem_cons_succ, List.getElem_cons_zero]); go_simp; try with_reducible rfl)
          simp only [Act.put, List.setIfInBounds_toArray, List.set_cons_zero, List.set_cons_succ, List.getElem_toArray, List.getElem_cons_succ, List.getElem_cons_zero]
          refine wpAnyH_take (i := 11) (oi := _) (v := ?_) rfl (by kernel_rfl) (by kernel_rfl) (by kernel_rfl) (fun _ _ _ h => h) (Or.inl ⟨by rfl, ?_⟩) (by assumption) ?_
          rotate_left
          · (intro w hSw; (try dsimp only at hSw); (try simp only [List.getElem_toArray, List.getElem_cons_succ, List.getElem_cons_zero]); go_simp; try with_reducible rfl)
          simp only [Act.put, List.setIfInBounds_toArray, List.set_cons_zero, List.set_cons_succ, List.getElem_toArray, List.getElem_cons_succ, List.getElem_cons_zero]
          refine wpAnyH_take (i := 12) (oi := _) (v := ?_) rfl (by kernel_rfl) (by kernel_rfl) (by kernel_rfl) (fun _ _ _ h => h) (Or.inl ⟨by rfl, ?_⟩) (by assumption) ?_
          rotate_left
          · (intro w hSw; (try dsimp only at hSw); (try simp only [List.getElem_toArray, List.getElem_cons_succ, List.getElem_cons_zero]); go_simp; try with_reducible rfl)
          simp only [Act.put, List.setIfInBounds_toArray, List.set_cons_zero, List.set_cons_succ, List.getElem_toArray, List.getElem_cons_succ, List.getElem_cons_zero]
          refine wpAnyH_take (i := 13) (oi := _) (v := ?_) rfl (by kernel_rfl) (by kernel_rfl) (by kernel_rfl) (fun _ _ _ h => h) (Or.inl ⟨by rfl, ?_⟩) (by assumption) ?_
          rotate_left
          · (intro w hSw; (try dsimp only at hSw); (try simp only [List.getElem_toArray, List.getElem_cons_succ, List.getElem_cons_zero]); go_simp; try with_reducible rfl)
          simp only [Act.put, List.setIfInBounds_toArray, List.set_cons_zero, List.set_cons_succ, List.getElem_toArray, List.getElem_cons_succ, List.getElem_cons_zero]
          refine wpAnyH_take (i := 14) (oi := _) (v := ?_) rfl (by kernel_rfl) (by kernel_rfl) (by kernel_rfl) (fun _ _ _ h => h) (Or.inl ⟨by rfl, ?_⟩) (by assumption) ?_
          rotate_left
          · (intro w hSw; (try dsimp only at hSw); (try simp only [List.getElem_toArray, List.getElem_cons_succ, List.getElem_cons_zero]); go_simp; try with_reducible rfl)
          simp only [Act.put, List.setIfInBounds_toArray, List.set_cons_zero, List.set_cons_succ, List.getElem_toArray, List.getElem_cons_succ, List.getElem_cons_zero]
          refine wpAnyH_ready (rs := [15]) (by kernel_rfl) (by simp) ?_
          refine AllReadyH.cons (o := _) rfl (fun K hK => ?_) AllReadyH.nil
          try simp only [List.getElem_toArray, List.getElem_cons_succ, List.getElem_cons_zero]
          go_simp
          (go_at_call 72; go_split_ands; (with_reducible refine (HIH.out x _ _ hxc HBD.out HVr.out.drew (HSE.out.keep hB.drew) (HBK.out.below hB.drew)).mono ?_); rintro e y ⟨rfl, hVy, hBy⟩; have HVy := Lib.hid hVy; clear hVy)
          go_wp2_with fail
          refine hK.out _ _ (HSX.out _ _ HVy.out (hbr.drew.trans hBy)) (fun hHeld => ?_)
          clear hK K
          try simp only [Act.put, List.setIfInBounds_toArray, List.set_cons_zero, List.set_cons_succ, List.getElem_toArray, List.getElem_cons_succ, List.getElem_cons_zero]
          refine wpAnyH_done (by kernel_rfl) ?_ _
          go_wp2_with fail
          go_roundw
          case rel => exact ⟨x + 1, by omega, by go_num, Lib.hid (by rw [HFK.out]; exact HVy.out), hB.trans (hbr.drew.trans hBy)⟩
          case measure => simp [intOf]; omega
        · have hxe : x = (C + 1).toNat := by omega
          have HVe := Lib.hid (by rw [hxe] at HVr; exact HVr.out : NearS B wr Bs wt (foldN wt (L.drop (k + 1)) s W none (C + 1).toNat))
          clear HVr hxe
          go_wp2_with fail
          exact bodyPost_end (results_none rfl _ _ _) rfl ⟨rfl, HVe.out, hB⟩
  | some b =>
    have hb := hbs2 b rfl
    have h := hgo b rfl
    simp only [Option.getD_some, Option.isSome_some] at q2 q3
    obtain ⟨f, hf⟩ : ∃ f, farN wt b = f := ⟨_, rfl⟩
    have HF := Lib.hid hf
    rw [hf] at h
    clear hf hgo hbs2
    rcases hlv with ⟨m1, m2, m3⟩ | ⟨m1, m2, m3⟩ | ⟨m1, m2, m3⟩
    · rw [m3] at h
      clear m3
      have g1 : decide (f < (s - wt)) = false := decide_eq_false (by omega)
      by_cases h' : (s - wt) = f
      · have g2 : ((s - wt) == f) = true := beq_iff_eq.2 h'
        have g3 : decide (b ≤ s) = false := decide_eq_false (by omega)
        clear h h'
        go_enter Tryz.func72, Tryz.ntmps72
        go_upto_region 0 with (fail)
        go_region
        go_upto_region 4 with (go_at_call 71; (with_reducible refine (farN_any (B + 1) wt b _ (by omega) (by omega) (by simpa using q1)).mono ?_); rintro e wf ⟨rfl, rfl⟩; rw [HF.out])
        have HVq := Lib.hid HV.out.drew
        have hBq := (Below.refl B w).drew
        clear q0 q1 q2 q3 q4 q5 q6 q7
        go_wp2_with fail
        go_loopw [11] (fun i wr => ∃ x : Nat, (x : Int) ≤ C + 1 ∧ i = .int .i64 x ∧ Hid (NearS B wr Bs wt (foldN wt (L.drop (k + 1)) s W (some b) x)) ∧ Below B w wr) (fun i _ => (C + 1 - intOf i).toNat)
        case atStart => exact ⟨0, by omega, rfl, HVq, hBq⟩
        case round =>
          obtain ⟨x, hx, rfl, HVr, hB⟩ := hrel
          have q0 := HVr.out.cs
          obtain ⟨_, q5, _⟩ := HSE.out.keep hB
          have qw1 := (hB.cell (p := ⟨b', off + k * 3 + 1, none⟩) hb').trans qw
          have qc1 := (hB.cell (p := ⟨b', off + k * 3 + 2, none⟩) hb').trans qc
          clear hBq
          have hszr := HVr.out.size
          by_cases hxc : (x : Int) ≤ C
          · obtain ⟨m0, m1'⟩ := HXM.out x hxc
            have HFK : Hid (foldN wt (L.drop (k + 1)) s W (some b) (x + 1) = visitN wt (L.drop (k + 1)) (s + x * W) (foldN wt (L.drop (k + 1)) s W (some b) x)) := Lib.hid rfl
            have HBD := Lib.hid (HBF.out x hxc)
            generalize foldN wt (L.drop (k + 1)) s W (some b) x = sx at *
            have t1 : IntKind.i64.wrap ((x : Int) * W) = (x : Int) * W := IntWalk.i64_in _ (by omega)
            have t2 : IntKind.i64.wrap (s + (x : Int) * W) = s + (x : Int) * W := IntWalk.i64_in _ (by omega)
            have t3 : IntKind.i64.wrap ((k : Int) + 1) = (k : Int) + 1 := IntWalk.i64_in _ (by omega)
            have t4 : IntKind.i64.wrap ((x : Int) + 1) = (x : Int) + 1 := IntWalk.i64_in _ (by omega)
            have hbr := Below.refl B wr
            have HSX : Hid (∀ (w' : World) (sy : Option Int), NearS B w' Bs wt sy → Below B wr w' → (Below B wr w' ∧ w'.cell? ⟨B + 5, 0, none⟩ = some (.func (.func 72) #[] #[.pointer (some ⟨B + 1, 0, none⟩), .pointer (some ⟨B, 0, none⟩), .pointer (some ⟨B + 3, 0, none⟩), .pointer (some ⟨B + 4, 0, none⟩), .pointer (some ⟨B + 2, 0, none⟩), .pointer (some ⟨B + 5, 0, none⟩)]) ∧ w'.cell? ⟨B, 0, none⟩ = some (.pointer (some ⟨Bs, 0, none⟩)) ∧ w'.cell? ⟨Bs, 0, none⟩ = some (.slice (some ⟨b', off, none⟩) L.length cap) ∧ w'.cell? ⟨b', off + k * 3 + 1, none⟩ = some (.int .i64 W))) := Lib.hid fun w' sy hV' hB' =>
              ⟨hB', hV'.cv, hV'.cs, (hB'.cell (p := ⟨Bs, 0, none⟩) hbs).trans q5, (hB'.cell (p := ⟨b', off + k * 3 + 1, none⟩) hb').trans qw1⟩
            go_upto_region 7 with (fail)
            refine wp_region_held_drew (S := (fun w' => Below B wr w' ∧ w'.cell? ⟨B + 5, 0, none⟩ = some (.func (.func 72) #[] #[.pointer (some ⟨B + 1, 0, none⟩), .pointer (some ⟨B, 0, none⟩), .pointer (some ⟨B + 3, 0, none⟩), .pointer (some ⟨B + 4, 0, none⟩), .pointer (some ⟨B + 2, 0, none⟩), .pointer (some ⟨B + 5, 0, none⟩)]) ∧ w'.cell? ⟨B, 0, none⟩ = some (.pointer (some ⟨Bs, 0, none⟩)) ∧ w'.cell? ⟨Bs, 0, none⟩ = some (.slice (some ⟨b', off, none⟩) L.length cap) ∧ w'.cell? ⟨b', off + k * 3 + 1, none⟩ = some (.int .i64 W))) (by kernel_rfl) (HSX.out _ _ HVr.out.drew hbr.drew) (fun hHeld => ?_)
            refine wpAnyH_take (i := 0) (oi := _) (v := ?_) rfl (by kernel_rfl) (by kernel_rfl) (by kernel_rfl) (fun _ _ _ h => h) (Or.inl ⟨by rfl, ?_⟩) (by assumption) ?_
            rotate_left
            · (intro w hSw; (try dsimp only at hSw); (try simp only [List.getElem_toArray, List.getElem_cons_zero]); go_simp; try with_reducible rfl)
            simp only [Act.put, List.setIfInBounds_toArray, List.set_cons_zero, List.set_cons_succ, List.getElem_toArray, List.getElem_cons_zero]
            refine wpAnyH_take (i := 1) (oi := _) (v := ?_) rfl (by kernel_rfl) (by kernel_rfl) (by kernel_rfl) (fun _ _ _ h => h) (Or.inl ⟨by rfl, ?_⟩) (by assumption) ?_
            rotate_left
            · (intro w hSw; (try dsimp only at hSw); (try simp only [List.getElem_toArray, List.getElem_cons_succ, List.getElem_cons_zero]); go_simp; try with_reducible rfl)
            simp only [Act.put, List.setIfInBounds_toArray, List.set_cons_zero, List.set_cons_succ, List.getElem_toArray, List.getElem_cons_succ, List.getElem_cons_zero]
            refine wpAnyH_take (i := 2) (oi := _) (v := ?_) rfl (by kernel_rfl) (by kernel_rfl) (by kernel_rfl) (fun _ _ _ h => h) (Or.inl ⟨by rfl, ?_⟩) (by assumption) ?_
            rotate_left
            · (intro w hSw; (try dsimp only at hSw); (try simp only [List.getElem_toArray, List.getElem_cons_succ, List.getElem_cons_zero]); go_simp; try with_reducible rfl)
            simp only [Act.put, List.setIfInBounds_toArray, List.set_cons_zero, List.set_cons_succ, List.getElem_toArray, List.getElem_cons_succ, List.getElem_cons_zero]
            refine wpAnyH_take (i := 3) (oi := _) (v := ?_) rfl (by kernel_rfl) (by kernel_rfl) (by kernel_rfl) (fun _ _ _ h => h) (Or.inl ⟨by rfl, ?_⟩) (by assumption) ?_
            rotate_left
            · (intro w hSw; (try dsimp only at hSw); (try simp only [List.getElem_toArray, List.getElem_cons_succ, List.getElem_cons_zero]); go_simp; try with_reducible rfl)
            simp only [Act.put, List.setIfInBounds_toArray, List.set_cons_zero, List.set_cons_succ, List.getElem_toArray, List.getElem_cons_succ, List.getElem_cons_zero]
            refine wpAnyH_take (i := 4) (oi := _) (v := ?_) rfl (by kernel_rfl) (by kernel_rfl) (by kernel_rfl) (fun _ _ _ h => h) (Or.inl ⟨by rfl, ?_⟩) (by assumption) ?_
            rotate_left
            · (intro w hSw; (try dsimp only at hSw); (try simp only [List.getElem_toArray, List.getElem_cons_succ, List.getElem_cons_zero]); go_simp; try with_reducible rfl)
            simp only [Act.put, List.setIfInBounds_toArray, List.set_cons_zero, List.set_cons_succ, List.getElem_toArray, List.getElem_cons_succ, List.getElem_cons_zero]
            refine wpAnyH_take (i := 5) (oi := _) (v := ?_) rfl (by kernel_rfl) (by kernel_rfl) (by kernel_rfl) (fun _ _ _ h => h) (Or.inl ⟨by rfl, ?_⟩) (by assumption) ?_
            rotate_left
            · (intro w hSw; (try dsimp only at hSw); (try simp only [List.getElem_toArray, List.getElem_cons_succ, List.getElem_cons_zero]); go_simp; try with_reducible rfl)
            simp only [Act.put, List.setIfInBounds_toArray, List.set_cons_zero, List.set_cons_succ, List.getElem_toArray, List.getElem_cons_succ, List.getElem_cons_zero]
            refine wpAnyH_take (i := 6) (oi := _) (v := ?_) rfl (by kernel_rfl) (by kernel_rfl) (by kernel_rfl) (fun _ _ _ h => h) (Or.inl ⟨by rfl, ?_⟩) (by assumption) ?_
            rotate_left
            · (intro w hSw; (try dsimp only at hSw); (try simp only [List.getElem_toArray, List.getElem_cons_succ, List.getElem_cons_zero]); go_simp; try with_reducible rfl)
            simp only [Act.put, List.setIfInBounds_toArray, List.set_cons_zero, List.set_cons_succ, List.getElem_toArray, List.getElem_cons_succ, List.getElem_cons_zero]
            refine wpAnyH_take (i := 7) (oi := _) (v := ?_) rfl (by kernel_rfl) (by kernel_rfl) (by kernel_rfl) (fun _ _ _ h => h) (Or.inl ⟨by rfl, ?_⟩) (by assumption) ?_
            rotate_left
            · (intro w hSw; (try dsimp only at hSw); (try simp only [List.getElem_toArray, List.getElem_cons_succ, List.getElem_cons_zero]); go_simp; try with_reducible rfl)
            simp only [Act.put, List.setIfInBounds_toArray, List.set_cons_zero, List.set_cons_succ, List.getElem_toArray, List.getElem_cons_succ, List.getElem_cons_zero]
            refine wpAnyH_take (i := 8) (oi := _) (v := ?_) rfl (by kernel_rfl) (by kernel_rfl) (by kernel_rfl) (fun _ _ _ h => h) (Or.inl ⟨by rfl, ?_⟩) (by assumption) ?_
            rotate_left
            · (intro w hSw; (try dsimp only at hSw); (try simp only [List.getElem_toArray, List.getElem_cons_succ, List.getElem_cons_zero]); go_simp; try with_reducible rfl)
            simp only [Act.put, List.setIfInBounds_toArray, List.set_cons_zero, List.set_cons_succ, List.getElem_toArray, List.getElem_cons_succ, List.getElem_cons_zero]
            refine wpAnyH_take (i := 9) (oi := _) (v := ?_) rfl (by kernel_rfl) (by kernel_rfl) (by kernel_rfl) (fun _ _ _ h => h) (Or.inl ⟨by rfl, ?_⟩) (by assumption) ?_
            rotate_left
            · (intro w hSw; (try dsimp only at hSw); (try simp only [List.getElem_toArray, List.getElem_cons_succ, List.getElem_cons_zero]); go_simp; try with_reducible rfl)
            simp only [Act.put, List.setIfInBounds_toArray, List.set_cons_zero, List.set_cons_succ, List.getElem_toArray, List.getElem_cons_succ, List.getElem_cons_zero]
            refine wpAnyH_take (i := 10) (oi := _) (v := ?_) rfl (by kernel_rfl) (by kernel_rfl) (by kernel_rfl) (fun _ _ _ h => h) (Or.inl ⟨by rfl, ?_⟩) (by assumption) ?_
            rotate_left
            · (intro w hSw; (try dsimp only at hSw); (try simp only [List.getElem_toArray, List.getElem_cons_succ, List.getElem_cons_zero]); go_simp; try with_reducible rfl)
            simp only [Act.put, List.setIfInBounds_toArray, List.set_cons_zero, List.set_cons_succ, List.getElem_toArray, List.getElem_cons_succ, List.getElem_cons_zero]
            refine wpAnyH_take (i := 11) (oi := _) (v := ?_) rfl (by kernel_rfl) (by kernel_rfl) (by kernel_rfl) (fun _ _ _ h => h) (Or.inl ⟨by rfl, ?_⟩) (by assumption) ?_
            rotate_left
            · (intro w hSw; (try dsimp only at hSw); (try simp only [List.getElem_toArray, List.getElem_cons_succ, List.getElem_cons_zero]); go_simp; try with_reducible rfl)
            simp only [Act.put, List.setIfInBounds_toArray, List.set_cons_zero, List.set_cons_succ, List.getElem_toArray, List.getElem_cons_succ, List.getElem_cons_zero]
            refine wpAnyH_take (i := 12) (oi := _) (v := ?_) rfl (by kernel_rfl) (by kernel_rfl) (by kernel_rfl) (fun _ _ _ h => h) (Or.inl ⟨by rfl, ?_⟩) (by assumption) ?_
            rotate_left
            · (intro w hSw; (try dsimp only at hSw); (try simp only [List.getElem_toArray, List.getElem_cons_succ, List.getElem_cons_zero]); go_simp; try with_reducible rfl)
            simp only [Act.put, List.setIfInBounds_toArray, List.set_cons_zero, List.set_cons_succ, List.getElem_toArray, List.getElem_cons_succ, List.getElem_cons_zero]
            refine wpAnyH_take (i := 13) (oi := _) (v := ?_) rfl (by kernel_rfl) (by kernel_rfl) (by kernel_rfl) (fun _ _ _ h => h) (Or.inl ⟨by rfl, ?_⟩) (by assumption) ?_
            rotate_left
            · (intro w hSw; (try dsimp only at hSw); (try simp only [List.getElem_toArray, List.getElem_cons_succ, List.getElem_cons_zero]); go_simp; try with_reducible rfl)
            simp only [Act.put, List.setIfInBounds_toArray, List.set_cons_zero, List.set_cons_succ, List.getElem_toArray, List.getElem_cons_succ, List.getElem_cons_zero]
            refine wpAnyH_take (i := 14) (oi := _) (v := ?_) rfl (by kernel_rfl) (by kernel_rfl) (by kernel_rfl) (fun _ _ _ h => h) (Or.inl ⟨by rfl, ?_⟩) (by assumption) ?_
            rotate_left
            · (intro w hSw; (try dsimp only at hSw); (try simp only [List.getElem_toArray, List.getElem_cons_succ, List.getElem_cons_zero]); go_simp; try with_reducible rfl)
            simp only [Act.put, List.setIfInBounds_toArray, List.set_cons_zero, List.set_cons_succ, List.getElem_toArray, List.getElem_cons_succ, List.getElem_cons_zero]
            refine wpAnyH_ready (rs := [15]) (by kernel_rfl) (by simp) ?_
            refine AllReadyH.cons (o := _) rfl (fun K hK => ?_) AllReadyH.nil
            try simp only [List.getElem_toArray, List.getElem_cons_succ, List.getElem_cons_zero]
            go_simp
            (go_at_call 72; go_split_ands; (with_reducible refine (HIH.out x _ _ hxc HBD.out HVr.out.drew (HSE.out.keep hB.drew) (HBK.out.below hB.drew)).mono ?_); rintro e y ⟨rfl, hVy, hBy⟩; have HVy := Lib.hid hVy; clear hVy)
            go_wp2_with fail
            refine hK.out _ _ (HSX.out _ _ HVy.out (hbr.drew.trans hBy)) (fun hHeld => ?_)
            clear hK K
            try simp only [Act.put, List.setIfInBounds_toArray, List.set_cons_zero, List.set_cons_succ, List.getElem_toArray, List.getElem_cons_succ, List.getElem_cons_zero]
            refine wpAnyH_done (by kernel_rfl) ?_ _
            go_wp2_with fail
            go_roundw
            case rel => exact ⟨x + 1, by omega, by go_num, Lib.hid (by rw [HFK.out]; exact HVy.out), hB.trans (hbr.drew.trans hBy)⟩
            case measure => simp [intOf]; omega
          · have hxe : x = (C + 1).toNat := by omega
            have HVe := Lib.hid (by rw [hxe] at HVr; exact HVr.out : NearS B wr Bs wt (foldN wt (L.drop (k + 1)) s W (some b) (C + 1).toNat))
            clear HVr hxe
            go_wp2_with fail
            exact bodyPost_end (results_none rfl _ _ _) rfl ⟨rfl, HVe.out, hB⟩
      · have g2 : ((s - wt) == f) = false := beq_eq_false_iff_ne.2 h'
        clear h h'
        go_enter Tryz.func72, Tryz.ntmps72
        go_upto_region 0 with (fail)
        go_region
        go_upto_region 4 with (go_at_call 71; (with_reducible refine (farN_any (B + 1) wt b _ (by omega) (by omega) (by simpa using q1)).mono ?_); rintro e wf ⟨rfl, rfl⟩; rw [HF.out])
        have HVq := Lib.hid HV.out.drew
        have hBq := (Below.refl B w).drew
        clear q0 q1 q2 q3 q4 q5 q6 q7
        go_wp2_with fail
        go_loopw [11] (fun i wr => ∃ x : Nat, (x : Int) ≤ C + 1 ∧ i = .int .i64 x ∧ Hid (NearS B wr Bs wt (foldN wt (L.drop (k + 1)) s W (some b) x)) ∧ Below B w wr) (fun i _ => (C + 1 - intOf i).toNat)
        case atStart => exact ⟨0, by omega, rfl, HVq, hBq⟩
        case round =>
          obtain ⟨x, hx, rfl, HVr, hB⟩ := hrel
          have q0 := HVr.out.cs
          obtain ⟨_, q5, _⟩ := HSE.out.keep hB
          have qw1 := (hB.cell (p := ⟨b', off + k * 3 + 1, none⟩) hb').trans qw
          have qc1 := (hB.cell (p := ⟨b', off + k * 3 + 2, none⟩) hb').trans qc
          clear hBq
          have hszr := HVr.out.size
          by_cases hxc : (x : Int) ≤ C
          · obtain ⟨m0, m1'⟩ := HXM.out x hxc
            have HFK : Hid (foldN wt (L.drop (k + 1)) s W (some b) (x + 1) = visitN wt (L.drop (k + 1)) (s + x * W) (foldN wt (L.drop (k + 1)) s W (some b) x)) := Lib.hid rfl
            have HBD := Lib.hid (HBF.out x hxc)
            generalize foldN wt (L.drop (k + 1)) s W (some b) x = sx at *
            have t1 : IntKind.i64.wrap ((x : Int) * W) = (x : Int) * W := IntWalk.i64_in _ (by omega)
            have t2 : IntKind.i64.wrap (s + (x : Int) * W) = s + (x : Int) * W := IntWalk.i64_in _ (by omega)
            have t3 : IntKind.i64.wrap ((k : Int) + 1) = (k : Int) + 1 := IntWalk.i64_in _ (by omega)
            have t4 : IntKind.i64.wrap ((x : Int) + 1) = (x : Int) + 1 := IntWalk.i64_in _ (by omega)
            have hbr := Below.refl B wr
            have HSX : Hid (∀ (w' : World) (sy : Option Int), NearS B w' Bs wt sy → Below B wr w' → (Below B wr w' ∧ w'.cell? ⟨B + 5, 0, none⟩ = some (.func (.func 72) #[] #[.pointer (some ⟨B + 1, 0, none⟩), .pointer (some ⟨B, 0, none⟩), .pointer (some ⟨B + 3, 0, none⟩), .pointer (some ⟨B + 4, 0, none⟩), .pointer (some ⟨B + 2, 0, none⟩), .pointer (some ⟨B + 5, 0, none⟩)]) ∧ w'.cell? ⟨B, 0, none⟩ = some (.pointer (some ⟨Bs, 0, none⟩)) ∧ w'.cell? ⟨Bs, 0, none⟩ = some (.slice (some ⟨b', off, none⟩) L.length cap) ∧ w'.cell? ⟨b', off + k * 3 + 1, none⟩ = some (.int .i64 W))) := Lib.hid fun w' sy hV' hB' =>
              ⟨hB', hV'.cv, hV'.cs, (hB'.cell (p := ⟨Bs, 0, none⟩) hbs).trans q5, (hB'.cell (p := ⟨b', off + k * 3 + 1, none⟩) hb').trans qw1⟩
            go_upto_region 7 with (fail)
            refine wp_region_held_drew (S := (fun w' => Below B wr w' ∧ w'.cell? ⟨B + 5, 0, none⟩ = some (.func (.func 72) #[] #[.pointer (some ⟨B + 1, 0, none⟩), .pointer (some ⟨B, 0, none⟩), .pointer (some ⟨B + 3, 0, none⟩), .pointer (some ⟨B + 4, 0, none⟩), .pointer (some ⟨B + 2, 0, none⟩), .pointer (some ⟨B + 5, 0, none⟩)]) ∧ w'.cell? ⟨B, 0, none⟩ = some (.pointer (some ⟨Bs, 0, none⟩)) ∧ w'.cell? ⟨Bs, 0, none⟩ = some (.slice (some ⟨b', off, none⟩) L.length cap) ∧ w'.cell? ⟨b', off + k * 3 + 1, none⟩ = some (.int .i64 W))) (by kernel_rfl) (HSX.out _ _ HVr.out.drew hbr.drew) (fun hHeld => ?_)
            refine wpAnyH_take (i := 0) (oi := _) (v := ?_) rfl (by kernel_rfl) (by kernel_rfl) (by kernel_rfl) (fun _ _ _ h => h) (Or.inl ⟨by rfl, ?_⟩) (by assumption) ?_
            rotate_left
            · (intro w hSw; (try dsimp only at hSw); (try simp only [List.getElem_toArray, List.getElem_cons_zero]); go_simp; try with_reducible rfl)
            simp only [Act.put, List.setIfInBounds_toArray, List.set_cons_zero, List.set_cons_succ, List.getElem_toArray, List.getElem_cons_zero]
            refine wpAnyH_take (i := 1) (oi := _) (v := ?_) rfl (by kernel_rfl) (by kernel_rfl) (by kernel_rfl) (fun _ _ _ h => h) (Or.inl ⟨by rfl, ?_⟩) (by assumption) ?_
            rotate_left
            · (intro w hSw; (try dsimp only at hSw); (try simp only [List.getElem_toArray, List.getElem_cons_succ, List.getElem_cons_zero]); go_simp; try with_reducible rfl)
            simp only [Act.put, List.setIfInBounds_toArray, List.set_cons_zero, List.set_cons_succ, List.getElem_toArray, List.getElem_cons_succ, List.getElem_cons_zero]
            refine wpAnyH_take (i := 2) (oi := _) (v := ?_) rfl (by kernel_rfl) (by kernel_rfl) (by kernel_rfl) (fun _ _ _ h => h) (Or.inl ⟨by rfl, ?_⟩) (by assumption) ?_
            rotate_left
            · (intro w hSw; (try dsimp only at hSw); (try simp only [List.getElem_toArray, List.getElem_cons_succ, List.getElem_cons_zero]); go_simp; try with_reducible rfl)
            simp only [Act.put, List.setIfInBounds_toArray, List.set_cons_zero, List.set_cons_succ, List.getElem_toArray, List.getElem_cons_succ, List.getElem_cons_zero]
            refine wpAnyH_take (i := 3) (oi := _) (v := ?_) rfl (by kernel_rfl) (by kernel_rfl) (by kernel_rfl) (fun _ _ _ h => h) (Or.inl ⟨by rfl, ?_⟩) (by assumption) ?_
            rotate_left
            · (intro w hSw; (try dsimp only at hSw); (try simp only [List.getElem_toArray, List.getElem_cons_succ, List.getElem_cons_zero]); go_simp; try with_reducible rfl)
            simp only [Act.put, List.setIfInBounds_toArray, List.set_cons_zero, List.set_cons_succ, List.getElem_toArray, List.getElem_cons_succ, List.getElem_cons_zero]
            refine wpAnyH_take (i := 4) (oi := _) (v := ?_) rfl (by kernel_rfl) (by kernel_rfl) (by kernel_rfl) (fun _ _ _ h => h) (Or.inl ⟨by rfl, ?_⟩) (by assumption) ?_
            rotate_left
            · (intro w hSw; (try dsimp only at hSw); (try simp only [List.getElem_toArray, List.getElem_cons_succ, List.getElem_cons_zero]); go_simp; try with_reducible rfl)
            simp only [Act.put, List.setIfInBounds_toArray, List.set_cons_zero, List.set_cons_succ, List.getElem_toArray, List.getElem_cons_succ, List.getElem_cons_zero]
            refine wpAnyH_take (i := 5) (oi := _) (v := ?_) rfl (by kernel_rfl) (by kernel_rfl) (by kernel_rfl) (fun _ _ _ h => h) (Or.inl ⟨by rfl, ?_⟩) (by assumption) ?_
            rotate_left
            · (intro w hSw; (try dsimp only at hSw); (try simp only [List.getElem_toArray, List.getElem_cons_succ, List.getElem_cons_zero]); go_simp; try with_reducible rfl)
            simp only [Act.put, List.setIfInBounds_toArray, List.set_cons_zero, List.set_cons_succ, List.getElem_toArray, List.getElem_cons_succ, List.getElem_cons_zero]
            refine wpAnyH_take (i := 6) (oi := _) (v := ?_) rfl (by kernel_rfl) (by kernel_rfl) (by kernel_rfl) (fun _ _ _ h => h) (Or.inl ⟨by rfl, ?_⟩) (by assumption) ?_
            rotate_left
            · (intro w hSw; (try dsimp only at hSw); (try simp only [List.getElem_toArray, List.getElem_cons_succ, List.getElem_cons_zero]); go_simp; try with_reducible rfl)
            simp only [Act.put, List.setIfInBounds_toArray, List.set_cons_zero, List.set_cons_succ, List.getElem_toArray, List.getElem_cons_succ, List.getElem_cons_zero]
            refine wpAnyH_take (i := 7) (oi := _) (v := ?_) rfl (by kernel_rfl) (by kernel_rfl) (by kernel_rfl) (fun _ _ _ h => h) (Or.inl ⟨by rfl, ?_⟩) (by assumption) ?_
            rotate_left
            · (intro w hSw; (try dsimp only at hSw); (try simp only [List.getElem_toArray, List.getElem_cons_succ, List.getElem_cons_zero]); go_simp; try with_reducible rfl)
            simp only [Act.put, List.setIfInBounds_toArray, List.set_cons_zero, List.set_cons_succ, List.getElem_toArray, List.getElem_cons_succ, List.getElem_cons_zero]
            refine wpAnyH_take (i := 8) (oi := _) (v := ?_) rfl (by kernel_rfl) (by kernel_rfl) (by kernel_rfl) (fun _ _ _ h => h) (Or.inl ⟨by rfl, ?_⟩) (by assumption) ?_
            rotate_left
            · (intro w hSw; (try dsimp only at hSw); (try simp only [List.getElem_toArray, List.getElem_cons_succ, List.getElem_cons_zero]); go_simp; try with_reducible rfl)
            simp only [Act.put, List.setIfInBounds_toArray, List.set_cons_zero, List.set_cons_succ, List.getElem_toArray, List.getElem_cons_succ, List.getElem_cons_zero]
            refine wpAnyH_take (i := 9) (oi := _) (v := ?_) rfl (by kernel_rfl) (by kernel_rfl) (by kernel_rfl) (fun _ _ _ h => h) (Or.inl ⟨by rfl, ?_⟩) (by assumption) ?_
            rotate_left
            · (intro w hSw; (try dsimp only at hSw); (try simp only [List.getElem_toArray, List.getElem_cons_succ, List.getElem_cons_zero]); go_simp; try with_reducible rfl)
            simp only [Act.put, List.setIfInBounds_toArray, List.set_cons_zero, List.set_cons_succ, List.getElem_toArray, List.getElem_cons_succ, List.getElem_cons_zero]
            refine wpAnyH_take (i := 10) (oi := _) (v := ?_) rfl (by kernel_rfl) (by kernel_rfl) (by kernel_rfl) (fun _ _ _ h => h) (Or.inl ⟨by rfl, ?_⟩) (by assumption) ?_
            rotate_left
            · (intro w hSw; (try dsimp only at hSw); (try simp only [List.getElem_toArray, List.getElem_cons_succ, List.getElem_cons_zero]); go_simp; try with_reducible rfl)
            simp only [Act.put, List.setIfInBounds_toArray, List.set_cons_zero, List.set_cons_succ, List.getElem_toArray, List.getElem_cons_succ, List.getElem_cons_zero]
            refine wpAnyH_take (i := 11) (oi := _) (v := ?_) rfl (by kernel_rfl) (by kernel_rfl) (by kernel_rfl) (fun _ _ _ h => h) (Or.inl ⟨by rfl, ?_⟩) (by assumption) ?_
            rotate_left
            · (intro w hSw; (try dsimp only at hSw); (try simp only [List.getElem_toArray, List.getElem_cons_succ, List.getElem_cons_zero]); go_simp; try with_reducible rfl)
            simp only [Act.put, List.setIfInBounds_toArray, List.set_cons_zero, List.set_cons_succ, List.getElem_toArray, List.getElem_cons_succ, List.getElem_cons_zero]
            refine wpAnyH_take (i := 12) (oi := _) (v := ?_) rfl (by kernel_rfl) (by kernel_rfl) (by kernel_rfl) (fun _ _ _ h => h) (Or.inl ⟨by rfl, ?_⟩) (by assumption) ?_
            rotate_left
            · (intro w hSw; (try dsimp only at hSw); (try simp only [List.getElem_toArray, List.getElem_cons_succ, List.getElem_cons_zero]); go_simp; try with_reducible rfl)
            simp only [Act.put, List.setIfInBounds_toArray, List.set_cons_zero, List.set_cons_succ, List.getElem_toArray, List.getElem_cons_succ, List.getElem_cons_zero]
            refine wpAnyH_take (i := 13) (oi := _) (v := ?_) rfl (by kernel_rfl) (by kernel_rfl) (by kernel_rfl) (fun _ _ _ h => h) (Or.inl ⟨by rfl, ?_⟩) (by assumption) ?_
            rotate_left
            · (intro w hSw; (try dsimp only at hSw); (try simp only [List.getElem_toArray, List.getElem_cons_succ, List.getElem_cons_zero]); go_simp; try with_reducible rfl)
            simp only [Act.put, List.setIfInBounds_toArray, List.set_cons_zero, List.set_cons_succ, List.getElem_toArray, List.getElem_cons_succ, List.getElem_cons_zero]
            refine wpAnyH_take (i := 14) (oi := _) (v := ?_) rfl (by kernel_rfl) (by kernel_rfl) (by kernel_rfl) (fun _ _ _ h => h) (Or.inl ⟨by rfl, ?_⟩) (by assumption) ?_
            rotate_left
            · (intro w hSw; (try dsimp only at hSw); (try simp only [List.getElem_toArray, List.getElem_cons_succ, List.getElem_cons_zero]); go_simp; try with_reducible rfl)
            simp only [Act.put, List.setIfInBounds_toArray, List.set_cons_zero, List.set_cons_succ, List.getElem_toArray, List.getElem_cons_succ, List.getElem_cons_zero]
            refine wpAnyH_ready (rs := [15]) (by kernel_rfl) (by simp) ?_
            refine AllReadyH.cons (o := _) rfl (fun K hK => ?_) AllReadyH.nil
            try simp only [List.getElem_toArray, List.getElem_cons_succ, List.getElem_cons_zero]
            go_simp
            (go_at_call 72; go_split_ands; (with_reducible refine (HIH.out x _ _ hxc HBD.out HVr.out.drew (HSE.out.keep hB.drew) (HBK.out.below hB.drew)).mono ?_); rintro e y ⟨rfl, hVy, hBy⟩; have HVy := Lib.hid hVy; clear hVy)
            go_wp2_with fail
            refine hK.out _ _ (HSX.out _ _ HVy.out (hbr.drew.trans hBy)) (fun hHeld => ?_)
            clear hK K
            try simp only [Act.put, List.setIfInBounds_toArray, List.set_cons_zero, List.set_cons_succ, List.getElem_toArray, List.getElem_cons_succ, List.getElem_cons_zero]
            refine wpAnyH_done (by kernel_rfl) ?_ _
            go_wp2_with fail
            go_roundw
            case rel => exact ⟨x + 1, by omega, by go_num, Lib.hid (by rw [HFK.out]; exact HVy.out), hB.trans (hbr.drew.trans hBy)⟩
            case measure => simp [intOf]; omega
          · have hxe : x = (C + 1).toNat := by omega
            have HVe := Lib.hid (by rw [hxe] at HVr; exact HVr.out : NearS B wr Bs wt (foldN wt (L.drop (k + 1)) s W (some b) (C + 1).toNat))
            clear HVr hxe
            go_wp2_with fail
            exact bodyPost_end (results_none rfl _ _ _) rfl ⟨rfl, HVe.out, hB⟩
    · rw [m3] at h
      clear m3
      have g1 : decide (f < (wt - s - R)) = false := decide_eq_false (by omega)
      by_cases h' : (wt - s - R) = f
      · have g2 : ((wt - s - R) == f) = true := beq_iff_eq.2 h'
        have g3 : decide (b ≤ s) = false := decide_eq_false (by omega)
        clear h h'
        go_enter Tryz.func72, Tryz.ntmps72
        go_upto_region 0 with (fail)
        go_region
        go_upto_region 4 with (go_at_call 71; (with_reducible refine (farN_any (B + 1) wt b _ (by omega) (by omega) (by simpa using q1)).mono ?_); rintro e wf ⟨rfl, rfl⟩; rw [HF.out])
        have HVq := Lib.hid HV.out.drew
        have hBq := (Below.refl B w).drew
        clear q0 q1 q2 q3 q4 q5 q6 q7
        go_wp2_with fail
        go_loopw [11] (fun i wr => ∃ x : Nat, (x : Int) ≤ C + 1 ∧ i = .int .i64 x ∧ Hid (NearS B wr Bs wt (foldN wt (L.drop (k + 1)) s W (some b) x)) ∧ Below B w wr) (fun i _ => (C + 1 - intOf i).toNat)
        case atStart => exact ⟨0, by omega, rfl, HVq, hBq⟩
        case round =>
          obtain ⟨x, hx, rfl, HVr, hB⟩ := hrel
          have q0 := HVr.out.cs
          obtain ⟨_, q5, _⟩ := HSE.out.keep hB
          have qw1 := (hB.cell (p := ⟨b', off + k * 3 + 1, none⟩) hb').trans qw
          have qc1 := (hB.cell (p := ⟨b', off + k * 3 + 2, none⟩) hb').trans qc
          clear hBq
          have hszr := HVr.out.size
          by_cases hxc : (x : Int) ≤ C
          · obtain ⟨m0, m1'⟩ := HXM.out x hxc
            have HFK : Hid (foldN wt (L.drop (k + 1)) s W (some b) (x + 1) = visitN wt (L.drop (k + 1)) (s + x * W) (foldN wt (L.drop (k + 1)) s W (some b) x)) := Lib.hid rfl
            have HBD := Lib.hid (HBF.out x hxc)
            generalize foldN wt (L.drop (k + 1)) s W (some b) x = sx at *
            have t1 : IntKind.i64.wrap ((x : Int) * W) = (x : Int) * W := IntWalk.i64_in _ (by omega)
            have t2 : IntKind.i64.wrap (s + (x : Int) * W) = s + (x : Int) * W := IntWalk.i64_in _ (by omega)
            have t3 : IntKind.i64.wrap ((k : Int) + 1) = (k : Int) + 1 := IntWalk.i64_in _ (by omega)
            have t4 : IntKind.i64.wrap ((x : Int) + 1) = (x : Int) + 1 := IntWalk.i64_in _ (by omega)
            have hbr := Below.refl B wr
            have HSX : Hid (∀ (w' : World) (sy : Option Int), NearS B w' Bs wt sy → Below B wr w' → (Below B wr w' ∧ w'.cell? ⟨B + 5, 0, none⟩ = some (.func (.func 72) #[] #[.pointer (some ⟨B + 1, 0, none⟩), .pointer (some ⟨B, 0, none⟩), .pointer (some ⟨B + 3, 0, none⟩), .pointer (some ⟨B + 4, 0, none⟩), .pointer (some ⟨B + 2, 0, none⟩), .pointer (some ⟨B + 5, 0, none⟩)]) ∧ w'.cell? ⟨B, 0, none⟩ = some (.pointer (some ⟨Bs, 0, none⟩)) ∧ w'.cell? ⟨Bs, 0, none⟩ = some (.slice (some ⟨b', off, none⟩) L.length cap) ∧ w'.cell? ⟨b', off + k * 3 + 1, none⟩ = some (.int .i64 W))) := Lib.hid fun w' sy hV' hB' =>
              ⟨hB', hV'.cv, hV'.cs, (hB'.cell (p := ⟨Bs, 0, none⟩) hbs).trans q5, (hB'.cell (p := ⟨b', off + k * 3 + 1, none⟩) hb').trans qw1⟩
            go_upto_region 7 with (fail)
            refine wp_region_held_drew (S := (fun w' => Below B wr w' ∧ w'.cell? ⟨B + 5, 0, none⟩ = some (.func (.func 72) #[] #[.pointer (some ⟨B + 1, 0, none⟩), .pointer (some ⟨B, 0, none⟩), .pointer (some ⟨B + 3, 0, none⟩), .pointer (some ⟨B + 4, 0, none⟩), .pointer (some ⟨B + 2, 0, none⟩), .pointer (some ⟨B + 5, 0, none⟩)]) ∧ w'.cell? ⟨B, 0, none⟩ = some (.pointer (some ⟨Bs, 0, none⟩)) ∧ w'.cell? ⟨Bs, 0, none⟩ = some (.slice (some ⟨b', off, none⟩) L.length cap) ∧ w'.cell? ⟨b', off + k * 3 + 1, none⟩ = some (.int .i64 W))) (by kernel_rfl) (HSX.out _ _ HVr.out.drew hbr.drew) (fun hHeld => ?_)
            refine wpAnyH_take (i := 0) (oi := _) (v := ?_) rfl (by kernel_rfl) (by kernel_rfl) (by kernel_rfl) (fun _ _ _ h => h) (Or.inl ⟨by rfl, ?_⟩) (by assumption) ?_
            rotate_left
            · (intro w hSw; (try dsimp only at hSw); (try simp only [List.getElem_toArray, List.getElem_cons_zero]); go_simp; try with_reducible rfl)
            simp only [Act.put, List.setIfInBounds_toArray, List.set_cons_zero, List.set_cons_succ, List.getElem_toArray, List.getElem_cons_zero]
            refine wpAnyH_take (i := 1) (oi := _) (v := ?_) rfl (by kernel_rfl) (by kernel_rfl) (by kernel_rfl) (fun _ _ _ h => h) (Or.inl ⟨by rfl, ?_⟩) (by assumption) ?_
            rotate_left
            · (intro w hSw; (try dsimp only at hSw); (try simp only [List.getElem_toArray, List.getElem_cons_succ, List.getElem_cons_zero]); go_simp; try with_reducible rfl)
            simp only [Act.put, List.setIfInBounds_toArray, List.set_cons_zero, List.set_cons_succ, List.getElem_toArray, List.getElem_cons_succ, List.getElem_cons_zero]
            refine wpAnyH_take (i := 2) (oi := _) (v := ?_) rfl (by kernel_rfl) (by kernel_rfl) (by kernel_rfl) (fun _ _ _ h => h) (Or.inl ⟨by rfl, ?_⟩) (by assumption) ?_
            rotate_left
            · (intro w hSw; (try dsimp only at hSw); (try simp only [List.getElem_toArray, List.getElem_cons_succ, List.getElem_cons_zero]); go_simp; try with_reducible rfl)
            simp only [Act.put, List.setIfInBounds_toArray, List.set_cons_zero, List.set_cons_succ, List.getElem_toArray, List.getElem_cons_succ, List.getElem_cons_zero]
            refine wpAnyH_take (i := 3) (oi := _) (v := ?_) rfl (by kernel_rfl) (by kernel_rfl) (by kernel_rfl) (fun _ _ _ h => h) (Or.inl ⟨by rfl, ?_⟩) (by assumption) ?_
            rotate_left
            · (intro w hSw; (try dsimp only at hSw); (try simp only [List.getElem_toArray, List.getElem_cons_succ, List.getElem_cons_zero]); go_simp; try with_reducible rfl)
            simp only [Act.put, List.setIfInBounds_toArray, List.set_cons_zero, List.set_cons_succ, List.getElem_toArray, List.getElem_cons_succ, List.getElem_cons_zero]
            refine wpAnyH_take (i := 4) (oi := _) (v := ?_) rfl (by kernel_rfl) (by kernel_rfl) (by kernel_rfl) (fun _ _ _ h => h) (Or.inl ⟨by rfl, ?_⟩) (by assumption) ?_
            rotate_left
            · (intro w hSw; (try dsimp only at hSw); (try simp only [List.getElem_toArray, List.getElem_cons_succ, List.getElem_cons_zero]); go_simp; try with_reducible rfl)
            simp only [Act.put, List.setIfInBounds_toArray, List.set_cons_zero, List.set_cons_succ, List.getElem_toArray, List.getElem_cons_succ, List.getElem_cons_zero]
            refine wpAnyH_take (i := 5) (oi := _) (v := ?_) rfl (by kernel_rfl) (by kernel_rfl) (by kernel_rfl) (fun _ _ _ h => h) (Or.inl ⟨by rfl, ?_⟩) (by assumption) ?_
            rotate_left
            · (intro w hSw; (try dsimp only at hSw); (try simp only [List.getElem_toArray, List.getElem_cons_succ, List.getElem_cons_zero]); go_simp; try with_reducible rfl)
            simp only [Act.put, List.setIfInBounds_toArray, List.set_cons_zero, List.set_cons_succ, List.getElem_toArray, List.getElem_cons_succ, List.getElem_cons_zero]
            refine wpAnyH_take (i := 6) (oi := _) (v := ?_) rfl (by kernel_rfl) (by kernel_rfl) (by kernel_rfl) (fun _ _ _ h => h) (Or.inl ⟨by rfl, ?_⟩) (by assumption) ?_
            rotate_left
            · (intro w hSw; (try dsimp only at hSw); (try simp only [List.getElem_toArray, List.getElem_cons_succ, List.getElem_cons_zero]); go_simp; try with_reducible rfl)
            simp only [Act.put, List.setIfInBounds_toArray, List.set_cons_zero, List.set_cons_succ, List.getElem_toArray, List.getElem_cons_succ, List.getElem_cons_zero]
            refine wpAnyH_take (i := 7) (oi := _) (v := ?_) rfl (by kernel_rfl) (by kernel_rfl) (by kernel_rfl) (fun _ _ _ h => h) (Or.inl ⟨by rfl, ?_⟩) (by assumption) ?_
            rotate_left
            · (intro w hSw; (try dsimp only at hSw); (try simp only [List.getElem_toArray, List.getElem_cons_succ, List.getElem_cons_zero]); go_simp; try with_reducible rfl)
            simp only [Act.put, List.setIfInBounds_toArray, List.set_cons_zero, List.set_cons_succ, List.getElem_toArray, List.getElem_cons_succ, List.getElem_cons_zero]
            refine wpAnyH_take (i := 8) (oi := _) (v := ?_) rfl (by kernel_rfl) (by kernel_rfl) (by kernel_rfl) (fun _ _ _ h => h) (Or.inl ⟨by rfl, ?_⟩) (by assumption) ?_
            rotate_left
            · (intro w hSw; (try dsimp only at hSw); (try simp only [List.getElem_toArray, List.getElem_cons_succ, List.getElem_cons_zero]); go_simp; try with_reducible rfl)
            simp only [Act.put, List.setIfInBounds_toArray, List.set_cons_zero, List.set_cons_succ, List.getElem_toArray, List.getElem_cons_succ, List.getElem_cons_zero]
            refine wpAnyH_take (i := 9) (oi := _) (v := ?_) rfl (by kernel_rfl) (by kernel_rfl) (by kernel_rfl) (fun _ _ _ h => h) (Or.inl ⟨by rfl, ?_⟩) (by assumption) ?_
            rotate_left
            · (intro w hSw; (try dsimp only at hSw); (try simp only [List.getElem_toArray, List.getElem_cons_succ, List.getElem_cons_zero]); go_simp; try with_reducible rfl)
            simp only [Act.put, List.setIfInBounds_toArray, List.set_cons_zero, List.set_cons_succ, List.getElem_toArray, List.getElem_cons_succ, List.getElem_cons_zero]
            refine wpAnyH_take (i := 10) (oi := _) (v := ?_) rfl (by kernel_rfl) (by kernel_rfl) (by kernel_rfl) (fun _ _ _ h => h) (Or.inl ⟨by rfl, ?_⟩) (by assumption) ?_
            rotate_left
            · (intro w hSw; (try dsimp only at hSw); (try simp only [List.getElem_toArray, List.getElem_cons_succ, List.getElem_cons_zero]); go_simp; try with_reducible rfl)
            simp only [Act.put, List.setIfInBounds_toArray, List.set_cons_zero, List.set_cons_succ, List.getElem_toArray, List.getElem_cons_succ, List.getElem_cons_zero]
            refine wpAnyH_take (i := 11) (oi := _) (v := ?_) rfl (by kernel_rfl) (by kernel_rfl) (by kernel_rfl) (fun _ _ _ h => h) (Or.inl ⟨by rfl, ?_⟩) (by assumption) ?_
            rotate_left
            · (intro w hSw; (try dsimp only at hSw); (try simp only [List.getElem_toArray, List.getElem_cons_succ, List.getElem_cons_zero]); go_simp; try with_reducible rfl)
            simp only [Act.put, List.setIfInBounds_toArray, List.set_cons_zero, List.set_cons_succ, List.getElem_toArray, List.getElem_cons_succ, List.getElem_cons_zero]
            refine wpAnyH_take (i := 12) (oi := _) (v := ?_) rfl (by kernel_rfl) (by kernel_rfl) (by kernel_rfl) (fun _ _ _ h => h) (Or.inl ⟨by rfl, ?_⟩) (by assumption) ?_
            rotate_left
            · (intro w hSw; (try dsimp only at hSw); (try simp only [List.getElem_toArray, List.getElem_cons_succ, List.getElem_cons_zero]); go_simp; try with_reducible rfl)
            simp only [Act.put, List.setIfInBounds_toArray, List.set_cons_zero, List.set_cons_succ, List.getElem_toArray, List.getElem_cons_succ, List.getElem_cons_zero]
            refine wpAnyH_take (i := 13) (oi := _) (v := ?_) rfl (by kernel_rfl) (by kernel_rfl) (by kernel_rfl) (fun _ _ _ h => h) (Or.inl ⟨by rfl, ?_⟩) (by assumption) ?_
            rotate_left
            · (intro w hSw; (try dsimp only at hSw); (try simp only [List.getElem_toArray, List.getElem_cons_succ, List.getElem_cons_zero]); go_simp; try with_reducible rfl)
            simp only [Act.put, List.setIfInBounds_toArray, List.set_cons_zero, List.set_cons_succ, List.getElem_toArray, List.getElem_cons_succ, List.getElem_cons_zero]
            refine wpAnyH_take (i := 14) (oi := _) (v := ?_) rfl (by kernel_rfl) (by kernel_rfl) (by kernel_rfl) (fun _ _ _ h => h) (Or.inl ⟨by rfl, ?_⟩) (by assumption) ?_
            rotate_left
            · (intro w hSw; (try dsimp only at hSw); (try simp only [List.getElem_toArray, List.getElem_cons_succ, List.getElem_cons_zero]); go_simp; try with_reducible rfl)
            simp only [Act.put, List.setIfInBounds_toArray, List.set_cons_zero, List.set_cons_succ, List.getElem_toArray, List.getElem_cons_succ, List.getElem_cons_zero]
            refine wpAnyH_ready (rs := [15]) (by kernel_rfl) (by simp) ?_
            refine AllReadyH.cons (o := _) rfl (fun K hK => ?_) AllReadyH.nil
            try simp only [List.getElem_toArray, List.getElem_cons_succ, List.getElem_cons_zero]
            go_simp
            (go_at_call 72; go_split_ands; (with_reducible refine (HIH.out x _ _ hxc HBD.out HVr.out.drew (HSE.out.keep hB.drew) (HBK.out.below hB.drew)).mono ?_); rintro e y ⟨rfl, hVy, hBy⟩; have HVy := Lib.hid hVy; clear hVy)
            go_wp2_with fail
            refine hK.out _ _ (HSX.out _ _ HVy.out (hbr.drew.trans hBy)) (fun hHeld => ?_)
            clear hK K
            try simp only [Act.put, List.setIfInBounds_toArray, List.set_cons_zero, List.set_cons_succ, List.getElem_toArray, List.getElem_cons_succ, List.getElem_cons_zero]
            refine wpAnyH_done (by kernel_rfl) ?_ _
            go_wp2_with fail
            go_roundw
            case rel => exact ⟨x + 1, by omega, by go_num, Lib.hid (by rw [HFK.out]; exact HVy.out), hB.trans (hbr.drew.trans hBy)⟩
            case measure => simp [intOf]; omega
          · have hxe : x = (C + 1).toNat := by omega
            have HVe := Lib.hid (by rw [hxe] at HVr; exact HVr.out : NearS B wr Bs wt (foldN wt (L.drop (k + 1)) s W (some b) (C + 1).toNat))
            clear HVr hxe
            go_wp2_with fail
            exact bodyPost_end (results_none rfl _ _ _) rfl ⟨rfl, HVe.out, hB⟩
      · have g2 : ((wt - s - R) == f) = false := beq_eq_false_iff_ne.2 h'
        clear h h'
        go_enter Tryz.func72, Tryz.ntmps72
        go_upto_region 0 with (fail)
        go_region
        go_upto_region 4 with (go_at_call 71; (with_reducible refine (farN_any (B + 1) wt b _ (by omega) (by omega) (by simpa using q1)).mono ?_); rintro e wf ⟨rfl, rfl⟩; rw [HF.out])
        have HVq := Lib.hid HV.out.drew
        have hBq := (Below.refl B w).drew
        clear q0 q1 q2 q3 q4 q5 q6 q7
        go_wp2_with fail
        go_loopw [11] (fun i wr => ∃ x : Nat, (x : Int) ≤ C + 1 ∧ i = .int .i64 x ∧ Hid (NearS B wr Bs wt (foldN wt (L.drop (k + 1)) s W (some b) x)) ∧ Below B w wr) (fun i _ => (C + 1 - intOf i).toNat)
        case atStart => exact ⟨0, by omega, rfl, HVq, hBq⟩
        case round =>
          obtain ⟨x, hx, rfl, HVr, hB⟩ := hrel
          have q0 := HVr.out.cs
          obtain ⟨_, q5, _⟩ := HSE.out.keep hB
          have qw1 := (hB.cell (p := ⟨b', off + k * 3 + 1, none⟩) hb').trans qw
          have qc1 := (hB.cell (p := ⟨b', off + k * 3 + 2, none⟩) hb').trans qc
          clear hBq
          have hszr := HVr.out.size
          by_cases hxc : (x : Int) ≤ C
          · obtain ⟨m0, m1'⟩ := HXM.out x hxc
            have HFK : Hid (foldN wt (L.drop (k + 1)) s W (some b) (x + 1) = visitN wt (L.drop (k + 1)) (s + x * W) (foldN wt (L.drop (k + 1)) s W (some b) x)) := Lib.hid rfl
            have HBD := Lib.hid (HBF.out x hxc)
            generalize foldN wt (L.drop (k + 1)) s W (some b) x = sx at *
            have t1 : IntKind.i64.wrap ((x : Int) * W) = (x : Int) * W := IntWalk.i64_in _ (by omega)
            have t2 : IntKind.i64.wrap (s + (x : Int) * W) = s + (x : Int) * W := IntWalk.i64_in _ (by omega)
            have t3 : IntKind.i64.wrap ((k : Int) + 1) = (k : Int) + 1 := IntWalk.i64_in _ (by omega)
            have t4 : IntKind.i64.wrap ((x : Int) + 1) = (x : Int) + 1 := IntWalk.i64_in _ (by omega)
            have hbr := Below.refl B wr
            have HSX : Hid (∀ (w' : World) (sy : Option Int), NearS B w' Bs wt sy → Below B wr w' → (Below B wr w' ∧ w'.cell? ⟨B + 5, 0, none⟩ = some (.func (.func 72) #[] #[.pointer (some ⟨B + 1, 0, none⟩), .pointer (some ⟨B, 0, none⟩), .pointer (some ⟨B + 3, 0, none⟩), .pointer (some ⟨B + 4, 0, none⟩), .pointer (some ⟨B + 2, 0, none⟩), .pointer (some ⟨B + 5, 0, none⟩)]) ∧ w'.cell? ⟨B, 0, none⟩ = some (.pointer (some ⟨Bs, 0, none⟩)) ∧ w'.cell? ⟨Bs, 0, none⟩ = some (.slice (some ⟨b', off, none⟩) L.length cap) ∧ w'.cell? ⟨b', off + k * 3 + 1, none⟩ = some (.int .i64 W))) := Lib.hid fun w' sy hV' hB' =>
              ⟨hB', hV'.cv, hV'.cs, (hB'.cell (p := ⟨Bs, 0, none⟩) hbs).trans q5, (hB'.cell (p := ⟨b', off + k * 3 + 1, none⟩) hb').trans qw1⟩
            go_upto_region 7 with (fail)
            refine wp_region_held_drew (S := (fun w' => Below B wr w' ∧ w'.cell? ⟨B + 5, 0, none⟩ = some (.func (.func 72) #[] #[.pointer (some ⟨B + 1, 0, none⟩), .pointer (some ⟨B, 0, none⟩), .pointer (some ⟨B + 3, 0, none⟩), .pointer (some ⟨B + 4, 0, none⟩), .pointer (some ⟨B + 2, 0, none⟩), .pointer (some ⟨B + 5, 0, none⟩)]) ∧ w'.cell? ⟨B, 0, none⟩ = some (.pointer (some ⟨Bs, 0, none⟩)) ∧ w'.cell? ⟨Bs, 0, none⟩ = some (.slice (some ⟨b', off, none⟩) L.length cap) ∧ w'.cell? ⟨b', off + k * 3 + 1, none⟩ = some (.int .i64 W))) (by kernel_rfl) (HSX.out _ _ HVr.out.drew hbr.drew) (fun hHeld => ?_)
            refine wpAnyH_take (i := 0) (oi := _) (v := ?_) rfl (by kernel_rfl) (by kernel_rfl) (by kernel_rfl) (fun _ _ _ h => h) (Or.inl ⟨by rfl, ?_⟩) (by assumption) ?_
            rotate_left
            · (intro w hSw; (try dsimp only at hSw); (try simp only [List.getElem_toArray, List.getElem_cons_zero]); go_simp; try with_reducible rfl)
            simp only [Act.put, List.setIfInBounds_toArray, List.set_cons_zero, List.set_cons_succ, List.getElem_toArray, List.getElem_cons_zero]
            refine wpAnyH_take (i := 1) (oi := _) (v := ?_) rfl (by kernel_rfl) (by kernel_rfl) (by kernel_rfl) (fun _ _ _ h => h) (Or.inl ⟨by rfl, ?_⟩) (by assumption) ?_
            rotate_left
            · (intro w hSw; (try dsimp only at hSw); (try simp only [List.getElem_toArray, List.getElem_cons_succ, List.getElem_cons_zero]); go_simp; try with_reducible rfl)
            simp only [Act.put, List.setIfInBounds_toArray, List.set_cons_zero, List.set_cons_succ, List.getElem_toArray, List.getElem_cons_succ, List.getElem_cons_zero]
            refine wpAnyH_take (i := 2) (oi := _) (v := ?_) rfl (by kernel_rfl) (by kernel_rfl) (by kernel_rfl) (fun _ _ _ h => h) (Or.inl ⟨by rfl, ?_⟩) (by assumption) ?_
            rotate_left
            · (intro w hSw; (try dsimp only at hSw); (try simp only [List.getElem_toArray, List.getElem_cons_succ, List.getElem_cons_zero]); go_simp; try with_reducible rfl)
            simp only [Act.put, List.setIfInBounds_toArray, List.set_cons_zero, List.set_cons_succ, List.getElem_toArray, List.getElem_cons_succ, List.getElem_cons_zero]
            refine wpAnyH_take (i := 3) (oi := _) (v := ?_) rfl (by kernel_rfl) (by kernel_rfl) (by kernel_rfl) (fun _ _ _ h => h) (Or.inl ⟨by rfl, ?_⟩) (by assumption) ?_
            rotate_left
            · (intro w hSw; (try dsimp only at hSw); (try simp only [List.getElem_toArray, List.getElem_cons_succ, List.getElem_cons_zero]); go_simp; try with_reducible rfl)
            simp only [Act.put, List.setIfInBounds_toArray, List.set_cons_zero, List.set_cons_succ, List.getElem_toArray, List.getElem_cons_succ, List.getElem_cons_zero]
            refine wpAnyH_take (i := 4) (oi := _) (v := ?_) rfl (by kernel_rfl) (by kernel_rfl) (by kernel_rfl) (fun _ _ _ h => h) (Or.inl ⟨by rfl, ?_⟩) (by assumption) ?_
            rotate_left
            · (intro w hSw; (try dsimp only at hSw); (try simp only [List.getElem_toArray, List.getElem_cons_succ, List.getElem_cons_zero]); go_simp; try with_reducible rfl)
            simp only [Act.put, List.setIfInBounds_toArray, List.set_cons_zero, List.set_cons_succ, List.getElem_toArray, List.getElem_cons_succ, List.getElem_cons_zero]
            refine wpAnyH_take (i := 5) (oi := _) (v := ?_) rfl (by kernel_rfl) (by kernel_rfl) (by kernel_rfl) (fun _ _ _ h => h) (Or.inl ⟨by rfl, ?_⟩) (by assumption) ?_
            rotate_left
            · (intro w hSw; (try dsimp only at hSw); (try simp only [List.getElem_toArray, List.getElem_cons_succ, List.getElem_cons_zero]); go_simp; try with_reducible rfl)
            simp only [Act.put, List.setIfInBounds_toArray, List.set_cons_zero, List.set_cons_succ, List.getElem_toArray, List.getElem_cons_succ, List.getElem_cons_zero]
            refine wpAnyH_take (i := 6) (oi := _) (v := ?_) rfl (by kernel_rfl) (by kernel_rfl) (by kernel_rfl) (fun _ _ _ h => h) (Or.inl ⟨by rfl, ?_⟩) (by assumption) ?_
            rotate_left
            · (intro w hSw; (try dsimp only at hSw); (try simp only [List.getElem_toArray, List.getElem_cons_succ, List.getElem_cons_zero]); go_simp; try with_reducible rfl)
            simp only [Act.put, List.setIfInBounds_toArray, List.set_cons_zero, List.set_cons_succ, List.getElem_toArray, List.getElem_cons_succ, List.getElem_cons_zero]
            refine wpAnyH_take (i := 7) (oi := _) (v := ?_) rfl (by kernel_rfl) (by kernel_rfl) (by kernel_rfl) (fun _ _ _ h => h) (Or.inl ⟨by rfl, ?_⟩) (by assumption) ?_
            rotate_left
            · (intro w hSw; (try dsimp only at hSw); (try simp only [List.getElem_toArray, List.getElem_cons_succ, List.getElem_cons_zero]); go_simp; try with_reducible rfl)
            simp only [Act.put, List.setIfInBounds_toArray, List.set_cons_zero, List.set_cons_succ, List.getElem_toArray, List.getElem_cons_succ, List.getElem_cons_zero]
            refine wpAnyH_take (i := 8) (oi := _) (v := ?_) rfl (by kernel_rfl) (by kernel_rfl) (by kernel_rfl) (fun _ _ _ h => h) (Or.inl ⟨by rfl, ?_⟩) (by assumption) ?_
            rotate_left
            · (intro w hSw; (try dsimp only at hSw); (try simp only [List.getElem_toArray, List.getElem_cons_succ, List.getElem_cons_zero]); go_simp; try with_reducible rfl)
            simp only [Act.put, List.setIfInBounds_toArray, List.set_cons_zero, List.set_cons_succ, List.getElem_toArray, List.getElem_cons_succ, List.getElem_cons_zero]
            refine wpAnyH_take (i := 9) (oi := _) (v := ?_) rfl (by kernel_rfl) (by kernel_rfl) (by kernel_rfl) (fun _ _ _ h => h) (Or.inl ⟨by rfl, ?_⟩) (by assumption) ?_
            rotate_left
            · (intro w hSw; (try dsimp only at hSw); (try simp only [List.getElem_toArray, List.getElem_cons_succ, List.getElem_cons_zero]); go_simp; try with_reducible rfl)
            simp only [Act.put, List.setIfInBounds_toArray, List.set_cons_zero, List.set_cons_succ, List.getElem_toArray, List.getElem_cons_succ, List.getElem_cons_zero]
            refine wpAnyH_take (i := 10) (oi := _) (v := ?_) rfl (by kernel_rfl) (by kernel_rfl) (by kernel_rfl) (fun _ _ _ h => h) (Or.inl ⟨by rfl, ?_⟩) (by assumption) ?_
            rotate_left
            · (intro w hSw; (try dsimp only at hSw); (try simp only [List.getElem_toArray, List.getElem_cons_succ, List.getElem_cons_zero]); go_simp; try with_reducible rfl)
            simp only [Act.put, List.setIfInBounds_toArray, List.set_cons_zero, List.set_cons_succ, List.getElem_toArray, List.getElem_cons_succ, List.getElem_cons_zero]
            refine wpAnyH_take (i := 11) (oi := _) (v := ?_) rfl (by kernel_rfl) (by kernel_rfl) (by kernel_rfl) (fun _ _ _ h => h) (Or.inl ⟨by rfl, ?_⟩) (by assumption) ?_
            rotate_left
            · (intro w hSw; (try dsimp only at hSw); (try simp only [List.getElem_toArray, List.getElem_cons_succ, List.getElem_cons_zero]); go_simp; try with_reducible rfl)
            simp only [Act.put, List.setIfInBounds_toArray, List.set_cons_zero, List.set_cons_succ, List.getElem_toArray, List.getElem_cons_succ, List.getElem_cons_zero]
            refine wpAnyH_take (i := 12) (oi := _) (v := ?_) rfl (by kernel_rfl) (by kernel_rfl) (by kernel_rfl) (fun _ _ _ h => h) (Or.inl ⟨by rfl, ?_⟩) (by assumption) ?_
            rotate_left
            · (intro w hSw; (try dsimp only at hSw); (try simp only [List.getElem_toArray, List.getElem_cons_succ, List.getElem_cons_zero]); go_simp; try with_reducible rfl)
            simp only [Act.put, List.setIfInBounds_toArray, List.set_cons_zero, List.set_cons_succ, List.getElem_toArray, List.getElem_cons_succ, List.getElem_cons_zero]
            refine wpAnyH_take (i := 13) (oi := _) (v := ?_) rfl (by kernel_rfl) (by kernel_rfl) (by kernel_rfl) (fun _ _ _ h => h) (Or.inl ⟨by rfl, ?_⟩) (by assumption) ?_
            rotate_left
            · (intro w hSw; (try dsimp only at hSw); (try simp only [List.getElem_toArray, List.getElem_cons_succ, List.getElem_cons_zero]); go_simp; try with_reducible rfl)
            simp only [Act.put, List.setIfInBounds_toArray, List.set_cons_zero, List.set_cons_succ, List.getElem_toArray, List.getElem_cons_succ, List.getElem_cons_zero]
            refine wpAnyH_take (i := 14) (oi := _) (v := ?_) rfl (by kernel_rfl) (by kernel_rfl) (by kernel_rfl) (fun _ _ _ h => h) (Or.inl ⟨by rfl, ?_⟩) (by assumption) ?_
            rotate_left
            · (intro w hSw; (try dsimp only at hSw); (try simp only [List.getElem_toArray, List.getElem_cons_succ, List.getElem_cons_zero]); go_simp; try with_reducible rfl)
            simp only [Act.put, List.setIfInBounds_toArray, List.set_cons_zero, List.set_cons_succ, List.getElem_toArray, List.getElem_cons_succ, List.getElem_cons_zero]
            refine wpAnyH_ready (rs := [15]) (by kernel_rfl) (by simp) ?_
            refine AllReadyH.cons (o := _) rfl (fun K hK => ?_) AllReadyH.nil
            try simp only [List.getElem_toArray, List.getElem_cons_succ, List.getElem_cons_zero]
            go_simp
            (go_at_call 72; go_split_ands; (with_reducible refine (HIH.out x _ _ hxc HBD.out HVr.out.drew (HSE.out.keep hB.drew) (HBK.out.below hB.drew)).mono ?_); rintro e y ⟨rfl, hVy, hBy⟩; have HVy := Lib.hid hVy; clear hVy)
            go_wp2_with fail
            refine hK.out _ _ (HSX.out _ _ HVy.out (hbr.drew.trans hBy)) (fun hHeld => ?_)
            clear hK K
            try simp only [Act.put, List.setIfInBounds_toArray, List.set_cons_zero, List.set_cons_succ, List.getElem_toArray, List.getElem_cons_succ, List.getElem_cons_zero]
            refine wpAnyH_done (by kernel_rfl) ?_ _
            go_wp2_with fail
            go_roundw
            case rel => exact ⟨x + 1, by omega, by go_num, Lib.hid (by rw [HFK.out]; exact HVy.out), hB.trans (hbr.drew.trans hBy)⟩
            case measure => simp [intOf]; omega
          · have hxe : x = (C + 1).toNat := by omega
            have HVe := Lib.hid (by rw [hxe] at HVr; exact HVr.out : NearS B wr Bs wt (foldN wt (L.drop (k + 1)) s W (some b) (C + 1).toNat))
            clear HVr hxe
            go_wp2_with fail
            exact bodyPost_end (results_none rfl _ _ _) rfl ⟨rfl, HVe.out, hB⟩
    · rw [m3] at h
      clear m3
      have g1 : decide (f < (0 : Int)) = false := decide_eq_false (by omega)
      by_cases h' : (0 : Int) = f
      · have g2 : ((0 : Int) == f) = true := beq_iff_eq.2 h'
        have g3 : decide (b ≤ s) = false := decide_eq_false (by omega)
        clear h h'
        go_enter Tryz.func72, Tryz.ntmps72
        go_upto_region 0 with (fail)
        go_region
        go_upto_region 4 with (go_at_call 71; (with_reducible refine (farN_any (B + 1) wt b _ (by omega) (by omega) (by simpa using q1)).mono ?_); rintro e wf ⟨rfl, rfl⟩; rw [HF.out])
        have HVq := Lib.hid HV.out.drew
        have hBq := (Below.refl B w).drew
        clear q0 q1 q2 q3 q4 q5 q6 q7
        go_wp2_with fail
        go_loopw [11] (fun i wr => ∃ x : Nat, (x : Int) ≤ C + 1 ∧ i = .int .i64 x ∧ Hid (NearS B wr Bs wt (foldN wt (L.drop (k + 1)) s W (some b) x)) ∧ Below B w wr) (fun i _ => (C + 1 - intOf i).toNat)
        case atStart => exact ⟨0, by omega, rfl, HVq, hBq⟩
        case round =>
          obtain ⟨x, hx, rfl, HVr, hB⟩ := hrel
          have q0 := HVr.out.cs
          obtain ⟨_, q5, _⟩ := HSE.out.keep hB
          have qw1 := (hB.cell (p := ⟨b', off + k * 3 + 1, none⟩) hb').trans qw
          have qc1 := (hB.cell (p := ⟨b', off + k * 3 + 2, none⟩) hb').trans qc
          clear hBq
          have hszr := HVr.out.size
          by_cases hxc : (x : Int) ≤ C
          · obtain ⟨m0, m1'⟩ := HXM.out x hxc
            have HFK : Hid (foldN wt (L.drop (k + 1)) s W (some b) (x + 1) = visitN wt (L.drop (k + 1)) (s + x * W) (foldN wt (L.drop (k + 1)) s W (some b) x)) := Lib.hid rfl
            have HBD := Lib.hid (HBF.out x hxc)
            generalize foldN wt (L.drop (k + 1)) s W (some b) x = sx at *
            have t1 : IntKind.i64.wrap ((x : Int) * W) = (x : Int) * W := IntWalk.i64_in _ (by omega)
            have t2 : IntKind.i64.wrap (s + (x : Int) * W) = s + (x : Int) * W := IntWalk.i64_in _ (by omega)
            have t3 : IntKind.i64.wrap ((k : Int) + 1) = (k : Int) + 1 := IntWalk.i64_in _ (by omega)
            have t4 : IntKind.i64.wrap ((x : Int) + 1) = (x : Int) + 1 := IntWalk.i64_in _ (by omega)
            have hbr := Below.refl B wr
            have HSX : Hid (∀ (w' : World) (sy : Option Int), NearS B w' Bs wt sy → Below B wr w' → (Below B wr w' ∧ w'.cell? ⟨B + 5, 0, none⟩ = some (.func (.func 72) #[] #[.pointer (some ⟨B + 1, 0, none⟩), .pointer (some ⟨B, 0, none⟩), .pointer (some ⟨B + 3, 0, none⟩), .pointer (some ⟨B + 4, 0, none⟩), .pointer (some ⟨B + 2, 0, none⟩), .pointer (some ⟨B + 5, 0, none⟩)]) ∧ w'.cell? ⟨B, 0, none⟩ = some (.pointer (some ⟨Bs, 0, none⟩)) ∧ w'.cell? ⟨Bs, 0, none⟩ = some (.slice (some ⟨b', off, none⟩) L.length cap) ∧ w'.cell? ⟨b', off + k * 3 + 1, none⟩ = some (.int .i64 W))) := Lib.hid fun w' sy hV' hB' =>
              ⟨hB', hV'.cv, hV'.cs, (hB'.cell (p := ⟨Bs, 0, none⟩) hbs).trans q5, (hB'.cell (p := ⟨b', off + k * 3 + 1, none⟩) hb').trans qw1⟩
            go_upto_region 7 with (fail)
            refine wp_region_held_drew (S := (fun w' => Below B wr w' ∧ w'.cell? ⟨B + 5, 0, none⟩ = some (.func (.func 72) #[] #[.pointer (some ⟨B + 1, 0, none⟩), .pointer (some ⟨B, 0, none⟩), .pointer (some ⟨B + 3, 0, none⟩), .pointer (some ⟨B + 4, 0, none⟩), .pointer (some ⟨B + 2, 0, none⟩), .pointer (some ⟨B + 5, 0, none⟩)]) ∧ w'.cell? ⟨B, 0, none⟩ = some (.pointer (some ⟨Bs, 0, none⟩)) ∧ w'.cell? ⟨Bs, 0, none⟩ = some (.slice (some ⟨b', off, none⟩) L.length cap) ∧ w'.cell? ⟨b', off + k * 3 + 1, none⟩ = some (.int .i64 W))) (by kernel_rfl) (HSX.out _ _ HVr.out.drew hbr.drew) (fun hHeld => ?_)
            refine wpAnyH_take (i := 0) (oi := _) (v := ?_) rfl (by kernel_rfl) (by kernel_rfl) (by kernel_rfl) (fun _ _ _ h => h) (Or.inl ⟨by rfl, ?_⟩) (by assumption) ?_
            rotate_left
            · (intro w hSw; (try dsimp only at hSw); (try simp only [List.getElem_toArray, List.getElem_cons_zero]); go_simp; try with_reducible rfl)
            simp only [Act.put, List.setIfInBounds_toArray, List.set_cons_zero, List.set_cons_succ, List.getElem_toArray, List.getElem_cons_zero]
            refine wpAnyH_take (i := 1) (oi := _) (v := ?_) rfl (by kernel_rfl) (by kernel_rfl) (by kernel_rfl) (fun _ _ _ h => h) (Or.inl ⟨by rfl, ?_⟩) (by assumption) ?_
            rotate_left
            · (intro w hSw; (try dsimp only at hSw); (try simp only [List.getElem_toArray, List.getElem_cons_succ, List.getElem_cons_zero]); go_simp; try with_reducible rfl)
            simp only [Act.put, List.setIfInBounds_toArray, List.set_cons_zero, List.set_cons_succ, List.getElem_toArray, List.getElem_cons_succ, List.getElem_cons_zero]
            refine wpAnyH_take (i := 2) (oi := _) (v := ?_) rfl (by kernel_rfl) (by kernel_rfl) (by kernel_rfl) (fun _ _ _ h => h) (Or.inl ⟨by rfl, ?_⟩) (by assumption) ?_
            rotate_left
            · (intro w hSw; (try dsimp only at hSw); (try simp only [List.getElem_toArray, List.getElem_cons_succ, List.getElem_cons_zero]); go_simp; try with_reducible rfl)
            simp only [Act.put, List.setIfInBounds_toArray, List.set_cons_zero, List.set_cons_succ, List.getElem_toArray, List.getElem_cons_succ, List.getElem_cons_zero]
            refine wpAnyH_take (i := 3) (oi := _) (v := ?_) rfl (by kernel_rfl) (by kernel_rfl) (by kernel_rfl) (fun _ _ _ h => h) (Or.inl ⟨by rfl, ?_⟩) (by assumption) ?_
            rotate_left
            · (intro w hSw; (try dsimp only at hSw); (try simp only [List.getElem_toArray, List.getElem_cons_succ, List.getElem_cons_zero]); go_simp; try with_reducible rfl)
            simp only [Act.put, List.setIfInBounds_toArray, List.set_cons_zero, List.set_cons_succ, List.getElem_toArray, List.getElem_cons_succ, List.getElem_cons_zero]
            refine wpAnyH_take (i := 4) (oi := _) (v := ?_) rfl (by kernel_rfl) (by kernel_rfl) (by kernel_rfl) (fun _ _ _ h => h) (Or.inl ⟨by rfl, ?_⟩) (by assumption) ?_
            rotate_left
            · (intro w hSw; (try dsimp only at hSw); (try simp only [List.getElem_toArray, List.getElem_cons_succ, List.getElem_cons_zero]); go_simp; try with_reducible rfl)
            simp only [Act.put, List.setIfInBounds_toArray, List.set_cons_zero, List.set_cons_succ, List.getElem_toArray, List.getElem_cons_succ, List.getElem_cons_zero]
            refine wpAnyH_take (i := 5) (oi := _) (v := ?_) rfl (by kernel_rfl) (by kernel_rfl) (by kernel_rfl) (fun _ _ _ h => h) (Or.inl ⟨by rfl, ?_⟩) (by assumption) ?_
            rotate_left
            · (intro w hSw; (try dsimp only at hSw); (try simp only [List.getElem_toArray, List.getElem_cons_succ, List.getElem_cons_zero]); go_simp; try with_reducible rfl)
            simp only [Act.put, List.setIfInBounds_toArray, List.set_cons_zero, List.set_cons_succ, List.getElem_toArray, List.getElem_cons_succ, List.getElem_cons_zero]
            refine wpAnyH_take (i := 6) (oi := _) (v := ?_) rfl (by kernel_rfl) (by kernel_rfl) (by kernel_rfl) (fun _ _ _ h => h) (Or.inl ⟨by rfl, ?_⟩) (by assumption) ?_
            rotate_left
            · (intro w hSw; (try dsimp only at hSw); (try simp only [List.getElem_toArray, List.getElem_cons_succ, List.getElem_cons_zero]); go_simp; try with_reducible rfl)
            simp only [Act.put, List.setIfInBounds_toArray, List.set_cons_zero, List.set_cons_succ, List.getElem_toArray, List.getElem_cons_succ, List.getElem_cons_zero]
            refine wpAnyH_take (i := 7) (oi := _) (v := ?_) rfl (by kernel_rfl) (by kernel_rfl) (by kernel_rfl) (fun _ _ _ h => h) (Or.inl ⟨by rfl, ?_⟩) (by assumption) ?_
            rotate_left
            · (intro w hSw; (try dsimp only at hSw); (try simp only [List.getElem_toArray, List.getElem_cons_succ, List.getElem_cons_zero]); go_simp; try with_reducible rfl)
            simp only [Act.put, List.setIfInBounds_toArray, List.set_cons_zero, List.set_cons_succ, List.getElem_toArray, List.getElem_cons_succ, List.getElem_cons_zero]
            refine wpAnyH_take (i := 8) (oi := _) (v := ?_) rfl (by kernel_rfl) (by kernel_rfl) (by kernel_rfl) (fun _ _ _ h => h) (Or.inl ⟨by rfl, ?_⟩) (by assumption) ?_
            rotate_left
            · (intro w hSw; (try dsimp only at hSw); (try simp only [List.getElem_toArray, List.getElem_cons_succ, List.getElem_cons_zero]); go_simp; try with_reducible rfl)
            simp only [Act.put, List.setIfInBounds_toArray, List.set_cons_zero, List.set_cons_succ, List.getElem_toArray, List.getElem_cons_succ, List.getElem_cons_zero]
            refine wpAnyH_take (i := 9) (oi := _) (v := ?_) rfl (by kernel_rfl) (by kernel_rfl) (by kernel_rfl) (fun _ _ _ h => h) (Or.inl ⟨by rfl, ?_⟩) (by assumption) ?_
            rotate_left
            · (intro w hSw; (try dsimp only at hSw); (try simp only [List.getElem_toArray, List.getElem_cons_succ, List.getElem_cons_zero]); go_simp; try with_reducible rfl)
            simp only [Act.put, List.setIfInBounds_toArray, List.set_cons_zero, List.set_cons_succ, List.getElem_toArray, List.getElem_cons_succ, List.getElem_cons_zero]
            refine wpAnyH_take (i := 10) (oi := _) (v := ?_) rfl (by kernel_rfl) (by kernel_rfl) (by kernel_rfl) (fun _ _ _ h => h) (Or.inl ⟨by rfl, ?_⟩) (by assumption) ?_
            rotate_left
            · (intro w hSw; (try dsimp only at hSw); (try simp only [List.getElem_toArray, List.getElem_cons_succ, List.getElem_cons_zero]); go_simp; try with_reducible rfl)
            simp only [Act.put, List.setIfInBounds_toArray, List.set_cons_zero, List.set_cons_succ, List.getElem_toArray, List.getElem_cons_succ, List.getElem_cons_zero]
            refine wpAnyH_take (i := 11) (oi := _) (v := ?_) rfl (by kernel_rfl) (by kernel_rfl) (by kernel_rfl) (fun _ _ _ h => h) (Or.inl ⟨by rfl, ?_⟩) (by assumption) ?_
            rotate_left
            · (intro w hSw; (try dsimp only at hSw); (try simp only [List.getElem_toArray, List.getElem_cons_succ, List.getElem_cons_zero]); go_simp; try with_reducible rfl)
            simp only [Act.put, List.setIfInBounds_toArray, List.set_cons_zero, List.set_cons_succ, List.getElem_toArray, List.getElem_cons_succ, List.getElem_cons_zero]
            refine wpAnyH_take (i := 12) (oi := _) (v := ?_) rfl (by kernel_rfl) (by kernel_rfl) (by kernel_rfl) (fun _ _ _ h => h) (Or.inl ⟨by rfl, ?_⟩) (by assumption) ?_
            rotate_left
            · (intro w hSw; (try dsimp only at hSw); (try simp only [List.getElem_toArray, List.getElem_cons_succ, List.getElem_cons_zero]); go_simp; try with_reducible rfl)
            simp only [Act.put, List.setIfInBounds_toArray, List.set_cons_zero, List.set_cons_succ, List.getElem_toArray, List.getElem_cons_succ, List.getElem_cons_zero]
            refine wpAnyH_take (i := 13) (oi := _) (v := ?_) rfl (by kernel_rfl) (by kernel_rfl) (by kernel_rfl) (fun _ _ _ h => h) (Or.inl ⟨by rfl, ?_⟩) (by assumption) ?_
            rotate_left
            · (intro w hSw; (try dsimp only at hSw); (try simp only [List.getElem_toArray, List.getElem_cons_succ, List.getElem_cons_zero]); go_simp; try with_reducible rfl)
            simp only [Act.put, List.setIfInBounds_toArray, List.set_cons_zero, List.set_cons_succ, List.getElem_toArray, List.getElem_cons_succ, List.getElem_cons_zero]
            refine wpAnyH_take (i := 14) (oi := _) (v := ?_) rfl (by kernel_rfl) (by kernel_rfl) (by kernel_rfl) (fun _ _ _ h => h) (Or.inl ⟨by rfl, ?_⟩) (by assumption) ?_
            rotate_left
            · (intro w hSw; (try dsimp only at hSw); (try simp only [List.getElem_toArray, List.getElem_cons_succ, List.getElem_cons_zero]); go_simp; try with_reducible rfl)
            simp only [Act.put, List.setIfInBounds_toArray, List.set_cons_zero, List.set_cons_succ, List.getElem_toArray, List.getElem_cons_succ, List.getElem_cons_zero]
            refine wpAnyH_ready (rs := [15]) (by kernel_rfl) (by simp) ?_
            refine AllReadyH.cons (o := _) rfl (fun K hK => ?_) AllReadyH.nil
            try simp only [List.getElem_toArray, List.getElem_cons_succ, List.getElem_cons_zero]
            go_simp
            (go_at_call 72; go_split_ands; (with_reducible refine (HIH.out x _ _ hxc HBD.out HVr.out.drew (HSE.out.keep hB.drew) (HBK.out.below hB.drew)).mono ?_); rintro e y ⟨rfl, hVy, hBy⟩; have HVy := Lib.hid hVy; clear hVy)
            go_wp2_with fail
            refine hK.out _ _ (HSX.out _ _ HVy.out (hbr.drew.trans hBy)) (fun hHeld => ?_)
            clear hK K
            try simp only [Act.put, List.setIfInBounds_toArray, List.set_cons_zero, List.set_cons_succ, List.getElem_toArray, List.getElem_cons_succ, List.getElem_cons_zero]
            refine wpAnyH_done (by kernel_rfl) ?_ _
            go_wp2_with fail
            go_roundw
            case rel => exact ⟨x + 1, by omega, by go_num, Lib.hid (by rw [HFK.out]; exact HVy.out), hB.trans (hbr.drew.trans hBy)⟩
            case measure => simp [intOf]; omega
          · have hxe : x = (C + 1).toNat := by omega
            have HVe := Lib.hid (by rw [hxe] at HVr; exact HVr.out : NearS B wr Bs wt (foldN wt (L.drop (k + 1)) s W (some b) (C + 1).toNat))
            clear HVr hxe
            go_wp2_with fail
            exact bodyPost_end (results_none rfl _ _ _) rfl ⟨rfl, HVe.out, hB⟩
      · have g2 : ((0 : Int) == f) = false := beq_eq_false_iff_ne.2 h'
        clear h h'
        go_enter Tryz.func72, Tryz.ntmps72
        go_upto_region 0 with (fail)
        go_region
        go_upto_region 4 with (go_at_call 71; (with_reducible refine (farN_any (B + 1) wt b _ (by omega) (by omega) (by simpa using q1)).mono ?_); rintro e wf ⟨rfl, rfl⟩; rw [HF.out])
        have HVq := Lib.hid HV.out.drew
        have hBq := (Below.refl B w).drew
        clear q0 q1 q2 q3 q4 q5 q6 q7
        go_wp2_with fail
        go_loopw [11] (fun i wr => ∃ x : Nat, (x : Int) ≤ C + 1 ∧ i = .int .i64 x ∧ Hid (NearS B wr Bs wt (foldN wt (L.drop (k + 1)) s W (some b) x)) ∧ Below B w wr) (fun i _ => (C + 1 - intOf i).toNat)
        case atStart => exact ⟨0, by omega, rfl, HVq, hBq⟩
        case round =>
          obtain ⟨x, hx, rfl, HVr, hB⟩ := hrel
          have q0 := HVr.out.cs
          obtain ⟨_, q5, _⟩ := HSE.out.keep hB
          have qw1 := (hB.cell (p := ⟨b', off + k * 3 + 1, none⟩) hb').trans qw
          have qc1 := (hB.cell (p := ⟨b', off + k * 3 + 2, none⟩) hb').trans qc
          clear hBq
          have hszr := HVr.out.size
          by_cases hxc : (x : Int) ≤ C
          · obtain ⟨m0, m1'⟩ := HXM.out x hxc
            have HFK : Hid (foldN wt (L.drop (k + 1)) s W (some b) (x + 1) = visitN wt (L.drop (k + 1)) (s + x * W) (foldN wt (L.drop (k + 1)) s W (some b) x)) := Lib.hid rfl
            have HBD := Lib.hid (HBF.out x hxc)
            generalize foldN wt (L.drop (k + 1)) s W (some b) x = sx at *
            have t1 : IntKind.i64.wrap ((x : Int) * W) = (x : Int) * W := IntWalk.i64_in _ (by omega)
            have t2 : IntKind.i64.wrap (s + (x : Int) * W) = s + (x : Int) * W := IntWalk.i64_in _ (by omega)
            have t3 : IntKind.i64.wrap ((k : Int) + 1) = (k : Int) + 1 := IntWalk.i64_in _ (by omega)
            have t4 : IntKind.i64.wrap ((x : Int) + 1) = (x : Int) + 1 := IntWalk.i64_in _ (by omega)
            have hbr := Below.refl B wr
            have HSX : Hid (∀ (w' : World) (sy : Option Int), NearS B w' Bs wt sy → Below B wr w' → (Below B wr w' ∧ w'.cell? ⟨B + 5, 0, none⟩ = some (.func (.func 72) #[] #[.pointer (some ⟨B + 1, 0, none⟩), .pointer (some ⟨B, 0, none⟩), .pointer (some ⟨B + 3, 0, none⟩), .pointer (some ⟨B + 4, 0, none⟩), .pointer (some ⟨B + 2, 0, none⟩), .pointer (some ⟨B + 5, 0, none⟩)]) ∧ w'.cell? ⟨B, 0, none⟩ = some (.pointer (some ⟨Bs, 0, none⟩)) ∧ w'.cell? ⟨Bs, 0, none⟩ = some (.slice (some ⟨b', off, none⟩) L.length cap) ∧ w'.cell? ⟨b', off + k * 3 + 1, none⟩ = some (.int .i64 W))) := Lib.hid fun w' sy hV' hB' =>
              ⟨hB', hV'.cv, hV'.cs, (hB'.cell (p := ⟨Bs, 0, none⟩) hbs).trans q5, (hB'.cell (p := ⟨b', off + k * 3 + 1, none⟩) hb').trans qw1⟩
            go_upto_region 7 with (fail)
            refine wp_region_held_drew (S := (fun w' => Below B wr w' ∧ w'.cell? ⟨B + 5, 0, none⟩ = some (.func (.func 72) #[] #[.pointer (some ⟨B + 1, 0, none⟩), .pointer (some ⟨B, 0, none⟩), .pointer (some ⟨B + 3, 0, none⟩), .pointer (some ⟨B + 4, 0, none⟩), .pointer (some ⟨B + 2, 0, none⟩), .pointer (some ⟨B + 5, 0, none⟩)]) ∧ w'.cell? ⟨B, 0, none⟩ = some (.pointer (some ⟨Bs, 0, none⟩)) ∧ w'.cell? ⟨Bs, 0, none⟩ = some (.slice (some ⟨b', off, none⟩) L.length cap) ∧ w'.cell? ⟨b', off + k * 3 + 1, none⟩ = some (.int .i64 W))) (by kernel_rfl) (HSX.out _ _ HVr.out.drew hbr.drew) (fun hHeld => ?_)
            refine wpAnyH_take (i := 0) (oi := _) (v := ?_) rfl (by kernel_rfl) (by kernel_rfl) (by kernel_rfl) (fun _ _ _ h => h) (Or.inl ⟨by rfl, ?_⟩) (by assumption) ?_
            rotate_left
            · (intro w hSw; (try dsimp only at hSw); (try simp only [List.getElem_toArray, List.getElem_cons_zero]); go_simp; try with_reducible rfl)
            simp only [Act.put, List.setIfInBounds_toArray, List.set_cons_zero, List.set_cons_succ, List.getElem_toArray, List.getElem_cons_zero]
            refine wpAnyH_take (i := 1) (oi := _) (v := ?_) rfl (by kernel_rfl) (by kernel_rfl) (by kernel_rfl) (fun _ _ _ h => h) (Or.inl ⟨by rfl, ?_⟩) (by assumption) ?_
            rotate_left
            · (intro w hSw; (try dsimp only at hSw); (try simp only [List.getElem_toArray, List.getElem_cons_succ, List.getElem_cons_zero]); go_simp; try with_reducible rfl)
            simp only [Act.put, List.setIfInBounds_toArray, List.set_cons_zero, List.set_cons_succ, List.getElem_toArray, List.getElem_cons_succ, List.getElem_cons_zero]
            refine wpAnyH_take (i := 2) (oi := _) (v := ?_) rfl (by kernel_rfl) (by kernel_rfl) (by kernel_rfl) (fun _ _ _ h => h) (Or.inl ⟨by rfl, ?_⟩) (by assumption) ?_
            rotate_left
            · (intro w hSw; (try dsimp only at hSw); (try simp only [List.getElem_toArray, List.getElem_cons_succ, List.getElem_cons_zero]); go_simp; try with_reducible rfl)
            simp only [Act.put, List.setIfInBounds_toArray, List.set_cons_zero, List.set_cons_succ, List.getElem_toArray, List.getElem_cons_succ, List.getElem_cons_zero]
            refine wpAnyH_take (i := 3) (oi := _) (v := ?_) rfl (by kernel_rfl) (by kernel_rfl) (by kernel_rfl) (fun _ _ _ h => h) (Or.inl ⟨by rfl, ?_⟩) (by assumption) ?_
            rotate_left
            · (intro w hSw; (try dsimp only at hSw); (try simp only [List.getElem_toArray, List.getElem_cons_succ, List.getElem_cons_zero]); go_simp; try with_reducible rfl)
            simp only [Act.put, List.setIfInBounds_toArray, List.set_cons_zero, List.set_cons_succ, List.getElem_toArray, List.getElem_cons_succ, List.getElem_cons_zero]
            refine wpAnyH_take (i := 4) (oi := _) (v := ?_) rfl (by kernel_rfl) (by kernel_rfl) (by kernel_rfl) (fun _ _ _ h => h) (Or.inl ⟨by rfl, ?_⟩) (by assumption) ?_
            rotate_left
            · (intro w hSw; (try dsimp only at hSw); (try simp only [List.getElem_toArray, List.getElem_cons_succ, List.getElem_cons_zero]); go_simp; try with_reducible rfl)
            simp only [Act.put, List.setIfInBounds_toArray, List.set_cons_zero, List.set_cons_succ, List.getElem_toArray, List.getElem_cons_succ, List.getElem_cons_zero]
            refine wpAnyH_take (i := 5) (oi := _) (v := ?_) rfl (by kernel_rfl) (by kernel_rfl) (by kernel_rfl) (fun _ _ _ h => h) (Or.inl ⟨by rfl, ?_⟩) (by assumption) ?_
            rotate_left
            · (intro w hSw; (try dsimp only at hSw); (try simp only [List.getElem_toArray, List.getElem_cons_succ, List.getElem_cons_zero]); go_simp; try with_reducible rfl)
            simp only [Act.put, List.setIfInBounds_toArray, List.set_cons_zero, List.set_cons_succ, List.getElem_toArray, List.getElem_cons_succ, List.getElem_cons_zero]
            refine wpAnyH_take (i := 6) (oi := _) (v := ?_) rfl (by kernel_rfl) (by kernel_rfl) (by kernel_rfl) (fun _ _ _ h => h) (Or.inl ⟨by rfl, ?_⟩) (by assumption) ?_
            rotate_left
            · (intro w hSw; (try dsimp only at hSw); (try simp only [List.getElem_toArray, List.getElem_cons_succ, List.getElem_cons_zero]); go_simp; try with_reducible rfl)
            simp only [Act.put, List.setIfInBounds_toArray, List.set_cons_zero, List.set_cons_succ, List.getElem_toArray, List.getElem_cons_succ, List.getElem_cons_zero]
            refine wpAnyH_take (i := 7) (oi := _) (v := ?_) rfl (by kernel_rfl) (by kernel_rfl) (by kernel_rfl) (fun _ _ _ h => h) (Or.inl ⟨by rfl, ?_⟩) (by assumption) ?_
            rotate_left
            · (intro w hSw; (try dsimp only at hSw); (try simp only [List.getElem_toArray, List.getElem_cons_succ, List.getElem_cons_zero]); go_simp; try with_reducible rfl)
            simp only [Act.put, List.setIfInBounds_toArray, List.set_cons_zero, List.set_cons_succ, List.getElem_toArray, List.getElem_cons_succ, List.getElem_cons_zero]
            refine wpAnyH_take (i := 8) (oi := _) (v := ?_) rfl (by kernel_rfl) (by kernel_rfl) (by kernel_rfl) (fun _ _ _ h => h) (Or.inl ⟨by rfl, ?_⟩) (by assumption) ?_
            rotate_left
            · (intro w hSw; (try dsimp only at hSw); (try simp only [List.getElem_toArray, List.getElem_cons_succ, List.getElem_cons_zero]); go_simp; try with_reducible rfl)
            simp only [Act.put, List.setIfInBounds_toArray, List.set_cons_zero, List.set_cons_succ, List.getElem_toArray, List.getElem_cons_succ, List.getElem_cons_zero]
            refine wpAnyH_take (i := 9) (oi := _) (v := ?_) rfl (by kernel_rfl) (by kernel_rfl) (by kernel_rfl) (fun _ _ _ h => h) (Or.inl ⟨by rfl, ?_⟩) (by assumption) ?_
            rotate_left
            · (intro w hSw; (try dsimp only at hSw); (try simp only [List.getElem_toArray, List.getElem_cons_succ, List.getElem_cons_zero]); go_simp; try with_reducible rfl)
            simp only [Act.put, List.setIfInBounds_toArray, List.set_cons_zero, List.set_cons_succ, List.getElem_toArray, List.getElem_cons_succ, List.getElem_cons_zero]
            refine wpAnyH_take (i := 10) (oi := _) (v := ?_) rfl (by kernel_rfl) (by kernel_rfl) (by kernel_rfl) (fun _ _ _ h => h) (Or.inl ⟨by rfl, ?_⟩) (by assumption) ?_
            rotate_left
            · (intro w hSw; (try dsimp only at hSw); (try simp only [List.getElem_toArray, List.getElem_cons_succ, List.getElem_cons_zero]); go_simp; try with_reducible rfl)
            simp only [Act.put, List.setIfInBounds_toArray, List.set_cons_zero, List.set_cons_succ, List.getElem_toArray, List.getElem_cons_succ, List.getElem_cons_zero]
            refine wpAnyH_take (i := 11) (oi := _) (v := ?_) rfl (by kernel_rfl) (by kernel_rfl) (by kernel_rfl) (fun _ _ _ h => h) (Or.inl ⟨by rfl, ?_⟩) (by assumption) ?_
            rotate_left
            · (intro w hSw; (try dsimp only at hSw); (try simp only [List.getElem_toArray, List.getElem_cons_succ, List.getElem_cons_zero]); go_simp; try with_reducible rfl)
            simp only [Act.put, List.setIfInBounds_toArray, List.set_cons_zero, List.set_cons_succ, List.getElem_toArray, List.getElem_cons_succ, List.getElem_cons_zero]
            refine wpAnyH_take (i := 12) (oi := _) (v := ?_) rfl (by kernel_rfl) (by kernel_rfl) (by kernel_rfl) (fun _ _ _ h => h) (Or.inl ⟨by rfl, ?_⟩) (by assumption) ?_
            rotate_left
            · (intro w hSw; (try dsimp only at hSw); (try simp only [List.getElem_toArray, List.getElem_cons_succ, List.getElem_cons_zero]); go_simp; try with_reducible rfl)
            simp only [Act.put, List.setIfInBounds_toArray, List.set_cons_zero, List.set_cons_succ, List.getElem_toArray, List.getElem_cons_succ, List.getElem_cons_zero]
            refine wpAnyH_take (i := 13) (oi := _) (v := ?_) rfl (by kernel_rfl) (by kernel_rfl) (by kernel_rfl) (fun _ _ _ h => h) (Or.inl ⟨by rfl, ?_⟩) (by assumption) ?_
            rotate_left
            · (intro w hSw; (try dsimp only at hSw); (try simp only [List.getElem_toArray, List.getElem_cons_succ, List.getElem_cons_zero]); go_simp; try with_reducible rfl)
            simp only [Act.put, List.setIfInBounds_toArray, List.set_cons_zero, List.set_cons_succ, List.getElem_toArray, List.getElem_cons_succ, List.getElem_cons_zero]
            refine wpAnyH_take (i := 14) (oi := _) (v := ?_) rfl (by kernel_rfl) (by kernel_rfl) (by kernel_rfl) (fun _ _ _ h => h) (Or.inl ⟨by rfl, ?_⟩) (by assumption) ?_
            rotate_left
            · (intro w hSw; (try dsimp only at hSw); (try simp only [List.getElem_toArray, List.getElem_cons_succ, List.getElem_cons_zero]); go_simp; try with_reducible rfl)
            simp only [Act.put, List.setIfInBounds_toArray, List.set_cons_zero, List.set_cons_succ, List.getElem_toArray, List.getElem_cons_succ, List.getElem_cons_zero]
            refine wpAnyH_ready (rs := [15]) (by kernel_rfl) (by simp) ?_
            refine AllReadyH.cons (o := _) rfl (fun K hK => ?_) AllReadyH.nil
            try simp only [List.getElem_toArray, List.getElem_cons_succ, List.getElem_cons_zero]
            go_simp
            (go_at_call 72; go_split_ands; (with_reducible refine (HIH.out x _ _ hxc HBD.out HVr.out.drew (HSE.out.keep hB.drew) (HBK.out.below hB.drew)).mono ?_); rintro e y ⟨rfl, hVy, hBy⟩; have HVy := Lib.hid hVy; clear hVy)
            go_wp2_with fail
            refine hK.out _ _ (HSX.out _ _ HVy.out (hbr.drew.trans hBy)) (fun hHeld => ?_)
            clear hK K
            try simp only [Act.put, List.setIfInBounds_toArray, List.set_cons_zero, List.set_cons_succ, List.getElem_toArray, List.getElem_cons_succ, List.getElem_cons_zero]
            refine wpAnyH_done (by kernel_rfl) ?_ _
            go_wp2_with fail
            go_roundw
            case rel => exact ⟨x + 1, by omega, by go_num, Lib.hid (by rw [HFK.out]; exact HVy.out), hB.trans (hbr.drew.trans hBy)⟩
            case measure => simp [intOf]; omega
          · have hxe : x = (C + 1).toNat := by omega
            have HVe := Lib.hid (by rw [hxe] at HVr; exact HVr.out : NearS B wr Bs wt (foldN wt (L.drop (k + 1)) s W (some b) (C + 1).toNat))
            clear HVr hxe
            go_wp2_with fail
            exact bodyPost_end (results_none rfl _ _ _) rfl ⟨rfl, HVe.out, hB⟩
end Go.Proofs.YtfkmnneieglolaaGreatDoor
