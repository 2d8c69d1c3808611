/-
  THE WALKS of wear.places, Travel, Turns and of the reference's Places, Travel, Turns.
-/
import Derived.Test.YtfllfabinfmogaaApp
namespace Go.Proofs.Ytfllfabinfmogaa
open Go.RowKit Go.Shelf

def placeBad (n : Int) : Bool := decide (n < 0) || decide (1048576 < n)
set_option maxHeartbeats 1000000 in
theorem asks_placeBad (n₀ : Nat) (w : World) : AsksN 44 #[] n₀ w placeBad := by
  intro W r hB
  show Calls _ _ #[numV r] _ _
  unfold numV
  have key : ∀ b1 b2 : Bool, decide (r < 0) = b1 → decide (1048576 < r) = b2 → Hid (placeBad r = (b1 || b2)) := fun b1 b2 h1 h2 => Lib.hid (by unfold placeBad; rw [h1, h2])
  by_cases a1 : r < 0
  · have H := key _ _ (decide_eq_true a1) rfl
    clear key
    go_enter Try.func44, Try.ntmps44
    go_wp2
    go_ret
    exact ⟨ret_bool (by rw [H.out]; simp), Below.refl _ _⟩
  · have H := key _ _ (decide_eq_false a1) rfl
    clear key
    go_enter Try.func44, Try.ntmps44
    go_wp2
    go_ret
    exact ⟨ret_bool (by rw [H.out]; simp), Below.refl _ _⟩
theorem ent_placeBad (args : Array Value) (w : World) : (callFunc 44 args).run Try.prog w = .ok (.enter 44 args) w := enters_of Try.func44 (by kernel_rfl) rfl args w

/-- What is wrong with places. -/
def placesE (L : List Int) : Int := if 1000 < L.length then 4 else if L.any placeBad then 2 else 0
theorem places_ok {L : List Int} (h : placesE L = 0) : L.length ≤ 1000 ∧ ∀ k, k < L.length → 0 ≤ ig L k ∧ ig L k ≤ 1048576 := by
  unfold placesE at h
  split at h
  · cases h
  · split at h
    · cases h
    · rename_i h1 h2
      refine ⟨by omega, fun k hk => ?_⟩
      have := List.any_eq_false.1 (Bool.eq_false_iff.2 h2) (ig L k) (by rw [ig_eq L k hk]; exact List.getElem_mem hk)
      unfold placeBad at this
      simp at this
      omega
set_option maxHeartbeats 4000000 in
theorem places_any (a : Option Addr) (L : List Int) (cap : Nat) (w : World) (hl : L.length ≤ 1000000) (h : Nums w.heap.size w a L) :
    Calls Try.prog 29 #[.slice a L.length cap] w fun e w' => e = .returned (.int .i64 (placesE L)) ∧ Below w.heap.size w w' := by
  have HS := Lib.hid h
  clear h
  by_cases hn : 1000 < L.length
  · have HR : Hid (placesE L = 4) := Lib.hid (by unfold placesE; rw [if_pos hn])
    rw [HR.out]
    have hn' : (1000 : Int) < L.length := by omega
    go_enter Try.func29, Try.ntmps29
    go_wp2_with fail
    go_ret
    exact ⟨rfl, Below.refl _ _⟩
  · cases hs : L.any placeBad
    · have HR : Hid (placesE L = 0) := Lib.hid (by unfold placesE; rw [if_neg hn, hs]; rfl)
      have HAN : Hid (num_any L placeBad = false) := Lib.hid (by rw [num_any_eq]; exact hs)
      rw [HR.out]
      clear hs
      go_enter Try.func29, Try.ntmps29
      go_wp2_with (go_at_call 43; (with_reducible refine (num_containsFunc _ L _ _ _ _ placeBad _ ent_placeBad (by omega) (Nat.le_refl _) HS.out (asks_placeBad _ _)).mono ?_); rintro e w2 ⟨rfl, hb2⟩; rw [HAN.out])
      go_ret
      exact ⟨rfl, hb2⟩
    · have HR : Hid (placesE L = 2) := Lib.hid (by unfold placesE; rw [if_neg hn, hs]; rfl)
      have HAN : Hid (num_any L placeBad = true) := Lib.hid (by rw [num_any_eq]; exact hs)
      rw [HR.out]
      clear hs
      go_enter Try.func29, Try.ntmps29
      go_wp2_with (go_at_call 43; (with_reducible refine (num_containsFunc _ L _ _ _ _ placeBad _ ent_placeBad (by omega) (Nat.le_refl _) HS.out (asks_placeBad _ _)).mono ?_); rintro e w2 ⟨rfl, hb2⟩; rw [HAN.out])
      go_ret
      exact ⟨rfl, hb2⟩

theorem max_if (a b : Int) : max a b = if a < b then b else a := by rw [Int.max_def]; split <;> split <;> omega
/-- The travel of the first places; how they turn: the last direction, and the count. -/
def travelTo (L : List Int) : Nat → Int
  | 0 => 0
  | k + 1 => travelTo L k + max (ig L (k + 1) - ig L k) (ig L k - ig L (k + 1))
def turnStep (s : Int × Int) (a b : Int) : Int × Int :=
  if a < b then (1, if s.1 ≠ 0 ∧ s.1 ≠ 1 then s.2 + 1 else s.2) else if b < a then (-1, if s.1 ≠ 0 ∧ s.1 ≠ -1 then s.2 + 1 else s.2) else s
def turnsTo (L : List Int) : Nat → Int × Int
  | 0 => (0, 0)
  | k + 1 => turnStep (turnsTo L k) (ig L k) (ig L (k + 1))
def travelP (L : List Int) : Int := travelTo L (L.length - 1)
def turnsP (L : List Int) : Int := (turnsTo L (L.length - 1)).2
theorem travel_bd {L : List Int} (h : ∀ k, k < L.length → 0 ≤ ig L k ∧ ig L k ≤ 1048576) (k : Nat) (hk : k < L.length ∨ k = 0) : 0 ≤ travelTo L k ∧ travelTo L k ≤ k * 1048576 := by
  induction k with
  | zero => simp [travelTo]
  | succ k ih =>
    have := ih (by omega)
    have a := h (k + 1) (by omega)
    have b := h k (by omega)
    simp only [travelTo]
    omega
theorem turns_bd (L : List Int) (k : Nat) : 0 ≤ (turnsTo L k).2 ∧ (turnsTo L k).2 ≤ k ∧ ((turnsTo L k).1 = 0 ∨ (turnsTo L k).1 = 1 ∨ (turnsTo L k).1 = -1) := by
  induction k with
  | zero => simp [turnsTo]
  | succ k ih =>
    simp only [turnsTo, turnStep]
    split
    · split <;> simp <;> omega
    · split
      · split <;> simp <;> omega
      · omega
set_option maxRecDepth 100000 in
set_option maxHeartbeats 8000000 in
theorem travel_any (a : Option Addr) (L : List Int) (cap : Nat) (w : World) (hl : L.length ≤ 1000000) (h : Nums w.heap.size w a L) :
    Calls Try.prog 10 #[.slice a L.length cap] w fun e w' => e = .returned (.tuple #[.int .i64 (if placesE L = 0 then travelP L else 0), .int .i64 (placesE L)]) ∧ Below w.heap.size w w' := by
  have HS := Lib.hid h
  have HPl := Lib.hid (places_any a L cap w hl h)
  clear h
  obtain ⟨g, hg⟩ : ∃ g, placesE L = g := ⟨_, rfl⟩
  rw [hg]
  rw [hg] at HPl
  by_cases h0 : g = 0
  · subst h0
    obtain ⟨hL, hB⟩ := places_ok hg
    have HB := Lib.hid hB
    rw [if_pos rfl]
    clear hg hB
    go_enter Try.func10, Try.ntmps10
    go_wp2_with (go_at_call 29; (with_reducible refine HPl.out.mono ?_); rintro e w1 ⟨rfl, hb1⟩)
    go_loopw [5, 6] (fun s i wr => ∃ k : Nat, (k + 1 ≤ L.length ∨ k = 0) ∧ i = .int .i64 (↑k + 1) ∧ s = .int .i64 (travelTo L k) ∧ Below w.heap.size w wr) (fun _ i _ => L.length - (intOf i).toNat)
    case atStart => exact ⟨0, .inr rfl, rfl, rfl, hb1⟩
    case round =>
      obtain ⟨k, hk, rfl, rfl, hC⟩ := hrel
      by_cases hlt : k + 1 < L.length
      · obtain ⟨b, off, rfl, hb, hc⟩ := HS.out (by omega)
        have d0 := (hC.cell (p := ⟨b, off + k, none⟩) hb).trans (hc k (by omega))
        have d1 := (hC.cell (p := ⟨b, off + (k + 1), none⟩) hb).trans (hc (k + 1) hlt)
        have t0 := travel_bd HB.out k (by omega)
        have x0 := HB.out k (by omega)
        have x1 := HB.out (k + 1) hlt
        obtain ⟨x, hx⟩ : ∃ x, ig L k = x := ⟨_, rfl⟩
        obtain ⟨y, hy⟩ : ∃ y, ig L (k + 1) = y := ⟨_, rfl⟩
        have HT : Hid (travelTo L (k + 1) = travelTo L k + max (y - x) (x - y)) := Lib.hid (by simp only [travelTo, hx, hy])
        rw [hx] at d0 x0
        rw [hy] at d1 x1
        obtain ⟨T, hT⟩ : ∃ T, travelTo L k = T := ⟨_, rfl⟩
        rw [hT] at t0 HT ⊢
        clear hc hx hy hT
        have s1 : IntKind.i64.wrap ((k : Int) + 1 - 1) = (k : Int) := by rw [IntWalk.i64_in _ (by omega)]; omega
        have s2 : IntKind.i64.wrap (y - x) = y - x := IntWalk.i64_in _ (by omega)
        have s3 : IntKind.i64.wrap (x - y) = x - y := IntWalk.i64_in _ (by omega)
        have s4 : IntKind.i64.wrap (T + max (y - x) (x - y)) = T + max (y - x) (x - y) := IntWalk.i64_in _ (by omega)
        have s5 : ((k : Int) + 1).toNat = k + 1 := by omega
        go_wp2_with fail
        go_quiet (fail)
        clear s1 s2 s3 s4 s5
        go_wp2
        go_roundw
        case rel => exact ⟨k + 1, .inl (by omega), by go_num, by rw [HT.out, max_if], below_drewN hC _⟩
        case measure => simp [intOf]; omega
      · have hT : travelTo L k = travelP L := by
          unfold travelP
          rcases hk with h | h
          · rw [show L.length - 1 = k by omega]
          · rw [show L.length - 1 = k by omega]
        rw [hT]
        clear hT
        go_wp2_with fail
        go_ret2
        exact ⟨rfl, hC⟩
  · rw [if_neg h0]
    have h1 : (g == 0) = false := by simpa using h0
    have h2 : (g != 0) = true := by simpa using h0
    clear hg h0
    go_enter Try.func10, Try.ntmps10
    go_wp2_with (go_at_call 29; (with_reducible refine HPl.out.mono ?_); rintro e w1 ⟨rfl, hb1⟩)
    go_ret2
    exact ⟨rfl, hb1⟩

set_option maxRecDepth 100000 in
set_option maxHeartbeats 8000000 in
theorem turns_any (a : Option Addr) (L : List Int) (cap : Nat) (w : World) (hl : L.length ≤ 1000000) (h : Nums w.heap.size w a L) :
    Calls Try.prog 11 #[.slice a L.length cap] w fun e w' => e = .returned (.tuple #[.int .i64 (if placesE L = 0 then turnsP L else 0), .int .i64 (placesE L)]) ∧ Below w.heap.size w w' := by
  have HS := Lib.hid h
  have HPl := Lib.hid (places_any a L cap w hl h)
  clear h
  obtain ⟨g, hg⟩ : ∃ g, placesE L = g := ⟨_, rfl⟩
  rw [hg]
  rw [hg] at HPl
  by_cases h0 : g = 0
  · subst h0
    obtain ⟨hL, hB⟩ := places_ok hg
    have HB := Lib.hid hB
    rw [if_pos rfl]
    clear hg hB
    go_enter Try.func11, Try.ntmps11
    go_wp2_with (go_at_call 29; (with_reducible refine HPl.out.mono ?_); rintro e w1 ⟨rfl, hb1⟩)
    go_loopw [5, 6, 7] (fun la c i wr => ∃ k : Nat, (k + 1 ≤ L.length ∨ k = 0) ∧ i = .int .i64 (↑k + 1) ∧ la = .int .i64 (turnsTo L k).1 ∧ c = .int .i64 (turnsTo L k).2 ∧ Below w.heap.size w wr) (fun _ _ i _ => L.length - (intOf i).toNat)
    case atStart => exact ⟨0, .inr rfl, rfl, rfl, rfl, hb1⟩
    case round =>
      obtain ⟨k, hk, rfl, rfl, rfl, hC⟩ := hrel
      by_cases hlt : k + 1 < L.length
      · obtain ⟨b, off, rfl, hb, hc⟩ := HS.out (by omega)
        have d0 := (hC.cell (p := ⟨b, off + k, none⟩) hb).trans (hc k (by omega))
        have d1 := (hC.cell (p := ⟨b, off + (k + 1), none⟩) hb).trans (hc (k + 1) hlt)
        have t0 := turns_bd L k
        obtain ⟨x, hx⟩ : ∃ x, ig L k = x := ⟨_, rfl⟩
        obtain ⟨y, hy⟩ : ∃ y, ig L (k + 1) = y := ⟨_, rfl⟩
        have HT : Hid (turnsTo L (k + 1) = turnStep (turnsTo L k) x y) := Lib.hid (by simp only [turnsTo, hx, hy])
        rw [hx] at d0
        rw [hy] at d1
        obtain ⟨⟨la, c⟩, hT⟩ : ∃ T, turnsTo L k = T := ⟨_, rfl⟩
        rw [hT] at t0 HT ⊢
        simp only at t0 ⊢
        obtain ⟨t1, t2, t3⟩ := t0
        clear hc hx hy hT
        have s1 : IntKind.i64.wrap ((k : Int) + 1 - 1) = (k : Int) := by rw [IntWalk.i64_in _ (by omega)]; omega
        have s2 : IntKind.i64.wrap (c + 1) = c + 1 := IntWalk.i64_in _ (by omega)
        have s5 : ((k : Int) + 1).toNat = k + 1 := by omega
        rcases (show y < x ∨ y = x ∨ x < y by omega) with q | q | q
        · have g1 : decide (x < y) = false := decide_eq_false (by omega)
          have g2 : decide (y < x) = true := decide_eq_true q
          rcases t3 with rfl | rfl | rfl
          · have HV : Hid (turnStep (0, c) x y = (-1, c)) := Lib.hid (by unfold turnStep; rw [if_neg (by omega), if_pos q]; simp)
            clear q
            go_wp2_with fail
            go_quiet (fail)
            go_wp2_with fail
            go_quiet (fail)
            go_wp2_with fail
            go_roundw
            case rel => exact ⟨k + 1, .inl (by omega), by go_num, by rw [HT.out, HV.out], by rw [HT.out, HV.out], by first | exact below_drewN hC _ | exact below_drewN (below_drewN hC _) _⟩
            case measure => simp [intOf]; omega
          · have HV : Hid (turnStep (1, c) x y = (-1, c + 1)) := Lib.hid (by unfold turnStep; rw [if_neg (by omega), if_pos q]; simp)
            clear q
            go_wp2_with fail
            go_quiet (fail)
            go_wp2_with fail
            go_quiet (fail)
            go_wp2_with fail
            go_roundw
            case rel => exact ⟨k + 1, .inl (by omega), by go_num, by rw [HT.out, HV.out], by rw [HT.out, HV.out], by first | exact below_drewN hC _ | exact below_drewN (below_drewN hC _) _⟩
            case measure => simp [intOf]; omega
          · have HV : Hid (turnStep (-1, c) x y = (-1, c)) := Lib.hid (by unfold turnStep; rw [if_neg (by omega), if_pos q]; simp)
            clear q
            go_wp2_with fail
            go_quiet (fail)
            go_wp2_with fail
            go_quiet (fail)
            go_wp2_with fail
            go_roundw
            case rel => exact ⟨k + 1, .inl (by omega), by go_num, by rw [HT.out, HV.out], by rw [HT.out, HV.out], by first | exact below_drewN hC _ | exact below_drewN (below_drewN hC _) _⟩
            case measure => simp [intOf]; omega
        · subst q
          rcases t3 with rfl | rfl | rfl
          · have HV : Hid (turnStep (0, c) y y = (0, c)) := Lib.hid (by unfold turnStep; rw [if_neg (by omega), if_neg (by omega)])
            go_wp2_with fail
            go_quiet (fail)
            go_wp2_with fail
            go_quiet (fail)
            go_wp2_with fail
            go_roundw
            case rel => exact ⟨k + 1, .inl (by omega), by go_num, by rw [HT.out, HV.out], by rw [HT.out, HV.out], by first | exact below_drewN hC _ | exact below_drewN (below_drewN hC _) _⟩
            case measure => simp [intOf]; omega
          · have HV : Hid (turnStep (1, c) y y = (1, c)) := Lib.hid (by unfold turnStep; rw [if_neg (by omega), if_neg (by omega)])
            go_wp2_with fail
            go_quiet (fail)
            go_wp2_with fail
            go_quiet (fail)
            go_wp2_with fail
            go_roundw
            case rel => exact ⟨k + 1, .inl (by omega), by go_num, by rw [HT.out, HV.out], by rw [HT.out, HV.out], by first | exact below_drewN hC _ | exact below_drewN (below_drewN hC _) _⟩
            case measure => simp [intOf]; omega
          · have HV : Hid (turnStep (-1, c) y y = (-1, c)) := Lib.hid (by unfold turnStep; rw [if_neg (by omega), if_neg (by omega)])
            go_wp2_with fail
            go_quiet (fail)
            go_wp2_with fail
            go_quiet (fail)
            go_wp2_with fail
            go_roundw
            case rel => exact ⟨k + 1, .inl (by omega), by go_num, by rw [HT.out, HV.out], by rw [HT.out, HV.out], by first | exact below_drewN hC _ | exact below_drewN (below_drewN hC _) _⟩
            case measure => simp [intOf]; omega
        · have g1 : decide (x < y) = true := decide_eq_true q
          rcases t3 with rfl | rfl | rfl
          · have HV : Hid (turnStep (0, c) x y = (1, c)) := Lib.hid (by unfold turnStep; rw [if_pos q]; simp)
            clear q
            go_wp2_with fail
            go_quiet (fail)
            go_wp2_with fail
            go_roundw
            case rel => exact ⟨k + 1, .inl (by omega), by go_num, by rw [HT.out, HV.out], by rw [HT.out, HV.out], by first | exact below_drewN hC _ | exact below_drewN (below_drewN hC _) _⟩
            case measure => simp [intOf]; omega
          · have HV : Hid (turnStep (1, c) x y = (1, c)) := Lib.hid (by unfold turnStep; rw [if_pos q]; simp)
            clear q
            go_wp2_with fail
            go_quiet (fail)
            go_wp2_with fail
            go_roundw
            case rel => exact ⟨k + 1, .inl (by omega), by go_num, by rw [HT.out, HV.out], by rw [HT.out, HV.out], by first | exact below_drewN hC _ | exact below_drewN (below_drewN hC _) _⟩
            case measure => simp [intOf]; omega
          · have HV : Hid (turnStep (-1, c) x y = (1, c + 1)) := Lib.hid (by unfold turnStep; rw [if_pos q]; simp)
            clear q
            go_wp2_with fail
            go_quiet (fail)
            go_wp2_with fail
            go_roundw
            case rel => exact ⟨k + 1, .inl (by omega), by go_num, by rw [HT.out, HV.out], by rw [HT.out, HV.out], by first | exact below_drewN hC _ | exact below_drewN (below_drewN hC _) _⟩
            case measure => simp [intOf]; omega
      · have hT : turnsTo L k = turnsTo L (L.length - 1) := by
          rcases hk with h | h
          · rw [show L.length - 1 = k by omega]
          · rw [show L.length - 1 = k by omega]
        rw [hT]
        clear hT
        go_wp2_with fail
        go_ret2
        exact ⟨rfl, hC⟩
  · rw [if_neg h0]
    have h1 : (g == 0) = false := by simpa using h0
    have h2 : (g != 0) = true := by simpa using h0
    clear hg h0
    go_enter Try.func11, Try.ntmps11
    go_wp2_with (go_at_call 29; (with_reducible refine HPl.out.mono ?_); rintro e w1 ⟨rfl, hb1⟩)
    go_ret2
    exact ⟨rfl, hb1⟩
end Go.Proofs.Ytfllfabinfmogaa
