/-
  THE WALKS of the reference's last, First, Retired, Due, Worn: at the first m entries of a log.
-/
import Derived.Test.YtfojipgbenbigaaDoorAsk
namespace Go.Proofs.YtfojipgbenbigaaDoor
open Go.RowKit Go.Shelf

theorem hasB_two (x y k : Int) : hasB [x, y] k = ((k == x) || (k == y)) := by
  unfold hasB; rw [Bool.eq_iff_iff]; simp

set_option maxHeartbeats 2000000 in
theorem reflast_any (a : Option Addr) (L : List LogR) (n cap : Nat) (rope : ByteArray) (x y : Int) (n₀ : Nat) (w : World) (hn : n ≤ L.length) (hlen : L.length ≤ 1100) (hI : Logs n₀ w a L) :
    Calls Tryd.prog 50 #[.slice a n cap, .string rope, .int .i64 x, .int .i64 y] w fun e w' => e = .returned (.int .i64 (lastTo L rope [x, y] n)) ∧ w = w' := by
  have HI := Lib.hid hI; clear hI
  go_enter Tryd.func50, Tryd.ntmps50
  go_wp2
  go_loop [9] (fun i => ∃ m : Nat, m ≤ n ∧ i = .int .i64 ((m : Int) - 1) ∧ Hid (lastTo L rope [x, y] n = lastTo L rope [x, y] m)) (fun i => (intOf i + 1).toNat)
  case atStart => exact ⟨n, Nat.le_refl _, rfl, Lib.hid rfl⟩
  case round =>
    obtain ⟨m, hm, rfl, HA⟩ := hrel
    rcases m with _ | m
    · rw [show (((0 : Nat) : Int) - 1) = -1 from rfl]
      go_wp2
      go_ret
      exact ⟨ret_int HA.out.symm, rfl⟩
    · rw [show (((m + 1 : Nat) : Int) - 1) = (m : Int) from by omega]
      obtain ⟨b, off, rfl, hb, hcx⟩ := HI.out (by omega)
      obtain ⟨_, c1, c2, _⟩ := hcx m (by omega)
      clear hcx
      have hs := str_eq (lg L m).rope rope
      obtain ⟨b1, h1⟩ : ∃ b, decide ((lg L m).rope = rope) = b := ⟨_, rfl⟩
      rw [h1] at hs
      obtain ⟨b2, h2⟩ : ∃ b, ((lg L m).kind == x) = b := ⟨_, rfl⟩
      obtain ⟨b3, h3⟩ : ∃ b, ((lg L m).kind == y) = b := ⟨_, rfl⟩
      have hmt : Hid (mt L rope [x, y] m = (b1 && (b2 || b3))) := Lib.hid (by unfold mt; rw [h1, hasB_two, h2, h3])
      clear h1
      by_cases hgo : (b1 && (b2 || b3)) = true
      · have H : Hid (lastTo L rope [x, y] n = m) := Lib.hid (by rw [HA.out]; simp only [lastTo]; rw [hmt.out, hgo]; rfl)
        have hb1 : b1 = true := by cases b1 <;> simp_all
        subst hb1
        cases b2
        · cases b3
          · exact absurd hgo (by decide)
          · clear hgo
            go_wp2
            go_ret
            exact ⟨ret_int H.out.symm, rfl⟩
        · clear hgo
          go_wp2
          go_ret
          exact ⟨ret_int H.out.symm, rfl⟩
      · have H : Hid (lastTo L rope [x, y] n = lastTo L rope [x, y] m) := Lib.hid (by rw [HA.out]; simp only [lastTo]; rw [hmt.out, if_neg hgo])
        cases b1
        · clear hgo
          go_wp2
          go_round
          case rel => exact ⟨m, by omega, rfl, H⟩
          case measure => simp [intOf]
        · cases b2
          · cases b3
            · clear hgo
              go_wp2
              go_round
              case rel => exact ⟨m, by omega, rfl, H⟩
              case measure => simp [intOf]
            · exact absurd rfl hgo
          · exact absurd rfl hgo

set_option maxHeartbeats 2000000 in
theorem reffirst_any (a : Option Addr) (L : List LogR) (cap : Nat) (rope : ByteArray) (n₀ : Nat) (w : World) (hlen : L.length ≤ 1100) (hI : Logs n₀ w a L) :
    Calls Tryd.prog 22 #[.slice a L.length cap, .string rope] w fun e w' => e = .returned (.int .i64 (firstI L rope)) ∧ w = w' := by
  have HI := Lib.hid hI; clear hI
  go_enter Tryd.func22, Tryd.ntmps22
  go_wp2
  go_loop [5] (fun i => ∃ k : Nat, k ≤ L.length ∧ i = .int .i64 k ∧ Hid (∀ j, j < k → (lg L j).rope ≠ rope)) (fun i => L.length - (intOf i).toNat)
  case atStart => exact ⟨0, Nat.zero_le _, rfl, Lib.hid (fun _ h => absurd h (Nat.not_lt_zero _))⟩
  case round =>
    obtain ⟨k, hk, rfl, HA⟩ := hrel
    by_cases hlt : k < L.length
    · obtain ⟨b, off, rfl, hb, hcx⟩ := HI.out (by omega)
      obtain ⟨_, c1, _, _⟩ := hcx k hlt
      clear hcx
      have hs := str_eq (lg L k).rope rope
      by_cases e : (lg L k).rope = rope
      · have H := Lib.hid (first_hit L rope k hlt e HA.out)
        rw [decide_eq_true e] at hs
        clear e
        go_wp2
        go_ret
        exact ⟨ret_int H.out.symm, rfl⟩
      · have HB : Hid (∀ j, j < k + 1 → (lg L j).rope ≠ rope) := Lib.hid fun j hj => by
          rcases Nat.lt_or_ge j k with l | l
          · exact HA.out j l
          · obtain rfl : j = k := by omega
            exact e
        rw [decide_eq_false e] at hs
        clear e
        go_wp2
        go_round
        case rel => exact ⟨k + 1, by omega, by go_num, HB⟩
        case measure => simp [intOf]; omega
    · obtain rfl : k = L.length := by omega
      have H := Lib.hid (first_miss L rope HA.out)
      go_wp2
      go_ret
      exact ⟨ret_int H.out.symm, rfl⟩

set_option maxHeartbeats 1000000 in
theorem refret_any (a : Option Addr) (L : List LogR) (n cap : Nat) (rope : ByteArray) (n₀ : Nat) (w : World) (hn : n ≤ L.length) (hlen : L.length ≤ 1100) (hI : Logs n₀ w a L) :
    Calls Tryd.prog 23 #[.slice a n cap, .string rope] w fun e w' => e = .returned (.bool (retTo L rope n)) ∧ w = w' := by
  have HC := Lib.hid (reflast_any a L n cap rope 2 4 n₀ w hn hlen hI)
  rcases last_cases L rope [2, 4] n with ⟨hz, _⟩ | ⟨k, hk, hz, _, _⟩
  · have H := Lib.hid (ret_no L rope _ hz)
    rw [hz] at HC
    clear hz
    go_enter Tryd.func23, Tryd.ntmps23
    go_wp2_with (go_at_call 50; (with_reducible refine HC.out.mono ?_); rintro e w1 ⟨rfl, rfl⟩)
    go_ret
    exact ⟨ret_bool H.out.symm, rfl⟩
  · obtain ⟨b, off, rfl, hb, hc⟩ := hI (by omega)
    have c2 := (hc k (by omega)).2.2.1
    clear hc
    rw [hz] at HC
    have H := Lib.hid (ret_at L rope _ k hz)
    clear hz
    obtain ⟨bv, hbv⟩ : ∃ bv, ((lg L k).kind == 4) = bv := ⟨_, rfl⟩
    cases bv
    all_goals
      go_enter Tryd.func23, Tryd.ntmps23
      go_wp2_with (go_at_call 50; (with_reducible refine HC.out.mono ?_); rintro e w1 ⟨rfl, rfl⟩)
      go_ret
      exact ⟨ret_bool (by rw [H.out, hbv]), rfl⟩

set_option maxHeartbeats 1000000 in
theorem refdue_any (a : Option Addr) (L : List LogR) (cap : Nat) (rope : ByteArray) (every : Int) (n₀ : Nat) (w : World) (hlen : L.length ≤ 1100) (hI : Logs n₀ w a L) (ht : Tame L) (he0 : 1 ≤ every) (he1 : every ≤ 36600) (hf : firstI L rope ≠ -1) :
    Calls Tryd.prog 24 #[.slice a L.length cap, .string rope, .int .i64 every] w fun e w' => e = .returned (.int .i64 (dueI L rope every)) ∧ w = w' := by
  have HC := Lib.hid (reflast_any a L L.length cap rope 1 2 n₀ w (Nat.le_refl _) hlen hI)
  have HF := Lib.hid (reffirst_any a L cap rope n₀ w hlen hI)
  rcases last_cases L rope [1, 2] L.length with ⟨hz, _⟩ | ⟨k, hk, hz, _, _⟩
  · rcases first_cases L rope with ⟨h, _⟩ | ⟨k, hk, hfk, _, _⟩
    · exact absurd h hf
    · obtain ⟨b, off, rfl, hb, hc⟩ := hI (by omega)
      have c0 := (hc k hk).1
      clear hc hI hf
      have H := Lib.hid (due_no L rope every k hz hfk)
      rw [hz] at HC
      rw [hfk] at HF
      clear hz hfk
      go_enter Tryd.func24, Tryd.ntmps24
      go_wp2_with (first | (go_at_call 50; (with_reducible refine HC.out.mono ?_); rintro e w1 ⟨rfl, rfl⟩) | (go_at_call 22; (with_reducible refine HF.out.mono ?_); rintro e w1 ⟨rfl, rfl⟩))
      go_ret
      exact ⟨ret_int H.out.symm, rfl⟩
  · obtain ⟨b, off, rfl, hb, hc⟩ := hI (by omega)
    have c0 := (hc k hk).1
    obtain ⟨t0, t1, _, _⟩ := ht k hk
    clear hc hI hf
    have H := Lib.hid (due_at L rope every k hz)
    rw [hz] at HC
    clear hz HF
    go_enter Tryd.func24, Tryd.ntmps24
    go_wp2_with (go_at_call 50; (with_reducible refine HC.out.mono ?_); rintro e w1 ⟨rfl, rfl⟩)
    go_ret
    exact ⟨ret_int H.out.symm, rfl⟩

/-- The runs of a rope among the entries from s on, k of them. -/
def runsFrom (L : List LogR) (rope : ByteArray) (s : Nat) : Nat → Int
  | 0 => 0
  | k + 1 => runsFrom L rope s k + if (lg L (s + k)).rope = rope then (lg L (s + k)).runs else 0
/-- The runs of a rope since it was replaced. -/
def wornI (L : List LogR) (rope : ByteArray) : Int := runsFrom L rope (lastI L rope [2] + 1).toNat (L.length - (lastI L rope [2] + 1).toNat)
theorem runsFrom_bd (L : List LogR) (rope : ByteArray) (s : Nat) (ht : Tame L) (k : Nat) (hk : s + k ≤ L.length) : 0 ≤ runsFrom L rope s k ∧ runsFrom L rope s k ≤ 1000000 * k := by
  induction k with
  | zero => simp [runsFrom]
  | succ k ih =>
    have := ih (by omega)
    obtain ⟨_, _, r1, r2⟩ := ht (s + k) (by omega)
    simp only [runsFrom]
    split <;> omega

theorem hasB_one (x k : Int) : hasB [x, x] k = hasB [x] k := by unfold hasB; rw [Bool.eq_iff_iff]; simp
theorem lastTo_one (L : List LogR) (rope : ByteArray) (x : Int) (n : Nat) : lastTo L rope [x, x] n = lastTo L rope [x] n := by
  induction n with
  | zero => rfl
  | succ n ih =>
    have e : mt L rope [x, x] n = mt L rope [x] n := by unfold mt; rw [hasB_one]
    show (if mt L rope [x, x] n then (n : Int) else lastTo L rope [x, x] n) = (if mt L rope [x] n then (n : Int) else lastTo L rope [x] n)
    rw [e, ih]
theorem last_bd (L : List LogR) (rope : ByteArray) (ks : List Int) (n : Nat) : ∃ s : Nat, lastTo L rope ks n + 1 = s ∧ s ≤ n := by
  rcases last_cases L rope ks n with ⟨h, _⟩ | ⟨k, hk, h, _, _⟩
  · exact ⟨0, by omega, by omega⟩
  · exact ⟨k + 1, by omega, by omega⟩

set_option maxHeartbeats 2000000 in
theorem refworn_any (a : Option Addr) (L : List LogR) (cap : Nat) (rope : ByteArray) (n₀ : Nat) (w : World) (hlen : L.length ≤ 1100) (hI : Logs n₀ w a L) (ht : Tame L) :
    Calls Tryd.prog 28 #[.slice a L.length cap, .string rope] w fun e w' => e = .returned (.int .i64 (wornI L rope)) ∧ w = w' := by
  have HC := Lib.hid (reflast_any a L L.length cap rope 2 2 n₀ w (Nat.le_refl _) hlen hI)
  obtain ⟨s, hs, hsl⟩ := last_bd L rope [2] L.length
  have HW : Hid (wornI L rope = runsFrom L rope s (L.length - s)) := Lib.hid (by unfold wornI lastI; rw [hs, Int.toNat_natCast])
  rw [lastTo_one, show lastTo L rope [2] L.length = (s : Int) - 1 from by omega] at HC
  clear hs
  have HI := Lib.hid hI; clear hI
  have HT := Lib.hid ht; clear ht
  go_enter Tryd.func28, Tryd.ntmps28
  go_wp2_with (go_at_call 50; (with_reducible refine HC.out.mono ?_); rintro e w1 ⟨rfl, rfl⟩)
  go_loop [5, 6] (fun n i => ∃ k : Nat, s + k ≤ L.length ∧ i = .int .i64 ((s + k : Nat) : Int) ∧ n = .int .i64 (runsFrom L rope s k)) (fun _ i => L.length - (intOf i).toNat)
  case atStart => exact ⟨0, by omega, by first | rfl | go_num | (simp), rfl⟩
  case round =>
    obtain ⟨k, hk, rfl, rfl⟩ := hrel
    have bd := runsFrom_bd L rope s HT.out k hk
    have hk2 : k ≤ 1100 := by omega
    by_cases hlt : s + k < L.length
    · obtain ⟨b, off, rfl, hb, hcx⟩ := HI.out (by omega)
      obtain ⟨_, c1, _, c3⟩ := hcx (s + k) hlt
      obtain ⟨_, _, r1, r2⟩ := HT.out (s + k) hlt
      clear hcx
      have hs := str_eq (lg L (s + k)).rope rope
      obtain ⟨q, hq⟩ : ∃ q, s + k = q := ⟨_, rfl⟩
      by_cases e : (lg L (s + k)).rope = rope
      · have H : Hid (runsFrom L rope s (k + 1) = runsFrom L rope s k + (lg L (s + k)).runs) := Lib.hid (by simp only [runsFrom, if_pos e])
        rw [decide_eq_true e] at hs
        clear e
        rw [hq] at hs c1 c3 r1 r2 hlt hk H ⊢
        have Hq := Lib.hid hq; clear hq
        go_wp2
        go_round
        case rel => exact ⟨k + 1, by have := Hq.out; omega, by have := Hq.out; rw [show s + (k + 1) = q + 1 by omega]; go_num, by rw [H.out]⟩
        case measure => simp [intOf]; omega
      · have H : Hid (runsFrom L rope s (k + 1) = runsFrom L rope s k) := Lib.hid (by simp only [runsFrom, if_neg e]; omega)
        rw [decide_eq_false e] at hs
        clear e
        rw [hq] at hs c1 c3 r1 r2 hlt hk ⊢
        have Hq := Lib.hid hq; clear hq
        go_wp2
        go_round
        case rel => exact ⟨k + 1, by have := Hq.out; omega, by have := Hq.out; rw [show s + (k + 1) = q + 1 by omega]; go_num, by rw [H.out]⟩
        case measure => simp [intOf]; omega
    · have H : Hid (wornI L rope = runsFrom L rope s k) := Lib.hid (by rw [HW.out, show L.length - s = k by omega])
      obtain ⟨q, hq⟩ : ∃ q, s + k = q := ⟨_, rfl⟩
      rw [hq] at hlt hk ⊢
      clear hq
      go_wp2
      go_ret
      exact ⟨ret_int H.out.symm, rfl⟩
end Go.Proofs.YtfojipgbenbigaaDoor
