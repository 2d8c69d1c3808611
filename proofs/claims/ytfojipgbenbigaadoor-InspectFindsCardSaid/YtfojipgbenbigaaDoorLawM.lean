/-
  THE WALK of the law InspectMoves: it answers true at every input. Condition: the months' table lies in memory as the program's text lays it.
-/
import Derived.Test.YtfojipgbenbigaaDoorClone
import Derived.Test.YtfojipgbenbigaaDoorSnoc
namespace Go.Proofs.YtfojipgbenbigaaDoor
open Go.RowKit Go.Shelf

theorem ownsRow_base {w : World} {base base' size n : Nat} {e : TypeId} {v : Value} {xs : List Value} (h : w.ownsRow base e size v n xs) (hb : base' ≤ base) : w.ownsRow base' e size v n xs := by
  refine ⟨h.1, ?_⟩
  rcases h.2 with hn | ⟨g, cap, cur, rfl, h1, rest⟩
  · exact .inl hn
  · exact .inr ⟨g, cap, cur, rfl, by omega, rest⟩
theorem cells_four {w : World} {b : Nat} {v0 v1 v2 v3 : Value} (h0 : w.cell? ⟨b, 0, none⟩ = some v0) (h1 : w.cell? ⟨b, 1, none⟩ = some v1) (h2 : w.cell? ⟨b, 2, none⟩ = some v2) (h3 : w.cell? ⟨b, 3, none⟩ = some v3) :
    ∀ j u, [v0, v1, v2, v3][j]? = some u → w.cell? ((⟨b, 0, none⟩ : Addr).add j) = some u := by
  intro j u hj
  rw [Go.WideShapes.add_plain]
  match j, hj with
  | 0, hj => simp at hj; subst hj; simpa using h0
  | 1, hj => simp at hj; subst hj; simpa using h1
  | 2, hj => simp at hj; subst hj; simpa using h2
  | 3, hj => simp at hj; subst hj; simpa using h3
theorem cell_four_new (w : World) (v0 v1 v2 v3 : Value) (t : TypeId) : ∀ j u, [v0, v1, v2, v3][j]? = some u → (w.alloc (.cells #[v0, v1, v2, v3] t)).cell? ((⟨w.heap.size, 0, none⟩ : Addr).add j) = some u :=
  cells_four (by simp) (by simp) (by simp) (by simp)

/-- What the appended log is. -/
def Grew (L : List LogR) (x : LogR) (v : Value) (wx : World) : Prop := ∃ a cap, v = .slice a (L.length + 1) cap ∧ L.length + 1 ≤ cap ∧ cap ≤ maxLen ∧ Logs wx.heap.size wx a (L ++ [x])

theorem grew_of {L : List LogR} {x : LogR} {v : Value} {w : World} {base : Nat} (h : w.ownsRow base 55 4 v (L.length + 1) (lflat L ++ [.int .i64 x.day, .string x.rope, .int .i64 x.kind, .int .i64 x.runs])) : Grew L x v w := by
  rw [← lflat_snoc] at h
  have h' : w.ownsRow base 55 4 v (L ++ [x]).length (lflat (L ++ [x])) := by rw [List.length_append, List.length_singleton]; exact h
  obtain ⟨a, cap, rfl, h1, h2, h3⟩ := logs_of_row h'
  rw [List.length_append, List.length_singleton] at h1
  exact ⟨a, cap, by rw [List.length_append, List.length_singleton], h1, h2, h3⟩

/-- What the law asks, plainly. -/
theorem moves_plain (L : List LogR) (x : LogR) (every : Int) (he : everyB every = true) (hl : L.length ≤ 1100) (h : validB (L ++ [x]) = true) :
    wornP (L ++ [x]) x.rope = (wornI (L ++ [x]) x.rope, 0) ∧ retP (L ++ [x]) x.rope = ((x.kind == 4), 0) ∧ dueP (L ++ [x]) x.rope every = (if x.kind = 4 then (0, 13) else (dueI (L ++ [x]) x.rope every, 0)) ∧
      (0 ≤ x.day ∧ x.day ≤ 109572) ∧ (1 ≤ every ∧ every ≤ 36600) ∧ (0 ≤ x.runs ∧ x.runs ≤ 1000000) ∧ (0 ≤ wornI L x.rope ∧ wornI L x.rope ≤ 1100000000) ∧
      ((firstI L x.rope = -1 ∧ wornP L x.rope = (0, 9) ∧ wornI L x.rope = 0) ∨ (wornP L x.rope = (wornI L x.rope, 0))) := by
  have hg := snoc_given L x h
  have hr := snoc_ret L x h
  obtain ⟨hv, _⟩ := snoc_valid L x h
  have ht := (valid_tame _ h).1 L.length (by simp)
  rw [lg_new] at ht
  refine ⟨by unfold wornP; rw [if_pos hg], by unfold retP; rw [if_pos hg, hr], ?_, ⟨ht.1, ht.2.1⟩, by simp [everyB] at he; omega, ht.2.2, worn_bd L x.rope (valid_tame L hv).1 hl, ?_⟩
  · unfold dueP
    rw [h, he, if_neg (snoc_first L x), hr]
    by_cases e : x.kind = 4 <;> simp [e]
  · by_cases hf : firstI L x.rope = -1
    · have hw := worn_none L x.rope hf
      refine .inl ⟨hf, ?_, hw⟩
      unfold wornP givenI
      rw [hv, hf]
      rfl
    · refine .inr ?_
      unfold wornP givenI
      rw [hv, if_neg hf]
      rfl

set_option maxRecDepth 100000 in
set_option maxHeartbeats 4000000 in
theorem moves_main (a : Option Addr) (L : List LogR) (cap : Nat) (rope : ByteArray) (day runs every : Int) (w : World) (hm : Months w) (hI : Logs w.heap.size w a L) (hcap : L.length ≤ cap) (hcm : cap ≤ 9223372036854775807) (hnil : a = none → cap = 0)
    (hl : ¬ (39 : Int) < L.length) (hs : shortB L = true) (hr : ¬ (60 : Int) < rope.size) (he : everyB every = true) : Calls Tryd.prog 8 #[.slice a L.length cap, .string rope, .int .i64 day, .int .i64 runs, .int .i64 every] w fun e w' => e = .returned (.bool true) ∧ Below w.heap.size w w' := by
  have HA := Lib.hid (awake_any w hm)
  have HI := Lib.hid hI; clear hI hm
  have HNIL := Lib.hid hnil; clear hnil
  have HSH := Lib.hid hs
  have hlen := short_len L hs
  have HE := Lib.hid he
  clear hs he
  obtain ⟨c, ec, hce⟩ : ∃ c ec, wornP L rope = (c, ec) := ⟨_, _, rfl⟩
  have HWP := Lib.hid hce; clear hce
  obtain ⟨i0, hi, hz0, hz1, hz2⟩ := info_parts infoL
  go_enter Tryd.func8, Tryd.ntmps8
  go_wp2_with (first
    | (go_at_call 10; (with_reducible refine HA.out.mono ?_); rintro e w1 ⟨rfl, hb1⟩)
    | (go_at_call 15; (with_reducible refine (short_any _ L _ _ (HI.out.grow hb1)).mono ?_); rintro e w2 ⟨rfl, hb2⟩; have hB2 := hb1.trans (hb2.mono hb1.size); rw [HSH.out])
    | (go_at_call 18; (with_reducible refine (every_any _ _).mono ?_); rintro e w' ⟨rfl, rfl⟩; rw [HE.out])
    | (go_at_call 25; (with_reducible refine (worn2_any _ L _ rope _ hlen hcap hcm (HI.out.grow hB2)).mono ?_); rintro e w3 ⟨rfl, hb3⟩; have hB3 := hB2.trans (hb3.mono hB2.size); rw [HWP.out]))
  go_loopw [13] (fun i wr => ∃ k : Int, 1 ≤ k ∧ k ≤ 5 ∧ i = .int .i64 k ∧ Below w.heap.size w wr) (fun i _ => (6 - intOf i).toNat)
  case atStart => exact ⟨1, by omega, by omega, rfl, hB3⟩
  case round =>
    obtain ⟨k, hk1, hk5, rfl, hB⟩ := hrel
    by_cases hk : k ≤ 4
    · by_cases h3 : k = 3
      · subst h3
        go_upto_region 12 with (fail)
        go_cut [15] (fun s wx => Grew L ⟨day, rope, 3, runs⟩ s wx ∧ Below w.heap.size w wx)
        case first =>
          have hBW : Below w.heap.size w (wr.alloc (.cells #[.int .i64 day, .string rope, .int .i64 3, .int .i64 runs] 55)) := hB.alloc hB.size _
          have x0 : (wr.alloc (.cells #[.int .i64 day, .string rope, .int .i64 3, .int .i64 runs] 55)).cell? ⟨wr.heap.size, 0, none⟩ = some (.int .i64 day) := by simp
          have x1 : (wr.alloc (.cells #[.int .i64 day, .string rope, .int .i64 3, .int .i64 runs] 55)).cell? ⟨wr.heap.size, 1, none⟩ = some (.string rope) := by simp
          have x2 : (wr.alloc (.cells #[.int .i64 day, .string rope, .int .i64 3, .int .i64 runs] 55)).cell? ⟨wr.heap.size, 2, none⟩ = some (.int .i64 3) := by simp
          have x3 : (wr.alloc (.cells #[.int .i64 day, .string rope, .int .i64 3, .int .i64 runs] 55)).cell? ⟨wr.heap.size, 3, none⟩ = some (.int .i64 runs) := by simp
          have hsz : wr.heap.size < (wr.alloc (.cells #[.int .i64 day, .string rope, .int .i64 3, .int .i64 runs] 55)).heap.size := by simp
          generalize wr.alloc (.cells #[.int .i64 day, .string rope, .int .i64 3, .int .i64 runs] 55) = W1 at *
          generalize wr.heap.size = B at *
          go_region_law (first
            | (go_simp; go_at_call 29; refine (clone_any a L cap _ hlen HNIL.out (HI.out.grow (by repeat (first | exact hBW | apply Below.drew | refine Below.alloc ?_ (by have := hBW.size; simp; omega) _)))).mono ?_; rintro e w4 hx; obtain ⟨v4, rfl, hown4, hb4⟩ := hx.out; have hB4 : Below w.heap.size w w4 := Below.trans (by repeat (first | exact hBW | apply Below.drew | refine Below.alloc ?_ (by have := hBW.size; simp; omega) _)) (hb4.mono (by have := hBW.size; simp; omega)); have hr4 := ownsRow_base hown4 (show w.heap.size ≤ _ by have := hBW.size; simp; omega); have y0 := (hb4.cell (p := ⟨B, 0, none⟩) (by simp; omega)).trans (show _ = some (.int .i64 day) by first | (simp [go_sem, x0]; done) | simp [go_sem, x0, hsz]); have y1 := (hb4.cell (p := ⟨B, 1, none⟩) (by simp; omega)).trans (show _ = some (.string rope) by first | (simp [go_sem, x1]; done) | simp [go_sem, x1, hsz]); have y2 := (hb4.cell (p := ⟨B, 2, none⟩) (by simp; omega)).trans (show _ = some (.int .i64 3) by first | (simp [go_sem, x2]; done) | simp [go_sem, x2, hsz]); have y3 := (hb4.cell (p := ⟨B, 3, none⟩) (by simp; omega)).trans (show _ = some (.int .i64 runs) by first | (simp [go_sem, x3]; done) | simp [go_sem, x3, hsz]); clear hx hown4)
            | (refine step_append_lies _ rfl (.tmp 61) (.tmp 63) 35 rfl w.heap.size 55 i0 (.agg #[.int .i64 0, .string ⟨#[]⟩, .int .i64 0, .int .i64 0]) 4 40 Tryd.underlying35 hi hz0 hz1 hz2 rfl (by decide) v4 L.length (lflat L) ?_ ?_ ⟨w4.heap.size, 0, none⟩ 1 1 [.int .i64 day, .string rope, .int .i64 3, .int .i64 runs] ?_ rfl ?_ ?_ ?_ ?_ ?_ ?_ _ rfl ?_; (next => simp [Act.eval]); (next => exact hr4.alloc _); (next => simp [Act.eval]); (next => exact cell_four_new _ _ _ _ _ _); (next => simp [Value.oneCell']); (next => omega); (next => unfold maxLen; omega); (next => omega); (next => have := hB4.size; simp; omega); intro g5 cap5 w5 hown5 hgrow5 _ _)
            | (refine step_append_lies _ rfl (.tmp 61) (.tmp 63) 35 rfl w.heap.size 55 i0 (.agg #[.int .i64 0, .string ⟨#[]⟩, .int .i64 0, .int .i64 0]) 4 40 Tryd.underlying35 hi hz0 hz1 hz2 rfl (by decide) v4 L.length (lflat L) ?_ ?_ ⟨W1.heap.size, 0, none⟩ 1 1 [.int .i64 day, .string rope, .int .i64 3, .int .i64 runs] ?_ rfl ?_ ?_ ?_ ?_ ?_ ?_ _ rfl ?_; (next => simp [Act.eval]); (next => exact hr4); (next => simp [Act.eval]); (next => exact cells_four ((hb4.cell (p := ⟨W1.heap.size, 0, none⟩) (by simp)).trans (by simp [go_sem])) ((hb4.cell (p := ⟨W1.heap.size, 1, none⟩) (by simp)).trans (by simp [go_sem])) ((hb4.cell (p := ⟨W1.heap.size, 2, none⟩) (by simp)).trans (by simp [go_sem])) ((hb4.cell (p := ⟨W1.heap.size, 3, none⟩) (by simp)).trans (by simp [go_sem]))); (next => simp [Value.oneCell']); (next => omega); (next => unfold maxLen; omega); (next => omega); (next => have := hB4.size; simp; omega); intro g5 cap5 w5 hown5 hgrow5 _ _))
          all_goals
            go_wp2_with fail
            go_meet
            first
              | exact ⟨grew_of hown5, hB4.grown hgrow5 hB4.size (fun k e => (hr4.lt k e).1)⟩
              | exact ⟨grew_of hown5, (hB4.alloc hB4.size _).grown hgrow5 (by have := hB4.size; simp; omega) (fun k e => (hr4.lt k e).1)⟩
        case rest =>
          obtain ⟨⟨a', cap', rfl, hc1, hc2, hL'⟩, hBx⟩ := hcut
          obtain ⟨L', hLe⟩ : ∃ L', L ++ [⟨day, rope, 3, runs⟩] = L' := ⟨_, rfl⟩
          have hln : L'.length = L.length + 1 := by rw [← hLe]; simp
          have hlb : L'.length ≤ 1100 := by omega
          rw [hLe] at hL'
          rw [← hln] at hc1 ⊢
          have HLe := Lib.hid hLe
          have hc2' : cap' ≤ 9223372036854775807 := by unfold maxLen at hc2; omega
          clear hLe hln hc2
          cases hv : validB L'
          · have HV := Lib.hid hv; clear hv
            go_wp2_with (go_at_call 27; (with_reducible refine (valid_any _ L' _ _ (by omega) hL').mono ?_); rintro e w6 ⟨rfl, hb6⟩; have hB6 := hBx.trans (hb6.mono hBx.size); rw [HV.out])
            go_roundw
            case rel => exact ⟨4, by omega, by omega, rfl, hB6⟩
            case measure => simp [intOf]
          · have HV := Lib.hid hv
            have hp := moves_plain L ⟨day, rope, 3, runs⟩ every HE.out hlen (by rw [HLe.out]; exact hv)
            rw [HLe.out] at hp
            dsimp only at hp
            obtain ⟨p1, p2, p3, ⟨p4, p5⟩, ⟨p6, p7⟩, ⟨p8, p9⟩, ⟨p10, p11⟩, p12⟩ := hp
            clear hv
            rw [← HLe.out, snoc_worn L ⟨day, rope, 3, runs⟩ (show (3 : Int) ≠ 2 by decide), HLe.out] at p1
            rw [show (((3 : Int) == 4) = false) from rfl] at p2
            rw [if_neg (by decide)] at p3
            try dsimp only at p1 p2 p3
            have HPW := Lib.hid p1
            have HPR := Lib.hid p2
            have HPD := Lib.hid p3
            clear p1 p2 p3
            rcases p12 with ⟨_, e1, e2⟩ | e1
            · rw [HWP.out] at e1
              simp only [Prod.mk.injEq] at e1
              have q1 : (ec == 0) = false := by rw [e1.2]; rfl
              have q2 : (ec == 9) = true := by rw [e1.2]; rfl
              clear e1
              try rw [e2] at HPW
              clear e2 p10 p11
              go_wp2_with (first | (go_at_call 27; (with_reducible refine (valid_any _ L' _ _ (by omega) hL').mono ?_); rintro e w6 ⟨rfl, hb6⟩; have hB6 := hBx.trans (hb6.mono hBx.size); rw [HV.out]) | (go_at_call 25; (with_reducible refine (worn2_any _ L' _ rope _ (by omega) hc1 hc2' (hL'.grow hb6)).mono ?_); rintro e w7 ⟨rfl, hb7⟩; have hB7 := hB6.trans (hb7.mono hB6.size); have hL7 := (hL'.grow hb6).grow hb7; rw [HPW.out]) | (go_at_call 26; (with_reducible refine (retired2_any _ L' _ rope _ (by omega) hL7).mono ?_); rintro e w8 ⟨rfl, hb8⟩; have hB8 := hB7.trans (hb8.mono hB7.size); rw [HPR.out]) | (go_at_call 21; (with_reducible refine (due2_any _ L' _ rope every _ (by omega) (hL7.grow hb8)).mono ?_); rintro e w9 ⟨rfl, hb9⟩; have hB9 := hB8.trans (hb9.mono hB8.size); rw [HPD.out]))
              go_roundw
              case rel => exact ⟨4, by omega, by omega, rfl, hB9⟩
              case measure => simp [intOf]
            · rw [HWP.out] at e1
              simp only [Prod.mk.injEq] at e1
              have q1 : (ec == 0) = true := by rw [e1.2]; rfl
              have q2 : (ec == 9) = false := by rw [e1.2]; rfl
              rw [← e1.1] at p10 p11
              try rw [← e1.1] at HPW
              clear e1
              go_wp2_with (first | (go_at_call 27; (with_reducible refine (valid_any _ L' _ _ (by omega) hL').mono ?_); rintro e w6 ⟨rfl, hb6⟩; have hB6 := hBx.trans (hb6.mono hBx.size); rw [HV.out]) | (go_at_call 25; (with_reducible refine (worn2_any _ L' _ rope _ (by omega) hc1 hc2' (hL'.grow hb6)).mono ?_); rintro e w7 ⟨rfl, hb7⟩; have hB7 := hB6.trans (hb7.mono hB6.size); have hL7 := (hL'.grow hb6).grow hb7; rw [HPW.out]) | (go_at_call 26; (with_reducible refine (retired2_any _ L' _ rope _ (by omega) hL7).mono ?_); rintro e w8 ⟨rfl, hb8⟩; have hB8 := hB7.trans (hb8.mono hB7.size); rw [HPR.out]) | (go_at_call 21; (with_reducible refine (due2_any _ L' _ rope every _ (by omega) (hL7.grow hb8)).mono ?_); rintro e w9 ⟨rfl, hb9⟩; have hB9 := hB8.trans (hb9.mono hB8.size); rw [HPD.out]))
              go_roundw
              case rel => exact ⟨4, by omega, by omega, rfl, hB9⟩
              case measure => simp [intOf]
      · have g3 : (k == 3) = false := beq_eq_false_iff_ne.2 h3
        go_upto_region 12 with (fail)
        go_cut [15] (fun s wx => Grew L ⟨day, rope, k, 0⟩ s wx ∧ Below w.heap.size w wx)
        case first =>
          have hBW : Below w.heap.size w (wr.alloc (.cells #[.int .i64 day, .string rope, .int .i64 k, .int .i64 0] 55)) := hB.alloc hB.size _
          have x0 : (wr.alloc (.cells #[.int .i64 day, .string rope, .int .i64 k, .int .i64 0] 55)).cell? ⟨wr.heap.size, 0, none⟩ = some (.int .i64 day) := by simp
          have x1 : (wr.alloc (.cells #[.int .i64 day, .string rope, .int .i64 k, .int .i64 0] 55)).cell? ⟨wr.heap.size, 1, none⟩ = some (.string rope) := by simp
          have x2 : (wr.alloc (.cells #[.int .i64 day, .string rope, .int .i64 k, .int .i64 0] 55)).cell? ⟨wr.heap.size, 2, none⟩ = some (.int .i64 k) := by simp
          have x3 : (wr.alloc (.cells #[.int .i64 day, .string rope, .int .i64 k, .int .i64 0] 55)).cell? ⟨wr.heap.size, 3, none⟩ = some (.int .i64 0) := by simp
          have hsz : wr.heap.size < (wr.alloc (.cells #[.int .i64 day, .string rope, .int .i64 k, .int .i64 0] 55)).heap.size := by simp
          generalize wr.alloc (.cells #[.int .i64 day, .string rope, .int .i64 k, .int .i64 0] 55) = W1 at *
          generalize wr.heap.size = B at *
          go_region_law (first
            | (go_simp; go_at_call 29; refine (clone_any a L cap _ hlen HNIL.out (HI.out.grow (by repeat (first | exact hBW | apply Below.drew | refine Below.alloc ?_ (by have := hBW.size; simp; omega) _)))).mono ?_; rintro e w4 hx; obtain ⟨v4, rfl, hown4, hb4⟩ := hx.out; have hB4 : Below w.heap.size w w4 := Below.trans (by repeat (first | exact hBW | apply Below.drew | refine Below.alloc ?_ (by have := hBW.size; simp; omega) _)) (hb4.mono (by have := hBW.size; simp; omega)); have hr4 := ownsRow_base hown4 (show w.heap.size ≤ _ by have := hBW.size; simp; omega); have y0 := (hb4.cell (p := ⟨B, 0, none⟩) (by simp; omega)).trans (show _ = some (.int .i64 day) by first | (simp [go_sem, x0]; done) | simp [go_sem, x0, hsz]); have y1 := (hb4.cell (p := ⟨B, 1, none⟩) (by simp; omega)).trans (show _ = some (.string rope) by first | (simp [go_sem, x1]; done) | simp [go_sem, x1, hsz]); have y2 := (hb4.cell (p := ⟨B, 2, none⟩) (by simp; omega)).trans (show _ = some (.int .i64 k) by first | (simp [go_sem, x2]; done) | simp [go_sem, x2, hsz]); have y3 := (hb4.cell (p := ⟨B, 3, none⟩) (by simp; omega)).trans (show _ = some (.int .i64 0) by first | (simp [go_sem, x3]; done) | simp [go_sem, x3, hsz]); clear hx hown4)
            | (refine step_append_lies _ rfl (.tmp 61) (.tmp 63) 35 rfl w.heap.size 55 i0 (.agg #[.int .i64 0, .string ⟨#[]⟩, .int .i64 0, .int .i64 0]) 4 40 Tryd.underlying35 hi hz0 hz1 hz2 rfl (by decide) v4 L.length (lflat L) ?_ ?_ ⟨w4.heap.size, 0, none⟩ 1 1 [.int .i64 day, .string rope, .int .i64 k, .int .i64 0] ?_ rfl ?_ ?_ ?_ ?_ ?_ ?_ _ rfl ?_; (next => simp [Act.eval]); (next => exact hr4.alloc _); (next => simp [Act.eval]); (next => exact cell_four_new _ _ _ _ _ _); (next => simp [Value.oneCell']); (next => omega); (next => unfold maxLen; omega); (next => omega); (next => have := hB4.size; simp; omega); intro g5 cap5 w5 hown5 hgrow5 _ _)
            | (refine step_append_lies _ rfl (.tmp 61) (.tmp 63) 35 rfl w.heap.size 55 i0 (.agg #[.int .i64 0, .string ⟨#[]⟩, .int .i64 0, .int .i64 0]) 4 40 Tryd.underlying35 hi hz0 hz1 hz2 rfl (by decide) v4 L.length (lflat L) ?_ ?_ ⟨W1.heap.size, 0, none⟩ 1 1 [.int .i64 day, .string rope, .int .i64 k, .int .i64 0] ?_ rfl ?_ ?_ ?_ ?_ ?_ ?_ _ rfl ?_; (next => simp [Act.eval]); (next => exact hr4); (next => simp [Act.eval]); (next => exact cells_four ((hb4.cell (p := ⟨W1.heap.size, 0, none⟩) (by simp)).trans (by simp [go_sem])) ((hb4.cell (p := ⟨W1.heap.size, 1, none⟩) (by simp)).trans (by simp [go_sem])) ((hb4.cell (p := ⟨W1.heap.size, 2, none⟩) (by simp)).trans (by simp [go_sem])) ((hb4.cell (p := ⟨W1.heap.size, 3, none⟩) (by simp)).trans (by simp [go_sem]))); (next => simp [Value.oneCell']); (next => omega); (next => unfold maxLen; omega); (next => omega); (next => have := hB4.size; simp; omega); intro g5 cap5 w5 hown5 hgrow5 _ _))
          all_goals
            go_wp2_with fail
            go_meet
            first
              | exact ⟨grew_of hown5, hB4.grown hgrow5 hB4.size (fun k e => (hr4.lt k e).1)⟩
              | exact ⟨grew_of hown5, (hB4.alloc hB4.size _).grown hgrow5 (by have := hB4.size; simp; omega) (fun k e => (hr4.lt k e).1)⟩
        case rest =>
          obtain ⟨⟨a', cap', rfl, hc1, hc2, hL'⟩, hBx⟩ := hcut
          obtain ⟨L', hLe⟩ : ∃ L', L ++ [⟨day, rope, k, 0⟩] = L' := ⟨_, rfl⟩
          have hln : L'.length = L.length + 1 := by rw [← hLe]; simp
          have hlb : L'.length ≤ 1100 := by omega
          rw [hLe] at hL'
          rw [← hln] at hc1 ⊢
          have HLe := Lib.hid hLe
          have hc2' : cap' ≤ 9223372036854775807 := by unfold maxLen at hc2; omega
          clear hLe hln hc2
          cases hv : validB L'
          · have HV := Lib.hid hv; clear hv
            go_wp2_with (go_at_call 27; (with_reducible refine (valid_any _ L' _ _ (by omega) hL').mono ?_); rintro e w6 ⟨rfl, hb6⟩; have hB6 := hBx.trans (hb6.mono hBx.size); rw [HV.out])
            go_roundw
            case rel => exact ⟨k + 1, by omega, by omega, by go_num, hB6⟩
            case measure => simp [intOf]; omega
          · have HV := Lib.hid hv
            have hp := moves_plain L ⟨day, rope, k, 0⟩ every HE.out hlen (by rw [HLe.out]; exact hv)
            rw [HLe.out] at hp
            dsimp only at hp
            obtain ⟨p1, p2, p3, ⟨p4, p5⟩, ⟨p6, p7⟩, ⟨p8, p9⟩, ⟨p10, p11⟩, p12⟩ := hp
            clear hv
            rcases (show k = 1 ∨ k = 2 ∨ k = 4 by omega) with rfl | rfl | rfl
            · rw [← HLe.out, snoc_worn L ⟨day, rope, 1, 0⟩ (show (1 : Int) ≠ 2 by decide), HLe.out] at p1
              dsimp only at p1
              rw [Int.add_zero] at p1
              rw [show (((1 : Int) == 4) = false) from rfl] at p2
              rw [if_neg (by decide), ← HLe.out, snoc_due L ⟨day, rope, 1, 0⟩ every (by simp), HLe.out] at p3
              try dsimp only at p1 p2 p3
              have HPW := Lib.hid p1
              have HPR := Lib.hid p2
              have HPD := Lib.hid p3
              clear p1 p2 p3
              rcases p12 with ⟨_, e1, e2⟩ | e1
              · rw [HWP.out] at e1
                simp only [Prod.mk.injEq] at e1
                have q1 : (ec == 0) = false := by rw [e1.2]; rfl
                have q2 : (ec == 9) = true := by rw [e1.2]; rfl
                clear e1
                try rw [e2] at HPW
                clear e2 p10 p11
                go_wp2_with (first | (go_at_call 27; (with_reducible refine (valid_any _ L' _ _ (by omega) hL').mono ?_); rintro e w6 ⟨rfl, hb6⟩; have hB6 := hBx.trans (hb6.mono hBx.size); rw [HV.out]) | (go_at_call 25; (with_reducible refine (worn2_any _ L' _ rope _ (by omega) hc1 hc2' (hL'.grow hb6)).mono ?_); rintro e w7 ⟨rfl, hb7⟩; have hB7 := hB6.trans (hb7.mono hB6.size); have hL7 := (hL'.grow hb6).grow hb7; rw [HPW.out]) | (go_at_call 26; (with_reducible refine (retired2_any _ L' _ rope _ (by omega) hL7).mono ?_); rintro e w8 ⟨rfl, hb8⟩; have hB8 := hB7.trans (hb8.mono hB7.size); rw [HPR.out]) | (go_at_call 21; (with_reducible refine (due2_any _ L' _ rope every _ (by omega) (hL7.grow hb8)).mono ?_); rintro e w9 ⟨rfl, hb9⟩; have hB9 := hB8.trans (hb9.mono hB8.size); rw [HPD.out]))
                go_roundw
                case rel => exact ⟨2, by omega, by omega, rfl, hB9⟩
                case measure => simp [intOf]
              · rw [HWP.out] at e1
                simp only [Prod.mk.injEq] at e1
                have q1 : (ec == 0) = true := by rw [e1.2]; rfl
                have q2 : (ec == 9) = false := by rw [e1.2]; rfl
                rw [← e1.1] at p10 p11
                try rw [← e1.1] at HPW
                clear e1
                go_wp2_with (first | (go_at_call 27; (with_reducible refine (valid_any _ L' _ _ (by omega) hL').mono ?_); rintro e w6 ⟨rfl, hb6⟩; have hB6 := hBx.trans (hb6.mono hBx.size); rw [HV.out]) | (go_at_call 25; (with_reducible refine (worn2_any _ L' _ rope _ (by omega) hc1 hc2' (hL'.grow hb6)).mono ?_); rintro e w7 ⟨rfl, hb7⟩; have hB7 := hB6.trans (hb7.mono hB6.size); have hL7 := (hL'.grow hb6).grow hb7; rw [HPW.out]) | (go_at_call 26; (with_reducible refine (retired2_any _ L' _ rope _ (by omega) hL7).mono ?_); rintro e w8 ⟨rfl, hb8⟩; have hB8 := hB7.trans (hb8.mono hB7.size); rw [HPR.out]) | (go_at_call 21; (with_reducible refine (due2_any _ L' _ rope every _ (by omega) (hL7.grow hb8)).mono ?_); rintro e w9 ⟨rfl, hb9⟩; have hB9 := hB8.trans (hb9.mono hB8.size); rw [HPD.out]))
                go_roundw
                case rel => exact ⟨2, by omega, by omega, rfl, hB9⟩
                case measure => simp [intOf]
            · rw [← HLe.out, snoc_worn2 L ⟨day, rope, 2, 0⟩ rfl, HLe.out] at p1
              rw [show (((2 : Int) == 4) = false) from rfl] at p2
              rw [if_neg (by decide), ← HLe.out, snoc_due L ⟨day, rope, 2, 0⟩ every (by simp), HLe.out] at p3
              try dsimp only at p1 p2 p3
              have HPW := Lib.hid p1
              have HPR := Lib.hid p2
              have HPD := Lib.hid p3
              clear p1 p2 p3
              rcases p12 with ⟨_, e1, e2⟩ | e1
              · rw [HWP.out] at e1
                simp only [Prod.mk.injEq] at e1
                have q1 : (ec == 0) = false := by rw [e1.2]; rfl
                have q2 : (ec == 9) = true := by rw [e1.2]; rfl
                clear e1
                try rw [e2] at HPW
                clear e2 p10 p11
                go_wp2_with (first | (go_at_call 27; (with_reducible refine (valid_any _ L' _ _ (by omega) hL').mono ?_); rintro e w6 ⟨rfl, hb6⟩; have hB6 := hBx.trans (hb6.mono hBx.size); rw [HV.out]) | (go_at_call 25; (with_reducible refine (worn2_any _ L' _ rope _ (by omega) hc1 hc2' (hL'.grow hb6)).mono ?_); rintro e w7 ⟨rfl, hb7⟩; have hB7 := hB6.trans (hb7.mono hB6.size); have hL7 := (hL'.grow hb6).grow hb7; rw [HPW.out]) | (go_at_call 26; (with_reducible refine (retired2_any _ L' _ rope _ (by omega) hL7).mono ?_); rintro e w8 ⟨rfl, hb8⟩; have hB8 := hB7.trans (hb8.mono hB7.size); rw [HPR.out]) | (go_at_call 21; (with_reducible refine (due2_any _ L' _ rope every _ (by omega) (hL7.grow hb8)).mono ?_); rintro e w9 ⟨rfl, hb9⟩; have hB9 := hB8.trans (hb9.mono hB8.size); rw [HPD.out]))
                go_roundw
                case rel => exact ⟨3, by omega, by omega, rfl, hB9⟩
                case measure => simp [intOf]
              · rw [HWP.out] at e1
                simp only [Prod.mk.injEq] at e1
                have q1 : (ec == 0) = true := by rw [e1.2]; rfl
                have q2 : (ec == 9) = false := by rw [e1.2]; rfl
                rw [← e1.1] at p10 p11
                try rw [← e1.1] at HPW
                clear e1
                go_wp2_with (first | (go_at_call 27; (with_reducible refine (valid_any _ L' _ _ (by omega) hL').mono ?_); rintro e w6 ⟨rfl, hb6⟩; have hB6 := hBx.trans (hb6.mono hBx.size); rw [HV.out]) | (go_at_call 25; (with_reducible refine (worn2_any _ L' _ rope _ (by omega) hc1 hc2' (hL'.grow hb6)).mono ?_); rintro e w7 ⟨rfl, hb7⟩; have hB7 := hB6.trans (hb7.mono hB6.size); have hL7 := (hL'.grow hb6).grow hb7; rw [HPW.out]) | (go_at_call 26; (with_reducible refine (retired2_any _ L' _ rope _ (by omega) hL7).mono ?_); rintro e w8 ⟨rfl, hb8⟩; have hB8 := hB7.trans (hb8.mono hB7.size); rw [HPR.out]) | (go_at_call 21; (with_reducible refine (due2_any _ L' _ rope every _ (by omega) (hL7.grow hb8)).mono ?_); rintro e w9 ⟨rfl, hb9⟩; have hB9 := hB8.trans (hb9.mono hB8.size); rw [HPD.out]))
                go_roundw
                case rel => exact ⟨3, by omega, by omega, rfl, hB9⟩
                case measure => simp [intOf]
            · rw [← HLe.out, snoc_worn L ⟨day, rope, 4, 0⟩ (show (4 : Int) ≠ 2 by decide), HLe.out] at p1
              dsimp only at p1
              rw [Int.add_zero] at p1
              rw [show (((4 : Int) == 4) = true) from rfl] at p2
              rw [if_pos rfl] at p3
              try dsimp only at p1 p2 p3
              have HPW := Lib.hid p1
              have HPR := Lib.hid p2
              have HPD := Lib.hid p3
              clear p1 p2 p3
              rcases p12 with ⟨_, e1, e2⟩ | e1
              · rw [HWP.out] at e1
                simp only [Prod.mk.injEq] at e1
                have q1 : (ec == 0) = false := by rw [e1.2]; rfl
                have q2 : (ec == 9) = true := by rw [e1.2]; rfl
                clear e1
                try rw [e2] at HPW
                clear e2 p10 p11
                go_wp2_with (first | (go_at_call 27; (with_reducible refine (valid_any _ L' _ _ (by omega) hL').mono ?_); rintro e w6 ⟨rfl, hb6⟩; have hB6 := hBx.trans (hb6.mono hBx.size); rw [HV.out]) | (go_at_call 25; (with_reducible refine (worn2_any _ L' _ rope _ (by omega) hc1 hc2' (hL'.grow hb6)).mono ?_); rintro e w7 ⟨rfl, hb7⟩; have hB7 := hB6.trans (hb7.mono hB6.size); have hL7 := (hL'.grow hb6).grow hb7; rw [HPW.out]) | (go_at_call 26; (with_reducible refine (retired2_any _ L' _ rope _ (by omega) hL7).mono ?_); rintro e w8 ⟨rfl, hb8⟩; have hB8 := hB7.trans (hb8.mono hB7.size); rw [HPR.out]) | (go_at_call 21; (with_reducible refine (due2_any _ L' _ rope every _ (by omega) (hL7.grow hb8)).mono ?_); rintro e w9 ⟨rfl, hb9⟩; have hB9 := hB8.trans (hb9.mono hB8.size); rw [HPD.out]))
                go_roundw
                case rel => exact ⟨5, by omega, by omega, rfl, hB9⟩
                case measure => simp [intOf]
              · rw [HWP.out] at e1
                simp only [Prod.mk.injEq] at e1
                have q1 : (ec == 0) = true := by rw [e1.2]; rfl
                have q2 : (ec == 9) = false := by rw [e1.2]; rfl
                rw [← e1.1] at p10 p11
                try rw [← e1.1] at HPW
                clear e1
                go_wp2_with (first | (go_at_call 27; (with_reducible refine (valid_any _ L' _ _ (by omega) hL').mono ?_); rintro e w6 ⟨rfl, hb6⟩; have hB6 := hBx.trans (hb6.mono hBx.size); rw [HV.out]) | (go_at_call 25; (with_reducible refine (worn2_any _ L' _ rope _ (by omega) hc1 hc2' (hL'.grow hb6)).mono ?_); rintro e w7 ⟨rfl, hb7⟩; have hB7 := hB6.trans (hb7.mono hB6.size); have hL7 := (hL'.grow hb6).grow hb7; rw [HPW.out]) | (go_at_call 26; (with_reducible refine (retired2_any _ L' _ rope _ (by omega) hL7).mono ?_); rintro e w8 ⟨rfl, hb8⟩; have hB8 := hB7.trans (hb8.mono hB7.size); rw [HPR.out]) | (go_at_call 21; (with_reducible refine (due2_any _ L' _ rope every _ (by omega) (hL7.grow hb8)).mono ?_); rintro e w9 ⟨rfl, hb9⟩; have hB9 := hB8.trans (hb9.mono hB8.size); rw [HPD.out]))
                go_roundw
                case rel => exact ⟨5, by omega, by omega, rfl, hB9⟩
                case measure => simp [intOf]
    · obtain rfl : k = 5 := by omega
      go_wp2
      go_ret
      exact ⟨rfl, hB⟩
end Go.Proofs.YtfojipgbenbigaaDoor
