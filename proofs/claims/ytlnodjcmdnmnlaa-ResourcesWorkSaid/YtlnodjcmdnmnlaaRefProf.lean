/-
  THE WALK of the reference's Profile (layer 42).
-/
import Derived.Test.YtlnodjcmdnmnlaaRefTasks
namespace Go.Proofs.Ytlnodjcmdnmnlaa
open Go.RowKit Go.Shelf

/-- One row of two has grown by one use; B is a block of neither. -/
theorem rprof_step {base B : Nat} {W w5 : World} {vc vp : Value} {Uc Up : UseL} {g cap : Nat} {q r y : Int}
    (_hc : W.ownsRow base 64 3 vc Uc.length (qgflat Uc)) (hp : W.ownsRow base 64 3 vp Up.length (qgflat Up)) (ha : Apart vc vp)
    (h5 : w5.ownsRow base 64 3 (.slice (some ⟨g, 0, none⟩) (Uc.length + 1) cap) (Uc.length + 1) (qgflat Uc ++ [.int .i64 q, .int .i64 r, .int .i64 y])) (hg : W.grownBy w5 vc.ownBlock) (hin : vc.ownBlock = some g ∨ g = W.heap.size) (hB : some B ≠ vc.ownBlock) :
    (w5.ownsRow base 64 3 (.slice (some ⟨g, 0, none⟩) (Uc.length + 1) cap) (Uc ++ [(q, r, y)]).length (qgflat (Uc ++ [(q, r, y)])) ∧ w5.ownsRow base 64 3 vp Up.length (qgflat Up) ∧ Apart (.slice (some ⟨g, 0, none⟩) (Uc.length + 1) cap) vp) ∧
    ∀ (a : Addr) (v : Value), a.block = B → W.cell? a = some v → w5.cell? a = some v := by
  refine ⟨⟨?_, hp.kept hg ha.kept, ?_⟩, fun a v e h => hg.cell h (by rw [e]; exact hB)⟩
  · rw [qgflat_snoc, List.length_append]; exact h5
  · refine Apart.next ha hp ?_
    rcases hin with e | e
    · exact .inl e.symm
    · exact .inr (by rw [e]; rfl)
theorem profE_ok {L : List TaskR} {S : List Int} (h : profE L S = 0) : tasksB L = true ∧ S.length = L.length ∧ S.any startBad = false := by
  unfold profE at h
  cases ht : tasksB L with
  | false => rw [ht] at h; cases h
  | true =>
    rw [ht, if_pos rfl] at h
    by_cases hn : S.length = L.length
    · rw [if_pos hn] at h
      cases hs : S.any startBad with
      | false => exact ⟨rfl, hn, rfl⟩
      | true => rw [hs, if_pos rfl] at h; cases h
    · rw [if_neg hn] at h; cases h
theorem uses_ok (f : TaskR → Int) {L : List TaskR} {S : List Int} (ht : tasksB L = true) (hn : S.length = L.length) (hs : S.any startBad = false) : UseOK (usesTo f L S L.length) := fun j hj => by
  rw [usesTo_len] at hj
  rw [usesTo_at _ _ _ _ _ hj]
  have a := (tasks_ok ht).2 j hj
  have b := starts_ok hs j (by omega)
  show 0 ≤ ig S j ∧ ig S j < ig S j + (tg L j).length
  omega
set_option maxRecDepth 100000 in
set_option maxHeartbeats 16000000 in
theorem refprofile_any (a sa : Option Addr) (L : List TaskR) (S : List Int) (cap sc : Nat) (w : World) (hls : S.length ≤ 1000) (hpe : profE L S = 0) (hL : Tasks w.heap.size w a L) (hS : Nums w.heap.size w sa S) :
    Calls Try.prog 14 #[.slice a L.length cap, .slice sa S.length sc] w fun e w' => Hid (∃ v u, e = .returned (.tuple #[v, u]) ∧ w'.ownsRow w.heap.size 39 2 v (profL TaskR.crew L S).length (oflat (profL TaskR.crew L S)) ∧ w'.ownsRow w.heap.size 39 2 u (profL TaskR.power L S).length (oflat (profL TaskR.power L S)) ∧ Below w.heap.size w w') := by
  have HL := Lib.hid hL
  have HS := Lib.hid hS
  clear hL hS
  obtain ⟨i0, hi, hz0, hz1, hz2⟩ := info_parts part_info
  obtain ⟨ht, hn, hs⟩ := profE_ok hpe
  have HP1 : Hid (profL TaskR.crew L S = stepsP (usesTo TaskR.crew L S L.length)) := Lib.hid (by unfold profL; rw [if_pos hpe])
  have HP2 : Hid (profL TaskR.power L S = stepsP (usesTo TaskR.power L S L.length)) := Lib.hid (by unfold profL; rw [if_pos hpe])
  obtain ⟨h60, hok⟩ := tasks_ok ht
  have HSO := Lib.hid (starts_ok hs)
  have HOK := Lib.hid hok
  have HSL := Lib.hid hn
  have HU1 : Hid (UseB (usesTo TaskR.crew L S L.length)) := Lib.hid fun k hk => by
    rw [usesTo_len] at hk
    rw [usesTo_at _ _ _ _ _ hk]
    have := hok k hk
    show _ ≤ (tg L k).crew ∧ (tg L k).crew ≤ _
    omega
  have HU2 : Hid (UseB (usesTo TaskR.power L S L.length)) := Lib.hid fun k hk => by
    rw [usesTo_len] at hk
    rw [usesTo_at _ _ _ _ _ hk]
    have := hok k hk
    show _ ≤ (tg L k).power ∧ (tg L k).power ≤ _
    omega
  have HV1 : Hid (UseOK (usesTo TaskR.crew L S L.length)) := Lib.hid (uses_ok _ ht hn hs)
  have HV2 : Hid (UseOK (usesTo TaskR.power L S L.length)) := Lib.hid (uses_ok _ ht hn hs)
  have HLC : Hid ((∀ k, k ≤ L.length → (usesTo TaskR.crew L S k).length ≤ 1000000) ∧ ∀ k, k ≤ L.length → (usesTo TaskR.power L S k).length ≤ 1000000) := Lib.hid ⟨fun k hk => by rw [usesTo_len]; omega, fun k hk => by rw [usesTo_len]; omega⟩
  clear ht hs hok hn hpe
  go_enter Try.func14, Try.ntmps14
  go_wp2_with fail
  go_loopw [6, 7, 8] (fun v u i wr => ∃ k : Nat, k ≤ L.length ∧ i = .int .i64 k ∧ Below w.heap.size w wr ∧ Hid (wr.ownsRow w.heap.size 64 3 v (usesTo TaskR.crew L S k).length (qgflat (usesTo TaskR.crew L S k)) ∧ wr.ownsRow w.heap.size 64 3 u (usesTo TaskR.power L S k).length (qgflat (usesTo TaskR.power L S k)) ∧ Apart v u)) (fun _ _ i _ => L.length - (intOf i).toNat)
  case atStart => exact ⟨0, Nat.zero_le _, rfl, Below.refl _ _, Lib.hid ⟨World.ownsRow_nil _ _ _ _, World.ownsRow_nil _ _ _ _, .inl rfl⟩⟩
  case round =>
    obtain ⟨k, hk, rfl, hC, HR⟩ := hrel
    have hcs := hC.size
    by_cases hlt : k < L.length
    · have hls2 : k < S.length := by have := HSL.out; omega
      obtain ⟨b, off, rfl, hb, hc⟩ := HL.out (by omega)
      obtain ⟨sb, so, rfl, hsb, hsc⟩ := HS.out (by omega)
      have K0 : ∀ wx, Below w.heap.size w wx → wx.cell? ⟨sb, so + k, none⟩ = some (.int .i64 (ig S k)) := fun wx h => (h.cell (p := ⟨sb, so + k, none⟩) hsb).trans (hsc k hls2)
      have K1 : ∀ wx, Below w.heap.size w wx → wx.cell? ⟨b, off + k * 5 + 1, none⟩ = some (.int .i64 (tg L k).length) := fun wx h => (h.cell (p := ⟨b, off + k * 5 + 1, none⟩) hb).trans (hc k hlt).2.1
      have K2 : ∀ wx, Below w.heap.size w wx → wx.cell? ⟨b, off + k * 5 + 2, none⟩ = some (.int .i64 (tg L k).crew) := fun wx h => (h.cell (p := ⟨b, off + k * 5 + 2, none⟩) hb).trans (hc k hlt).2.2.1
      have K3 : ∀ wx, Below w.heap.size w wx → wx.cell? ⟨b, off + k * 5 + 3, none⟩ = some (.int .i64 (tg L k).power) := fun wx h => (h.cell (p := ⟨b, off + k * 5 + 3, none⟩) hb).trans (hc k hlt).2.2.2.1
      obtain ⟨⟨l1, l2⟩, ⟨l3, l4⟩, l5, l6⟩ := HOK.out k hlt
      obtain ⟨e1, e2⟩ := HSO.out k hls2
      have s1 : IntKind.i64.wrap (ig S k + (tg L k).length) = ig S k + (tg L k).length := IntWalk.i64_in _ (by omega)
      have HN1 := Lib.hid (usesTo_succ TaskR.crew L S k)
      have HN2 := Lib.hid (usesTo_succ TaskR.power L S k)
      have hl1 := HLC.out.1 k hk
      have hl2 := HLC.out.2 k hk
      clear hc hsc
      obtain ⟨Uc, hUc⟩ : ∃ Uc, usesTo TaskR.crew L S k = Uc := ⟨_, rfl⟩
      obtain ⟨Up, hUp⟩ : ∃ Up, usesTo TaskR.power L S k = Up := ⟨_, rfl⟩
      rw [hUc, hUp] at HR
      rw [hUc] at hl1 HN1
      rw [hUp] at hl2 HN2
      clear hUc hUp
      obtain ⟨vc, rfl⟩ : ∃ x : Value, x = u6 := ⟨_, rfl⟩
      obtain ⟨vp, rfl⟩ : ∃ x : Value, x = u7 := ⟨_, rfl⟩
      obtain ⟨hr7, hr8, hap⟩ := HR.out
      have HR7 := Lib.hid hr7
      have HR8 := Lib.hid hr8
      have HAP := Lib.hid hap
      clear hr7 hr8 hap HR
      generalize (tg L k).length = x at *
      generalize (tg L k).crew = y at *
      generalize (tg L k).power = z at *
      generalize ig S k = q at *
      go_wp2_with fail
      go_quiet (fail)
      clear s1
      have HR7 := Lib.hid (own_drewN HR7.out nq)
      have HR8 := Lib.hid (own_drewN HR8.out nq)
      have hW1 : Below w.heap.size w (wr.drewN nq) := below_drewN hC nq
      generalize wr.drewN nq = W1 at *
      have hs1 := hW1.size
      generalize q + x = r at *
      go_upto_region 6 with (fail)
      go_cut [6] (fun v wx => Hid (wx.ownsRow w.heap.size 64 3 v (Uc ++ [(q, r, y)]).length (qgflat (Uc ++ [(q, r, y)])) ∧ wx.ownsRow w.heap.size 64 3 vp Up.length (qgflat Up) ∧ Apart v vp) ∧ Below w.heap.size w wx)
      case first =>
        go_region_law (refine step_append_lies _ rfl (.tmp 26) (.tmp 38) 62 rfl w.heap.size 64 i0 (.agg #[.int .i64 0, .int .i64 0, .int .i64 0]) 3 24 Try.underlying62 hi hz0 hz1 hz2 rfl (by decide) vc Uc.length (qgflat Uc) ?_ ?_ ⟨W1.heap.size, 0, none⟩ 1 1 [.int .i64 q, .int .i64 r, .int .i64 y] ?_ rfl ?_ ?_ ?_ ?_ ?_ ?_ _ rfl ?_; (next => simp [Act.eval]); (next => exact (HR7.out.alloc _).drew); (next => simp [Act.eval]); (next => exact cell_three_drew _ _ _ _ _); (next => simp [Value.oneCell']); (next => omega); (next => unfold maxLen; omega); (next => omega); (next => simp; omega); intro g5 cap5 w5 hown5 hgrow5 hin5 hg5)
        all_goals
          have hps := (rprof_step (B := W1.heap.size) ((HR7.out.alloc _).drew) ((HR8.out.alloc _).drew) HAP.out hown5 hgrow5 hin5 (own_ne HR7.out)).1
          have hB5 : Below w.heap.size w w5 := (hW1.alloc hs1 _).drew.grown hgrow5 (by simp; omega) (fun k e => (HR7.out.lt k e).1)
          go_wp2_with fail
          go_meet
          exact ⟨Lib.hid hps, hB5⟩
      case rest =>
        obtain ⟨HRx, hW1⟩ := hcut
        obtain ⟨v9, rfl⟩ : ∃ x : Value, x = u6 := ⟨_, rfl⟩
        obtain ⟨W3, rfl⟩ : ∃ x : World, x = wc := ⟨_, rfl⟩
        obtain ⟨hr7, hr8, hap⟩ := HRx.out
        clear HRx HR7 HR8 HAP
        have HR7 := Lib.hid hr7
        have HR8 := Lib.hid hr8
        have HAP := Lib.hid hap.symm
        have hs1 := hW1.size
        clear hr7 hr8 hap
        go_upto_region 7 with (fail)
        go_region_law (refine step_append_lies _ rfl (.tmp 40) (.tmp 52) 62 rfl w.heap.size 64 i0 (.agg #[.int .i64 0, .int .i64 0, .int .i64 0]) 3 24 Try.underlying62 hi hz0 hz1 hz2 rfl (by decide) vp Up.length (qgflat Up) ?_ ?_ ⟨W3.heap.size, 0, none⟩ 1 1 [.int .i64 q, .int .i64 r, .int .i64 z] ?_ rfl ?_ ?_ ?_ ?_ ?_ ?_ _ rfl ?_; (next => simp [Act.eval]); (next => exact (HR8.out.alloc _).drew); (next => simp [Act.eval]); (next => exact cell_three_drew _ _ _ _ _); (next => simp [Value.oneCell']); (next => omega); (next => unfold maxLen; omega); (next => omega); (next => simp; omega); intro g5 cap5 w5 hown5 hgrow5 hin5 hg5)
        all_goals
          have HPS := Lib.hid (rprof_step (B := W3.heap.size) ((HR8.out.alloc _).drew) ((HR7.out.alloc _).drew) HAP.out hown5 hgrow5 hin5 (own_ne HR8.out)).1
          have hB5 : Below w.heap.size w w5 := (hW1.alloc hs1 _).drew.grown hgrow5 (by simp; omega) (fun k e => (HR8.out.lt k e).1)
          clear hown5 hin5 hg5 hgrow5
          go_wp2_with fail
          go_roundw
          case rel => exact ⟨k + 1, by omega, by go_num, hB5, Lib.hid ⟨by rw [HN1.out]; exact HPS.out.2.1, by rw [HN2.out]; exact HPS.out.1, HPS.out.2.2.symm⟩⟩
          case measure => simp [intOf]; omega
    · obtain rfl : k = L.length := by omega
      have hl1 : (usesTo TaskR.crew L S L.length).length ≤ 1000 := by rw [usesTo_len]; omega
      have hl2 : (usesTo TaskR.power L S L.length).length ≤ 1000 := by rw [usesTo_len]; omega
      generalize usesTo TaskR.crew L S L.length = Uc at *
      generalize usesTo TaskR.power L S L.length = Up at *
      obtain ⟨hr7, hr8, _⟩ := HR.out
      obtain ⟨a7, c7, rfl, _, _, _, hf7⟩ := part_of_row hr7
      obtain ⟨a8, c8, rfl, _, _, _, hf8⟩ := part_of_row hr8
      have HF7 := Lib.hid hf7
      have HF8 := Lib.hid hf8
      clear hr7 hr8 hf7 hf8 HR
      go_wp2_with (first
        | (go_at_call 29; (with_reducible refine (refsteps_any a7 Uc c7 _ (by omega) HV1.out HU1.out HF7.out).mono ?_); rintro e w5 hx; obtain ⟨v5, rfl, hr5, hb5⟩ := hx.out; have HR5 := Lib.hid hr5; have HF9 := Lib.hid (HF8.out.grow hb5); have hb5s := hb5.size; clear hx hr5)
        | (go_at_call 29; (with_reducible refine (refsteps_any a8 Up c8 _ (by omega) HV2.out HU2.out HF9.out).mono ?_); rintro e w6 hx; obtain ⟨v6, rfl, hr6, hb6⟩ := hx.out; have HR6 := Lib.hid hr6; have HR56 := Lib.hid (ownsRow_below HR5.out hb6); clear hx hr6))
      go_ret2
      rw [HP1.out, HP2.out]
      exact Lib.hid ⟨_, _, rfl, ownsRow_base HR56.out hcs, ownsRow_base HR6.out (by omega), hC.trans ((hb5.trans (hb6.mono hb5s)).mono hcs)⟩
end Go.Proofs.Ytlnodjcmdnmnlaa
