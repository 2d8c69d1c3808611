/-
  THE WALK of Profile (package resources).
-/
import Derived.Test.YtlnodjcmdnmnlaaTasks
import Derived.Test.YtlnodjcmdnmnlaaAppAt
import Derived.RegionTactic
import Derived.IntWalk
import Derived.Outline
import Derived.Deep.DeepCutAuto
namespace Go.Proofs.Ytlnodjcmdnmnlaa
open Go.RowKit Go.Shelf

def startBad (n : Int) : Bool := decide (n < 0) || decide (1000000 < n)
set_option maxHeartbeats 400000 in
theorem asks_startBad (n₀ : Nat) (w : World) : AsksN 27 #[] n₀ w startBad := by
  intro W r hB
  show Calls _ _ #[numV r] _ _
  unfold numV
  have key : ∀ b1 b2 : Bool, decide (r < 0) = b1 → decide (1000000 < r) = b2 → Hid (startBad r = (b1 || b2)) := fun b1 b2 h1 h2 => Lib.hid (by unfold startBad; rw [h1, h2])
  by_cases a1 : r < 0
  · have H := key _ _ (decide_eq_true a1) rfl
    clear key
    go_enter Try.func27, Try.ntmps27
    go_wp2
    go_ret
    exact ⟨ret_bool (by rw [H.out]; simp), Below.refl _ _⟩
  · have H := key _ _ (decide_eq_false a1) rfl
    clear key
    go_enter Try.func27, Try.ntmps27
    go_wp2
    go_ret
    exact ⟨ret_bool (by rw [H.out]; simp), Below.refl _ _⟩
theorem ent_startBad (args : Array Value) (w : World) : (callFunc 27 args).run Try.prog w = .ok (.enter 27 args) w := enters_of Try.func27 (by kernel_rfl) rfl args w
/-- The uses of the first k tasks. -/
def usesTo (f : TaskR → Int) (L : List TaskR) (S : List Int) (k : Nat) : UseL := (List.range k).map fun j => (ig S j, ig S j + (tg L j).length, f (tg L j))
theorem usesTo_len (f : TaskR → Int) (L : List TaskR) (S : List Int) (k : Nat) : (usesTo f L S k).length = k := by simp [usesTo]
theorem usesTo_succ (f : TaskR → Int) (L : List TaskR) (S : List Int) (k : Nat) : usesTo f L S (k + 1) = usesTo f L S k ++ [(ig S k, ig S k + (tg L k).length, f (tg L k))] := by
  unfold usesTo; rw [List.range_succ, List.map_append]; rfl
theorem usesTo_at (f : TaskR → Int) (L : List TaskR) (S : List Int) (k j : Nat) (h : j < k) : ug (usesTo f L S k) j = (ig S j, ig S j + (tg L j).length, f (tg L j)) := by
  unfold ug usesTo
  rw [List.getElem?_map, List.getElem?_range h]
  rfl
def profE (L : List TaskR) (S : List Int) : Int := if tasksB L then (if S.length = L.length then (if S.any startBad then 2 else 0) else 3) else 1
def profL (f : TaskR → Int) (L : List TaskR) (S : List Int) : List (Int × Int) := if profE L S = 0 then stepsP (usesTo f L S L.length) else []
theorem starts_ok {S : List Int} (h : S.any startBad = false) (k : Nat) (hk : k < S.length) : 0 ≤ ig S k ∧ ig S k ≤ 1000000 := by
  have h3 := List.any_eq_false.1 h (ig S k) (by rw [ig_eq S k hk]; exact List.getElem_mem hk)
  unfold startBad at h3
  simp only [Bool.or_eq_true, decide_eq_true_eq, not_or] at h3
  omega
theorem use_n (a : Option Addr) (U : UseL) (n cap : Nat) (w : World) (hn : n = U.length) (hl : U.length ≤ 1000) (hB : UseB U) (hU : Uses w.heap.size w a U) :
    Calls Try.prog 28 #[.slice a n cap] w fun e w' => Hid (∃ v, e = .returned v ∧ w'.ownsRow w.heap.size 39 2 v (stepsP U).length (oflat (stepsP U)) ∧ Below w.heap.size w w') := by
  subst hn
  exact steps_any a U cap w hl hB hU
theorem cell_three_new (w : World) (a b c : Value) (t : TypeId) : ∀ j u, [a, b, c][j]? = some u → (w.alloc (.cells #[a, b, c] t)).cell? ((⟨w.heap.size, 0, none⟩ : Addr).add j) = some u := by
  intro j u hj
  rw [Go.WideShapes.add_plain, Nat.zero_add]
  match j, hj with
  | 0, hj => simp at hj; subst hj; simp
  | 1, hj => simp at hj; subst hj; simp
  | 2, hj => simp at hj; subst hj; simp
theorem cell_three_drew (w : World) (a b c : Value) (t : TypeId) : ∀ j u, [a, b, c][j]? = some u → (w.alloc (.cells #[a, b, c] t)).drew.cell? ((⟨w.heap.size, 0, none⟩ : Addr).add j) = some u := fun j u h => cell_three_new w a b c t j u h
/-- One row of two has grown by one use; B is a block of neither. -/
theorem prof_step {base B : Nat} {W w5 : World} {vc vp : Value} {Uc Up : UseL} {g cap : Nat} {q r y : Int}
    (_hc : W.ownsRow base 60 3 vc Uc.length (ugflat Uc)) (hp : W.ownsRow base 60 3 vp Up.length (ugflat Up)) (ha : Apart vc vp)
    (h5 : w5.ownsRow base 60 3 (.slice (some ⟨g, 0, none⟩) (Uc.length + 1) cap) (Uc.length + 1) (ugflat Uc ++ [.int .i64 q, .int .i64 r, .int .i64 y])) (hg : W.grownBy w5 vc.ownBlock) (hin : vc.ownBlock = some g ∨ g = W.heap.size) (hB : some B ≠ vc.ownBlock) :
    (w5.ownsRow base 60 3 (.slice (some ⟨g, 0, none⟩) (Uc.length + 1) cap) (Uc ++ [(q, r, y)]).length (ugflat (Uc ++ [(q, r, y)])) ∧ w5.ownsRow base 60 3 vp Up.length (ugflat Up) ∧ Apart (.slice (some ⟨g, 0, none⟩) (Uc.length + 1) cap) vp) ∧
    ∀ (a : Addr) (v : Value), a.block = B → W.cell? a = some v → w5.cell? a = some v := by
  refine ⟨⟨?_, hp.kept hg ha.kept, ?_⟩, fun a v e h => hg.cell h (by rw [e]; exact hB)⟩
  · rw [ugflat_snoc, List.length_append]; exact h5
  · refine Apart.next ha hp ?_
    rcases hin with e | e
    · exact .inl e.symm
    · exact .inr (by rw [e]; rfl)
theorem own_ne {w : World} {base size n : Nat} {e : TypeId} {v : Value} {xs : List Value} (h : w.ownsRow base e size v n xs) : some w.heap.size ≠ v.ownBlock := fun e => absurd (h.lt _ e.symm).2 (Nat.lt_irrefl _)
set_option maxRecDepth 100000 in
set_option maxHeartbeats 16000000 in
theorem profile_any (a sa : Option Addr) (L : List TaskR) (S : List Int) (cap sc : Nat) (w : World) (hl : L.length ≤ 1000) (hls : S.length ≤ 1000) (hL : Tasks w.heap.size w a L) (hS : Nums w.heap.size w sa S) :
    Calls Try.prog 9 #[.slice a L.length cap, .slice sa S.length sc] w fun e w' => Hid (∃ v u, e = .returned (.tuple #[v, u, .int .i64 (profE L S)]) ∧ w'.ownsRow w.heap.size 39 2 v (profL TaskR.crew L S).length (oflat (profL TaskR.crew L S)) ∧ w'.ownsRow w.heap.size 39 2 u (profL TaskR.power L S).length (oflat (profL TaskR.power L S)) ∧ Below w.heap.size w w') := by
  have HL := Lib.hid hL
  have HS := Lib.hid hS
  clear hL hS
  obtain ⟨i0, hi, hz0, hz1, hz2⟩ := info_parts use_info
  have bad : ∀ c, profE L S = c → c ≠ 0 → Hid (profL TaskR.crew L S = [] ∧ profL TaskR.power L S = []) := fun c h1 h2 => Lib.hid (by unfold profL; rw [h1]; exact ⟨if_neg h2, if_neg h2⟩)
  have HTK : Hid (∀ (w : World), Tasks w.heap.size w a L → Calls Try.prog 25 #[.slice a L.length cap] w fun e w' => e = .returned (.bool (tasksB L)) ∧ Below w.heap.size w w') := Lib.hid fun w h => tasks_any a L cap w hl h
  cases ht : tasksB L
  · have HT := Lib.hid ht
    have HE : Hid (profE L S = 1) := Lib.hid (by unfold profE; rw [ht]; rfl)
    have HP := bad _ HE.out (by decide)
    clear ht bad
    go_enter Try.func9, Try.ntmps9
    go_wp2_with (go_at_call 25; (with_reducible refine (HTK.out _ HL.out).mono ?_); rintro e w1 ⟨rfl, hb1⟩; rw [HT.out])
    go_ret3
    rw [HE.out, HP.out.1, HP.out.2]
    exact Lib.hid ⟨_, _, rfl, World.ownsRow_nil _ _ _ _, World.ownsRow_nil _ _ _ _, hb1⟩
  · obtain ⟨h60, hok⟩ := tasks_ok ht
    have HT := Lib.hid ht
    by_cases hn : S.length = L.length
    · have q1 : ((S.length : Int) != (L.length : Int)) = false := by rw [bne_eq_false_iff_eq]; omega
      cases hs : S.any startBad
      · have HE : Hid (profE L S = 0) := Lib.hid (by unfold profE; rw [ht, if_pos rfl, if_pos hn, hs]; rfl)
        have HP1 : Hid (profL TaskR.crew L S = stepsP (usesTo TaskR.crew L S L.length)) := Lib.hid (by unfold profL; rw [if_pos HE.out])
        have HP2 : Hid (profL TaskR.power L S = stepsP (usesTo TaskR.power L S L.length)) := Lib.hid (by unfold profL; rw [if_pos HE.out])
        have HAN : Hid (num_any S startBad = false) := Lib.hid (by rw [num_any_eq]; exact hs)
        have HSO := Lib.hid (starts_ok hs)
        have HOK := Lib.hid hok
        have HSL := Lib.hid hn
        have HU1 : Hid (UseB (usesTo TaskR.crew L S L.length)) := Lib.hid fun k hk => by
          rw [usesTo_len] at hk
          rw [usesTo_at _ _ _ _ _ hk]
          have := hok k hk
          show _ ≤ (tg L k).crew ∧ (tg L k).crew ≤ _
          omega
        have HU2 : Hid (UseB (usesTo TaskR.power L S L.length)) := Lib.hid fun k hk => by
          rw [usesTo_len] at hk
          rw [usesTo_at _ _ _ _ _ hk]
          have := hok k hk
          show _ ≤ (tg L k).power ∧ (tg L k).power ≤ _
          omega
        have HLC : Hid ((∀ k, k ≤ L.length → (usesTo TaskR.crew L S k).length ≤ 1000000) ∧ ∀ k, k ≤ L.length → (usesTo TaskR.power L S k).length ≤ 1000000) := Lib.hid ⟨fun k hk => by rw [usesTo_len]; omega, fun k hk => by rw [usesTo_len]; omega⟩
        clear ht bad hs hok hn
        go_enter Try.func9, Try.ntmps9
        go_wp2_with (first
          | (go_at_call 25; (with_reducible refine (HTK.out _ HL.out).mono ?_); rintro e w1 ⟨rfl, hb1⟩; rw [HT.out])
          | (go_at_call 26; (with_reducible refine (num_containsFunc _ S _ _ _ _ startBad _ ent_startBad (by omega) (Nat.le_refl _) (HS.out.grow hb1) (asks_startBad _ _)).mono ?_); rintro e w2 ⟨rfl, hb2⟩; rw [HAN.out]; have hB2 := hb1.trans (hb2.mono hb1.size); clear hb2 hb1))
        have hbs2 := hB2.size
        go_loopw [7, 8, 26] (fun v u i wr => ∃ k : Nat, k ≤ L.length ∧ i = .int .i64 k ∧ Below w2.heap.size w2 wr ∧ Hid (wr.ownsRow w2.heap.size 60 3 v (usesTo TaskR.crew L S k).length (ugflat (usesTo TaskR.crew L S k)) ∧ wr.ownsRow w2.heap.size 60 3 u (usesTo TaskR.power L S k).length (ugflat (usesTo TaskR.power L S k)) ∧ Apart v u)) (fun _ _ i _ => L.length - (intOf i).toNat)
        case atStart => exact ⟨0, Nat.zero_le _, rfl, Below.refl _ _, Lib.hid ⟨World.ownsRow_nil _ _ _ _, World.ownsRow_nil _ _ _ _, .inl rfl⟩⟩
        case round =>
          obtain ⟨k, hk, rfl, hC, HR⟩ := hrel
          have hcs := hC.size
          have hE : Below w.heap.size w wr := hB2.trans (hC.mono hbs2)
          have hes := hE.size
          by_cases hlt : k < L.length
          · have hls2 : k < S.length := by have := HSL.out; omega
            obtain ⟨b, off, rfl, hb, hc⟩ := HL.out (by omega)
            obtain ⟨sb, so, rfl, hsb, hsc⟩ := HS.out (by omega)
            have hbw : b < wr.heap.size := by omega
            have hsw : sb < wr.heap.size := by omega
            have K0 := (hE.cell (p := ⟨sb, so + k, none⟩) hsb).trans (hsc k hls2)
            obtain ⟨c0, c1, c2, c3, c4⟩ := hc k hlt
            have d0 := (hE.cell (p := ⟨b, off + k * 5, none⟩) hb).trans c0
            have d1 := (hE.cell (p := ⟨b, off + k * 5 + 1, none⟩) hb).trans c1
            have d2 := (hE.cell (p := ⟨b, off + k * 5 + 2, none⟩) hb).trans c2
            have d3 := (hE.cell (p := ⟨b, off + k * 5 + 3, none⟩) hb).trans c3
            have d4 := (hE.cell (p := ⟨b, off + k * 5 + 4, none⟩) hb).trans c4
            obtain ⟨⟨l1, l2⟩, ⟨l3, l4⟩, l5, l6⟩ := HOK.out k hlt
            obtain ⟨e1, e2⟩ := HSO.out k hls2
            have s1 : IntKind.i64.wrap (ig S k + (tg L k).length) = ig S k + (tg L k).length := IntWalk.i64_in _ (by omega)
            have HN1 := Lib.hid (usesTo_succ TaskR.crew L S k)
            have HN2 := Lib.hid (usesTo_succ TaskR.power L S k)
            have hl1 := HLC.out.1 k hk
            have hl2 := HLC.out.2 k hk
            have HL1 := Lib.hid hl1
            have HL2 := Lib.hid hl2
            have hsc2 := hsc
            clear hc hsc c0 c1 c2 c3 c4 hl1 hl2
            obtain ⟨Uc, hUc⟩ : ∃ Uc, usesTo TaskR.crew L S k = Uc := ⟨_, rfl⟩
            obtain ⟨Up, hUp⟩ : ∃ Up, usesTo TaskR.power L S k = Up := ⟨_, rfl⟩
            rw [hUc, hUp] at HR
            rw [hUc] at HL1 HN1
            rw [hUp] at HL2 HN2
            have hl1 := HL1.out
            have hl2 := HL2.out
            clear hUc hUp
            obtain ⟨vc, rfl⟩ : ∃ x : Value, x = u7 := ⟨_, rfl⟩
            obtain ⟨vp, rfl⟩ : ∃ x : Value, x = u8 := ⟨_, rfl⟩
            obtain ⟨hr7, hr8, hap⟩ := HR.out
            have hW1 : Below w2.heap.size w2 (wr.alloc (.cells #[.string (tg L k).name, .int .i64 (tg L k).length, .int .i64 (tg L k).crew, .int .i64 (tg L k).power, .slice (tg L k).ba (tg L k).bl (tg L k).bc] 45)) := hC.alloc hcs _
            have HR7 := Lib.hid (hr7.alloc (.cells #[.string (tg L k).name, .int .i64 (tg L k).length, .int .i64 (tg L k).crew, .int .i64 (tg L k).power, .slice (tg L k).ba (tg L k).bl (tg L k).bc] 45))
            have HR8 := Lib.hid (hr8.alloc (.cells #[.string (tg L k).name, .int .i64 (tg L k).length, .int .i64 (tg L k).crew, .int .i64 (tg L k).power, .slice (tg L k).ba (tg L k).bl (tg L k).bc] 45))
            have HAP := Lib.hid hap
            have HNE7 := Lib.hid (own_ne hr7)
            have HNE8 := Lib.hid (own_ne hr8)
            have x1 : (wr.alloc (.cells #[.string (tg L k).name, .int .i64 (tg L k).length, .int .i64 (tg L k).crew, .int .i64 (tg L k).power, .slice (tg L k).ba (tg L k).bl (tg L k).bc] 45)).cell? ⟨wr.heap.size, 1, none⟩ = some (.int .i64 (tg L k).length) := by simp
            have x2 : (wr.alloc (.cells #[.string (tg L k).name, .int .i64 (tg L k).length, .int .i64 (tg L k).crew, .int .i64 (tg L k).power, .slice (tg L k).ba (tg L k).bl (tg L k).bc] 45)).cell? ⟨wr.heap.size, 2, none⟩ = some (.int .i64 (tg L k).crew) := by simp
            have x3 : (wr.alloc (.cells #[.string (tg L k).name, .int .i64 (tg L k).length, .int .i64 (tg L k).crew, .int .i64 (tg L k).power, .slice (tg L k).ba (tg L k).bl (tg L k).bc] 45)).cell? ⟨wr.heap.size, 3, none⟩ = some (.int .i64 (tg L k).power) := by simp
            have K1 : ∀ wx, Below w2.heap.size w2 wx → wx.cell? ⟨sb, so + k, none⟩ = some (.int .i64 (ig S k)) := fun wx h => ((hB2.trans (h.mono hbs2)).cell (p := ⟨sb, so + k, none⟩) hsb).trans (hsc2 k hls2)
            go_upto_region 11 with (fail)
            have hws : wr.heap.size < (wr.alloc (.cells #[.string (tg L k).name, .int .i64 (tg L k).length, .int .i64 (tg L k).crew, .int .i64 (tg L k).power, .slice (tg L k).ba (tg L k).bl (tg L k).bc] 45)).heap.size := by simp
            clear hr7 hr8 hap HR d0 d1 d2 d3 d4 K0 hE hes
            have hs1 := hW1.size
            clear hsc2
            generalize wr.alloc (.cells #[.string (tg L k).name, .int .i64 (tg L k).length, .int .i64 (tg L k).crew, .int .i64 (tg L k).power, .slice (tg L k).ba (tg L k).bl (tg L k).bc] 45) = W1 at *
            generalize wr.heap.size = Bx at *
            generalize (tg L k).length = x at *
            generalize (tg L k).crew = y at *
            generalize (tg L k).power = z at *
            generalize ig S k = q at *
            go_cut [7] (fun v wx => Hid (wx.ownsRow w2.heap.size 60 3 v (Uc ++ [(q, q + x, y)]).length (ugflat (Uc ++ [(q, q + x, y)])) ∧ wx.ownsRow w2.heap.size 60 3 vp Up.length (ugflat Up) ∧ Apart v vp) ∧ Below w2.heap.size w2 wx ∧ wx.cell? ⟨Bx, 1, none⟩ = some (.int .i64 x) ∧ wx.cell? ⟨Bx, 3, none⟩ = some (.int .i64 z))
            case first =>
              go_region_law (refine step_append_lies _ rfl (.tmp 31) (.tmp 46) 58 rfl w2.heap.size 60 i0 (.agg #[.int .i64 0, .int .i64 0, .int .i64 0]) 3 24 Try.underlying58 hi hz0 hz1 hz2 rfl (by decide) vc Uc.length (ugflat Uc) ?_ ?_ ⟨W1.heap.size, 0, none⟩ 1 1 [.int .i64 q, .int .i64 (q + x), .int .i64 y] ?_ rfl ?_ ?_ ?_ ?_ ?_ ?_ _ rfl ?_; (next => simp [Act.eval]); (next => exact (HR7.out.alloc _).drew); (next => simp [Act.eval]); (next => first | exact cell_three_drew _ _ _ _ _ | (rw [s1]; exact cell_three_drew _ _ _ _ _)); (next => simp [Value.oneCell']); (next => omega); (next => unfold maxLen; omega); (next => omega); (next => simp; omega); intro g5 cap5 w5 hown5 hgrow5 hin5 hg5)
              all_goals
                obtain ⟨hps, hcl⟩ := prof_step ((HR7.out.alloc _).drew) ((HR8.out.alloc _).drew) HAP.out hown5 hgrow5 hin5 HNE7.out
                have hB5 : Below w2.heap.size w2 w5 := (hW1.alloc hs1 _).drew.grown hgrow5 (by simp; omega) (fun k e => (HR7.out.lt k e).1)
                have y1 := hcl ⟨Bx, 1, none⟩ _ rfl (by simpa using (World.cell?_alloc_lt _ _ _ hws).trans x1)
                have y3 := hcl ⟨Bx, 3, none⟩ _ rfl (by simpa using (World.cell?_alloc_lt _ _ _ hws).trans x3)
                go_wp2_with fail
                go_meet
                exact ⟨Lib.hid hps, hB5, y1, y3⟩
            case rest =>
              obtain ⟨HRx, hW1, x1, x3⟩ := hcut
              obtain ⟨v9, rfl⟩ : ∃ x : Value, x = u7 := ⟨_, rfl⟩
              obtain ⟨W3, rfl⟩ : ∃ x : World, x = wc := ⟨_, rfl⟩
              obtain ⟨hr7, hr8, hap⟩ := HRx.out
              clear HRx x2
              have HR7 := Lib.hid hr7
              have HR8 := Lib.hid hr8
              have HAP := Lib.hid hap.symm
              have hws : Bx < W3.heap.size := World.block_lt_of_cell? _ _ x1
              have hs1 := hW1.size
              clear hr7 hr8 hap
              go_upto_region 12 with (fail)
              go_region_law (refine step_append_lies _ rfl (.tmp 48) (.tmp 63) 58 rfl w2.heap.size 60 i0 (.agg #[.int .i64 0, .int .i64 0, .int .i64 0]) 3 24 Try.underlying58 hi hz0 hz1 hz2 rfl (by decide) vp Up.length (ugflat Up) ?_ ?_ ⟨W3.heap.size, 0, none⟩ 1 1 [.int .i64 q, .int .i64 (q + x), .int .i64 z] ?_ rfl ?_ ?_ ?_ ?_ ?_ ?_ _ rfl ?_; (next => simp [Act.eval]); (next => exact (HR8.out.alloc _).drew); (next => simp [Act.eval]); (next => first | exact cell_three_drew _ _ _ _ _ | (rw [s1]; exact cell_three_drew _ _ _ _ _)); (next => simp [Value.oneCell']); (next => omega); (next => unfold maxLen; omega); (next => omega); (next => simp; omega); intro g5 cap5 w5 hown5 hgrow5 hin5 hg5)
              all_goals
                obtain ⟨hps, hcl⟩ := prof_step ((HR8.out.alloc _).drew) ((HR7.out.alloc _).drew) HAP.out hown5 hgrow5 hin5 HNE8.out
                have hB5 : Below w2.heap.size w2 w5 := (hW1.alloc hs1 _).drew.grown hgrow5 (by simp; omega) (fun k e => (HR8.out.lt k e).1)
                have HPS := Lib.hid hps
                clear hps hcl hown5 hin5 hg5 hgrow5
                go_wp2_with fail
                go_roundw
                case rel => exact ⟨k + 1, by omega, by go_num, hB5, Lib.hid ⟨by rw [HN1.out]; exact HPS.out.2.1, by rw [HN2.out]; exact HPS.out.1, HPS.out.2.2.symm⟩⟩
                case measure => simp [intOf]; omega
          · obtain rfl : k = L.length := by omega
            have hl1 : (usesTo TaskR.crew L S L.length).length ≤ 1000 := by rw [usesTo_len]; omega
            have hl2 : (usesTo TaskR.power L S L.length).length ≤ 1000 := by rw [usesTo_len]; omega
            generalize usesTo TaskR.crew L S L.length = Uc at *
            generalize usesTo TaskR.power L S L.length = Up at *
            obtain ⟨hr7, hr8, _⟩ := HR.out
            obtain ⟨a7, c7, rfl, _, _, _, hf7⟩ := use_of_row hr7
            obtain ⟨a8, c8, rfl, _, _, _, hf8⟩ := use_of_row hr8
            have HF7 := Lib.hid hf7
            have HF8 := Lib.hid hf8
            clear hr7 hr8 hf7 hf8 HR
            go_wp2_with (first
              | (go_at_call 28; (with_reducible refine (steps_any a7 Uc c7 _ (by omega) HU1.out HF7.out).mono ?_); rintro e w5 hx; obtain ⟨v5, rfl, hr5, hb5⟩ := hx.out; have HR5 := Lib.hid hr5; have HF9 := Lib.hid (HF8.out.grow hb5); have hb5s := hb5.size; clear hx hr5)
              | (go_at_call 28; (with_reducible refine (steps_any a8 Up c8 _ (by omega) HU2.out HF9.out).mono ?_); rintro e w6 hx; obtain ⟨v6, rfl, hr6, hb6⟩ := hx.out; have HR6 := Lib.hid hr6; have HR56 := Lib.hid (ownsRow_below HR5.out hb6); clear hx hr6))
            go_ret3
            rw [HE.out, HP1.out, HP2.out]
            exact Lib.hid ⟨_, _, rfl, ownsRow_base HR56.out hes, ownsRow_base HR6.out (by omega), hE.trans ((hb5.trans (hb6.mono hb5s)).mono hes)⟩
      · have HE : Hid (profE L S = 2) := Lib.hid (by unfold profE; rw [ht, if_pos rfl, if_pos hn, hs]; rfl)
        have HP := bad _ HE.out (by decide)
        have HAN : Hid (num_any S startBad = true) := Lib.hid (by rw [num_any_eq]; exact hs)
        clear ht bad hs hok hn
        go_enter Try.func9, Try.ntmps9
        go_wp2_with (first
          | (go_at_call 25; (with_reducible refine (HTK.out _ HL.out).mono ?_); rintro e w1 ⟨rfl, hb1⟩; rw [HT.out])
          | (go_at_call 26; (with_reducible refine (num_containsFunc _ S _ _ _ _ startBad _ ent_startBad (by omega) (Nat.le_refl _) (HS.out.grow hb1) (asks_startBad _ _)).mono ?_); rintro e w2 ⟨rfl, hb2⟩; rw [HAN.out]; have hB2 := hb1.trans (hb2.mono hb1.size)))
        go_ret3
        rw [HE.out, HP.out.1, HP.out.2]
        exact Lib.hid ⟨_, _, rfl, World.ownsRow_nil _ _ _ _, World.ownsRow_nil _ _ _ _, hB2⟩
    · have q1 : ((S.length : Int) != (L.length : Int)) = true := bne_iff_ne.2 (by omega)
      have HE : Hid (profE L S = 3) := Lib.hid (by unfold profE; rw [ht, if_pos rfl, if_neg hn])
      have HP := bad _ HE.out (by decide)
      clear ht bad hok hn
      go_enter Try.func9, Try.ntmps9
      go_wp2_with (go_at_call 25; (with_reducible refine (HTK.out _ HL.out).mono ?_); rintro e w1 ⟨rfl, hb1⟩; rw [HT.out])
      go_ret3
      rw [HE.out, HP.out.1, HP.out.2]
      exact Lib.hid ⟨_, _, rfl, World.ownsRow_nil _ _ _ _, World.ownsRow_nil _ _ _ _, hb1⟩
end Go.Proofs.Ytlnodjcmdnmnlaa
