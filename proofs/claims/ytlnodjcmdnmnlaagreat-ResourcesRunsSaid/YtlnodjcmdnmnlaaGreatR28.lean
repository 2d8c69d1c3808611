/-
  append of one element to one of two rows of the call's own: where the new row lies.
  THE WALK of Profile (package resources).
  THE WALKS of valid, Within (package resources), Valid, Beyond (reference 42).
  THE WALKS of Within, Peak (package resources), Beyond, Peak (reference 42).
  THE WALK of awake: the chapter's example holds.
  THE WALKS of the laws' own helpers told, work, short.
  PLAIN WORDS: what the steps of uses tell at a time.
  PLAIN: uses that last no time change no steps.
-/
import Derived.RegionTactic
import Derived.IntWalk
import Derived.Outline
import Derived.Deep.DeepCutAuto
import Derived.Test.YtlnodjcmdnmnlaaGreatR27
namespace Go.Proofs.YtlnodjcmdnmnlaaGreat
open Go.RowKit Go.Shelf
def Apart (v u : Value) : Prop := v.ownBlock = none ∨ u.ownBlock = none ∨ v.ownBlock ≠ u.ownBlock
theorem Apart.symm {v u : Value} (h : Apart v u) : Apart u v := by
 rcases h with h | h | h
 ·exact .inr (.inl h)
 ·exact .inl h
 ·exact .inr (.inr fun e => h e.symm)
theorem Apart.kept {v u : Value} (h : Apart v u) : u.ownBlock = none ∨ u.ownBlock ≠ v.ownBlock := by
 rcases h with h | h | h
 ·cases hu : u.ownBlock with
  | none => exact .inl rfl
  | some k => exact .inr (by rw [h]; simp)
 ·exact .inl h
 ·exact .inr fun e => h e.symm
theorem Apart.next {v v' u : Value} {w : World} {base size n : Nat} {e : TypeId} {xs : List Value} (h : Apart v u) (hu : w.ownsRow base e size u n xs) (h' : v'.ownBlock = v.ownBlock ∨ v'.ownBlock = some w.heap.size) : Apart v' u := by
 rcases h' with h' | h'
 ·unfold Apart; rw [h']; exact h
 ·cases hk : u.ownBlock with
  | none => exact .inr (.inl hk)
  | some k => exact .inr (.inr (by rw [h', hk]; intro e; cases e; exact absurd (hu.lt _ hk).2 (Nat.lt_irrefl _)))

end Go.Proofs.YtlnodjcmdnmnlaaGreat
namespace Go.Proofs.YtlnodjcmdnmnlaaGreat
open Go.RowKit Go.Shelf
def startBad (n : Int) : Bool := decide (n < 0) || decide (1000000 < n)
set_option maxHeartbeats 400000 in
theorem asks_startBad (n₀ : Nat) (w : World) : AsksN 30 #[] n₀ w startBad := by
 intro W r hB
 show Calls _ _ #[numV r] _ _
 unfold numV
 have key : ∀ b1 b2 : Bool, decide (r < 0) = b1 → decide (1000000 < r) = b2 → Hid (startBad r = (b1 || b2)) := fun b1 b2 h1 h2 => Lib.hid (by unfold startBad; rw [h1, h2])
 by_cases a1 : r < 0
 ·have H := key _ _ (decide_eq_true a1) rfl
  clear key
  go_enter Tryz.func30, Tryz.ntmps30
  go_wp2
  go_ret
  exact ⟨ret_bool (by rw [H.out]; simp), Below.refl _ _⟩
 ·have H := key _ _ (decide_eq_false a1) rfl
  clear key
  go_enter Tryz.func30, Tryz.ntmps30
  go_wp2
  go_ret
  exact ⟨ret_bool (by rw [H.out]; simp), Below.refl _ _⟩
theorem ent_startBad (args : Array Value) (w : World) : (callFunc 30 args).run Tryz.prog w = .ok (.enter 30 args) w := enters_of Tryz.func30 (by kernel_rfl) rfl args w
def usesTo (f : TaskR → Int) (L : List TaskR) (S : List Int) (k : Nat) : UseL := (List.range k).map fun j => (ig S j, ig S j + (tkg L j).length, f (tkg L j))
theorem usesTo_len (f : TaskR → Int) (L : List TaskR) (S : List Int) (k : Nat) : (usesTo f L S k).length = k := by simp [usesTo]
theorem usesTo_succ (f : TaskR → Int) (L : List TaskR) (S : List Int) (k : Nat) : usesTo f L S (k + 1) = usesTo f L S k ++ [(ig S k, ig S k + (tkg L k).length, f (tkg L k))] := by
 unfold usesTo; rw [List.range_succ, List.map_append]; rfl
theorem usesTo_at (f : TaskR → Int) (L : List TaskR) (S : List Int) (k j : Nat) (h : j < k) : ug (usesTo f L S k) j = (ig S j, ig S j + (tkg L j).length, f (tkg L j)) := by
 unfold ug usesTo
 rw [List.getElem?_map, List.getElem?_range h]
 rfl
def profE (L : List TaskR) (S : List Int) : Int := if tasksB L then (if S.length = L.length then (if S.any startBad then 2 else 0) else 3) else 1
def profL (f : TaskR → Int) (L : List TaskR) (S : List Int) : List (Int × Int) := if profE L S = 0 then stepsP (usesTo f L S L.length) else []
theorem starts_ok {S : List Int} (h : S.any startBad = false) (k : Nat) (hk : k < S.length) : 0 ≤ ig S k ∧ ig S k ≤ 1000000 := by
 have h3 := List.any_eq_false.1 h (ig S k) (by rw [ig_eq S k hk]; exact List.getElem_mem hk)
 unfold startBad at h3
 simp only [Bool.or_eq_true, decide_eq_true_eq, not_or] at h3
 omega
theorem cell_three_new (w : World) (a b c : Value) (t : TypeId) : ∀ j u, [a, b, c][j]? = some u → (w.alloc (.cells #[a, b, c] t)).cell? ((⟨w.heap.size, 0, none⟩ : Addr).add j) = some u := by
 intro j u hj
 rw [Go.WideShapes.add_plain, Nat.zero_add]
 match j, hj with
 | 0, hj => simp at hj; subst hj; simp
 | 1, hj => simp at hj; subst hj; simp
 | 2, hj => simp at hj; subst hj; simp
theorem cell_three_drew (w : World) (a b c : Value) (t : TypeId) : ∀ j u, [a, b, c][j]? = some u → (w.alloc (.cells #[a, b, c] t)).drew.cell? ((⟨w.heap.size, 0, none⟩ : Addr).add j) = some u := fun j u h => cell_three_new w a b c t j u h
theorem prof_step {base B : Nat} {W w5 : World} {vc vp : Value} {Uc Up : UseL} {g cap : Nat} {q r y : Int}
  (_hc : W.ownsRow base 83 3 vc Uc.length (ugflat Uc)) (hp : W.ownsRow base 83 3 vp Up.length (ugflat Up)) (ha : Apart vc vp)
  (h5 : w5.ownsRow base 83 3 (.slice (some ⟨g, 0, none⟩) (Uc.length + 1) cap) (Uc.length + 1) (ugflat Uc ++ [.int .i64 q, .int .i64 r, .int .i64 y])) (hg : W.grownBy w5 vc.ownBlock) (hin : vc.ownBlock = some g ∨ g = W.heap.size) (hB : some B ≠ vc.ownBlock) :
  (w5.ownsRow base 83 3 (.slice (some ⟨g, 0, none⟩) (Uc.length + 1) cap) (Uc ++ [(q, r, y)]).length (ugflat (Uc ++ [(q, r, y)])) ∧ w5.ownsRow base 83 3 vp Up.length (ugflat Up) ∧ Apart (.slice (some ⟨g, 0, none⟩) (Uc.length + 1) cap) vp) ∧
  ∀ (a : Addr) (v : Value), a.block = B → W.cell? a = some v → w5.cell? a = some v := by
 refine ⟨⟨?_, hp.kept hg ha.kept, ?_⟩, fun a v e h => hg.cell h (by rw [e]; exact hB)⟩
 ·rw [ugflat_snoc, List.length_append]; exact h5
 ·refine Apart.next ha hp ?_
  rcases hin with e | e
  ·exact .inl e.symm
  ·exact .inr (by rw [e]; rfl)
theorem own_ne {w : World} {base size n : Nat} {e : TypeId} {v : Value} {xs : List Value} (h : w.ownsRow base e size v n xs) : some w.heap.size ≠ v.ownBlock := fun e => absurd (h.lt _ e.symm).2 (Nat.lt_irrefl _)
set_option maxRecDepth 100000 in
set_option maxHeartbeats 16000000 in
theorem profile_any (a sa : Option Addr) (L : List TaskR) (S : List Int) (cap sc : Nat) (w : World) (hl : L.length ≤ 1000) (hls : S.length ≤ 1000) (hL : Tasks w.heap.size w a L) (hS : Nums w.heap.size w sa S) :
  Calls Tryz.prog 15 #[.slice a L.length cap, .slice sa S.length sc] w fun e w' => Hid (∃ v u, e = .returned (.tuple #[v, u, .int .i64 (profE L S)]) ∧ w'.ownsRow w.heap.size 41 2 v (profL TaskR.crew L S).length (oflat (profL TaskR.crew L S)) ∧ w'.ownsRow w.heap.size 41 2 u (profL TaskR.power L S).length (oflat (profL TaskR.power L S)) ∧ Below w.heap.size w w') := by
 have HL := Lib.hid hL
 have HS := Lib.hid hS
 clear hL hS
 obtain ⟨i0, hi, hz0, hz1, hz2⟩ := info_parts use_info
 have bad : ∀ c, profE L S = c → c ≠ 0 → Hid (profL TaskR.crew L S = [] ∧ profL TaskR.power L S = []) := fun c h1 h2 => Lib.hid (by unfold profL; rw [h1]; exact ⟨if_neg h2, if_neg h2⟩)
 have HTK : Hid (∀ (w : World), Tasks w.heap.size w a L → Calls Tryz.prog 28 #[.slice a L.length cap] w fun e w' => e = .returned (.bool (tasksB L)) ∧ Below w.heap.size w w') := Lib.hid fun w h => tasks_any a L cap w hl h
 cases ht : tasksB L
 ·have HT := Lib.hid ht
  have HE : Hid (profE L S = 1) := Lib.hid (by unfold profE; rw [ht]; rfl)
  have HP := bad _ HE.out (by decide)
  clear ht bad
  go_enter Tryz.func15, Tryz.ntmps15
  go_wp2_with (go_at_call 28; (with_reducible refine (HTK.out _ HL.out).mono ?_); rintro e w1 ⟨rfl, hb1⟩; rw [HT.out])
  go_ret3
  rw [HE.out, HP.out.1, HP.out.2]
  exact Lib.hid ⟨_, _, rfl, World.ownsRow_nil _ _ _ _, World.ownsRow_nil _ _ _ _, hb1⟩
 ·obtain ⟨h60, hok⟩ := tasks_ok ht
  have HT := Lib.hid ht
  by_cases hn : S.length = L.length
  ·have q1 : ((S.length : Int) != (L.length : Int)) = false := by rw [bne_eq_false_iff_eq]; omega
   cases hs : S.any startBad
   ·have HE : Hid (profE L S = 0) := Lib.hid (by unfold profE; rw [ht, if_pos rfl, if_pos hn, hs]; rfl)
    have HP1 : Hid (profL TaskR.crew L S = stepsP (usesTo TaskR.crew L S L.length)) := Lib.hid (by unfold profL; rw [if_pos HE.out])
    have HP2 : Hid (profL TaskR.power L S = stepsP (usesTo TaskR.power L S L.length)) := Lib.hid (by unfold profL; rw [if_pos HE.out])
    have HAN : Hid (num_any S startBad = false) := Lib.hid (by rw [num_any_eq]; exact hs)
    have HSO := Lib.hid (starts_ok hs)
    have HOK := Lib.hid hok
    have HSL := Lib.hid hn
    have HU1 : Hid (UseB (usesTo TaskR.crew L S L.length)) := Lib.hid fun k hk => by
     rw [usesTo_len] at hk
     rw [usesTo_at _ _ _ _ _ hk]
     have := hok k hk
     show _ ≤ (tkg L k).crew ∧ (tkg L k).crew ≤ _
     omega
    have HU2 : Hid (UseB (usesTo TaskR.power L S L.length)) := Lib.hid fun k hk => by
     rw [usesTo_len] at hk
     rw [usesTo_at _ _ _ _ _ hk]
     have := hok k hk
     show _ ≤ (tkg L k).power ∧ (tkg L k).power ≤ _
     omega
    have HLC : Hid ((∀ k, k ≤ L.length → (usesTo TaskR.crew L S k).length ≤ 1000000) ∧ ∀ k, k ≤ L.length → (usesTo TaskR.power L S k).length ≤ 1000000) := Lib.hid ⟨fun k hk => by rw [usesTo_len]; omega, fun k hk => by rw [usesTo_len]; omega⟩
    clear ht bad hs hok hn
    go_enter Tryz.func15, Tryz.ntmps15
    go_wp2_with (first
     | (go_at_call 28; (with_reducible refine (HTK.out _ HL.out).mono ?_); rintro e w1 ⟨rfl, hb1⟩; rw [HT.out])
     | (go_at_call 29; (with_reducible refine (num_containsFunc _ S _ _ _ _ startBad _ ent_startBad (by omega) (Nat.le_refl _) (HS.out.grow hb1) (asks_startBad _ _)).mono ?_); rintro e w2 ⟨rfl, hb2⟩; rw [HAN.out]; have hB2 := hb1.trans (hb2.mono hb1.size); clear hb2 hb1))
    have hbs2 := hB2.size
    go_loopw [7, 8, 26] (fun v u i wr => ∃ k : Nat, k ≤ L.length ∧ i = .int .i64 k ∧ Below w2.heap.size w2 wr ∧ Hid (wr.ownsRow w2.heap.size 83 3 v (usesTo TaskR.crew L S k).length (ugflat (usesTo TaskR.crew L S k)) ∧ wr.ownsRow w2.heap.size 83 3 u (usesTo TaskR.power L S k).length (ugflat (usesTo TaskR.power L S k)) ∧ Apart v u)) (fun _ _ i _ => L.length - (intOf i).toNat)
    case atStart => exact ⟨0, Nat.zero_le _, rfl, Below.refl _ _, Lib.hid ⟨World.ownsRow_nil _ _ _ _, World.ownsRow_nil _ _ _ _, .inl rfl⟩⟩
    case round =>
     obtain ⟨k, hk, rfl, hC, HR⟩ := hrel
     have hcs := hC.size
     have hE : Below w.heap.size w wr := hB2.trans (hC.mono hbs2)
     have hes := hE.size
     by_cases hlt : k < L.length
     ·have hls2 : k < S.length := by have := HSL.out; omega
      obtain ⟨b, off, rfl, hb, hc⟩ := HL.out (by omega)
      obtain ⟨sb, so, rfl, hsb, hsc⟩ := HS.out (by omega)
      have hbw : b < wr.heap.size := by omega
      have hsw : sb < wr.heap.size := by omega
      have K0 := (hE.cell (p := ⟨sb, so + k, none⟩) hsb).trans (hsc k hls2)
      obtain ⟨c0, c1, c2, c3, c4⟩ := hc k hlt
      have d0 := (hE.cell (p := ⟨b, off + k * 5, none⟩) hb).trans c0
      have d1 := (hE.cell (p := ⟨b, off + k * 5 + 1, none⟩) hb).trans c1
      have d2 := (hE.cell (p := ⟨b, off + k * 5 + 2, none⟩) hb).trans c2
      have d3 := (hE.cell (p := ⟨b, off + k * 5 + 3, none⟩) hb).trans c3
      have d4 := (hE.cell (p := ⟨b, off + k * 5 + 4, none⟩) hb).trans c4
      obtain ⟨⟨l1, l2⟩, ⟨l3, l4⟩, l5, l6⟩ := HOK.out k hlt
      obtain ⟨e1, e2⟩ := HSO.out k hls2
      have s1 : IntKind.i64.wrap (ig S k + (tkg L k).length) = ig S k + (tkg L k).length := IntWalk.i64_in _ (by omega)
      have HN1 := Lib.hid (usesTo_succ TaskR.crew L S k)
      have HN2 := Lib.hid (usesTo_succ TaskR.power L S k)
      have hl1 := HLC.out.1 k hk
      have hl2 := HLC.out.2 k hk
      have HL1 := Lib.hid hl1
      have HL2 := Lib.hid hl2
      have hsc2 := hsc
      clear hc hsc c0 c1 c2 c3 c4 hl1 hl2
      obtain ⟨Uc, hUc⟩ : ∃ Uc, usesTo TaskR.crew L S k = Uc := ⟨_, rfl⟩
      obtain ⟨Up, hUp⟩ : ∃ Up, usesTo TaskR.power L S k = Up := ⟨_, rfl⟩
      rw [hUc, hUp] at HR
      rw [hUc] at HL1 HN1
      rw [hUp] at HL2 HN2
      have hl1 := HL1.out
      have hl2 := HL2.out
      clear hUc hUp
      obtain ⟨vc, rfl⟩ : ∃ x : Value, x = u7 := ⟨_, rfl⟩
      obtain ⟨vp, rfl⟩ : ∃ x : Value, x = u8 := ⟨_, rfl⟩
      obtain ⟨hr7, hr8, hap⟩ := HR.out
      have hW1 : Below w2.heap.size w2 (wr.alloc (.cells #[.string (tkg L k).name, .int .i64 (tkg L k).length, .int .i64 (tkg L k).crew, .int .i64 (tkg L k).power, .slice (tkg L k).ba (tkg L k).bl (tkg L k).bc] 54)) := hC.alloc hcs _
      have HR7 := Lib.hid (hr7.alloc (.cells #[.string (tkg L k).name, .int .i64 (tkg L k).length, .int .i64 (tkg L k).crew, .int .i64 (tkg L k).power, .slice (tkg L k).ba (tkg L k).bl (tkg L k).bc] 54))
      have HR8 := Lib.hid (hr8.alloc (.cells #[.string (tkg L k).name, .int .i64 (tkg L k).length, .int .i64 (tkg L k).crew, .int .i64 (tkg L k).power, .slice (tkg L k).ba (tkg L k).bl (tkg L k).bc] 54))
      have HAP := Lib.hid hap
      have HNE7 := Lib.hid (own_ne hr7)
      have HNE8 := Lib.hid (own_ne hr8)
      have x1 : (wr.alloc (.cells #[.string (tkg L k).name, .int .i64 (tkg L k).length, .int .i64 (tkg L k).crew, .int .i64 (tkg L k).power, .slice (tkg L k).ba (tkg L k).bl (tkg L k).bc] 54)).cell? ⟨wr.heap.size, 1, none⟩ = some (.int .i64 (tkg L k).length) := by simp
      have x2 : (wr.alloc (.cells #[.string (tkg L k).name, .int .i64 (tkg L k).length, .int .i64 (tkg L k).crew, .int .i64 (tkg L k).power, .slice (tkg L k).ba (tkg L k).bl (tkg L k).bc] 54)).cell? ⟨wr.heap.size, 2, none⟩ = some (.int .i64 (tkg L k).crew) := by simp
      have x3 : (wr.alloc (.cells #[.string (tkg L k).name, .int .i64 (tkg L k).length, .int .i64 (tkg L k).crew, .int .i64 (tkg L k).power, .slice (tkg L k).ba (tkg L k).bl (tkg L k).bc] 54)).cell? ⟨wr.heap.size, 3, none⟩ = some (.int .i64 (tkg L k).power) := by simp
      have K1 : ∀ wx, Below w2.heap.size w2 wx → wx.cell? ⟨sb, so + k, none⟩ = some (.int .i64 (ig S k)) := fun wx h => ((hB2.trans (h.mono hbs2)).cell (p := ⟨sb, so + k, none⟩) hsb).trans (hsc2 k hls2)
      go_upto_region 11 with (fail)
      have hws : wr.heap.size < (wr.alloc (.cells #[.string (tkg L k).name, .int .i64 (tkg L k).length, .int .i64 (tkg L k).crew, .int .i64 (tkg L k).power, .slice (tkg L k).ba (tkg L k).bl (tkg L k).bc] 54)).heap.size := by simp
      clear hr7 hr8 hap HR d0 d1 d2 d3 d4 K0 hE hes
      have hs1 := hW1.size
      clear hsc2
      generalize wr.alloc (.cells #[.string (tkg L k).name, .int .i64 (tkg L k).length, .int .i64 (tkg L k).crew, .int .i64 (tkg L k).power, .slice (tkg L k).ba (tkg L k).bl (tkg L k).bc] 54) = W1 at *
      generalize wr.heap.size = Bx at *
      generalize (tkg L k).length = x at *
      generalize (tkg L k).crew = y at *
      generalize (tkg L k).power = z at *
      generalize ig S k = q at *
      go_cut [7] (fun v wx => Hid (wx.ownsRow w2.heap.size 83 3 v (Uc ++ [(q, q + x, y)]).length (ugflat (Uc ++ [(q, q + x, y)])) ∧ wx.ownsRow w2.heap.size 83 3 vp Up.length (ugflat Up) ∧ Apart v vp) ∧ Below w2.heap.size w2 wx ∧ wx.cell? ⟨Bx, 1, none⟩ = some (.int .i64 x) ∧ wx.cell? ⟨Bx, 3, none⟩ = some (.int .i64 z))
      case first =>
       go_region_law (refine step_append_lies _ rfl (.tmp 31) (.tmp 46) 81 rfl w2.heap.size 83 i0 (.agg #[.int .i64 0, .int .i64 0, .int .i64 0]) 3 24 Tryz.underlying81 hi hz0 hz1 hz2 rfl (by decide) vc Uc.length (ugflat Uc) ?_ ?_ ⟨W1.heap.size, 0, none⟩ 1 1 [.int .i64 q, .int .i64 (q + x), .int .i64 y] ?_ rfl ?_ ?_ ?_ ?_ ?_ ?_ _ rfl ?_; (next => simp [Act.eval]); (next => exact (HR7.out.alloc _).drew); (next => simp [Act.eval]); (next => first | exact cell_three_drew _ _ _ _ _ | (rw [s1]; exact cell_three_drew _ _ _ _ _)); (next => simp [Value.oneCell']); (next => omega); (next => unfold maxLen; omega); (next => omega); (next => simp; omega); intro g5 cap5 w5 hown5 hgrow5 hin5 hg5)
       all_goals
        obtain ⟨hps, hcl⟩ := prof_step ((HR7.out.alloc _).drew) ((HR8.out.alloc _).drew) HAP.out hown5 hgrow5 hin5 HNE7.out
        have hB5 : Below w2.heap.size w2 w5 := (hW1.alloc hs1 _).drew.grown hgrow5 (by simp; omega) (fun k e => (HR7.out.lt k e).1)
        have y1 := hcl ⟨Bx, 1, none⟩ _ rfl (by simpa using (World.cell?_alloc_lt _ _ _ hws).trans x1)
        have y3 := hcl ⟨Bx, 3, none⟩ _ rfl (by simpa using (World.cell?_alloc_lt _ _ _ hws).trans x3)
        go_wp2_with fail
        go_meet
        exact ⟨Lib.hid hps, hB5, y1, y3⟩
      case rest =>
       obtain ⟨HRx, hW1, x1, x3⟩ := hcut
       obtain ⟨v9, rfl⟩ : ∃ x : Value, x = u7 := ⟨_, rfl⟩
       obtain ⟨W3, rfl⟩ : ∃ x : World, x = wc := ⟨_, rfl⟩
       obtain ⟨hr7, hr8, hap⟩ := HRx.out
       clear HRx x2
       have HR7 := Lib.hid hr7
       have HR8 := Lib.hid hr8
       have HAP := Lib.hid hap.symm
       have hws : Bx < W3.heap.size := World.block_lt_of_cell? _ _ x1
       have hs1 := hW1.size
       clear hr7 hr8 hap
       go_upto_region 12 with (fail)
       go_region_law (refine step_append_lies _ rfl (.tmp 48) (.tmp 63) 81 rfl w2.heap.size 83 i0 (.agg #[.int .i64 0, .int .i64 0, .int .i64 0]) 3 24 Tryz.underlying81 hi hz0 hz1 hz2 rfl (by decide) vp Up.length (ugflat Up) ?_ ?_ ⟨W3.heap.size, 0, none⟩ 1 1 [.int .i64 q, .int .i64 (q + x), .int .i64 z] ?_ rfl ?_ ?_ ?_ ?_ ?_ ?_ _ rfl ?_; (next => simp [Act.eval]); (next => exact (HR8.out.alloc _).drew); (next => simp [Act.eval]); (next => first | exact cell_three_drew _ _ _ _ _ | (rw [s1]; exact cell_three_drew _ _ _ _ _)); (next => simp [Value.oneCell']); (next => omega); (next => unfold maxLen; omega); (next => omega); (next => simp; omega); intro g5 cap5 w5 hown5 hgrow5 hin5 hg5)
       all_goals
        obtain ⟨hps, hcl⟩ := prof_step ((HR8.out.alloc _).drew) ((HR7.out.alloc _).drew) HAP.out hown5 hgrow5 hin5 HNE8.out
        have hB5 : Below w2.heap.size w2 w5 := (hW1.alloc hs1 _).drew.grown hgrow5 (by simp; omega) (fun k e => (HR8.out.lt k e).1)
        have HPS := Lib.hid hps
        clear hps hcl hown5 hin5 hg5 hgrow5
        go_wp2_with fail
        go_roundw
        case rel => exact ⟨k + 1, by omega, by go_num, hB5, Lib.hid ⟨by rw [HN1.out]; exact HPS.out.2.1, by rw [HN2.out]; exact HPS.out.1, HPS.out.2.2.symm⟩⟩
        case measure => simp [intOf]; omega
     ·obtain rfl : k = L.length := by omega
      have hl1 : (usesTo TaskR.crew L S L.length).length ≤ 1000 := by rw [usesTo_len]; omega
      have hl2 : (usesTo TaskR.power L S L.length).length ≤ 1000 := by rw [usesTo_len]; omega
      generalize usesTo TaskR.crew L S L.length = Uc at *
      generalize usesTo TaskR.power L S L.length = Up at *
      obtain ⟨hr7, hr8, _⟩ := HR.out
      obtain ⟨a7, c7, rfl, _, _, _, hf7⟩ := use_of_row hr7
      obtain ⟨a8, c8, rfl, _, _, _, hf8⟩ := use_of_row hr8
      have HF7 := Lib.hid hf7
      have HF8 := Lib.hid hf8
      clear hr7 hr8 hf7 hf8 HR
      go_wp2_with (first
       | (go_at_call 31; (with_reducible refine (steps_any a7 Uc c7 _ (by omega) HU1.out HF7.out).mono ?_); rintro e w5 hx; obtain ⟨v5, rfl, hr5, hb5⟩ := hx.out; have HR5 := Lib.hid hr5; have HF9 := Lib.hid (HF8.out.grow hb5); have hb5s := hb5.size; clear hx hr5)
       | (go_at_call 31; (with_reducible refine (steps_any a8 Up c8 _ (by omega) HU2.out HF9.out).mono ?_); rintro e w6 hx; obtain ⟨v6, rfl, hr6, hb6⟩ := hx.out; have HR6 := Lib.hid hr6; have HR56 := Lib.hid (ownsRow_below HR5.out hb6); clear hx hr6))
      go_ret3
      rw [HE.out, HP1.out, HP2.out]
      exact Lib.hid ⟨_, _, rfl, ownsRow_base HR56.out hes, ownsRow_base HR6.out (by omega), hE.trans ((hb5.trans (hb6.mono hb5s)).mono hes)⟩
   ·have HE : Hid (profE L S = 2) := Lib.hid (by unfold profE; rw [ht, if_pos rfl, if_pos hn, hs]; rfl)
    have HP := bad _ HE.out (by decide)
    have HAN : Hid (num_any S startBad = true) := Lib.hid (by rw [num_any_eq]; exact hs)
    clear ht bad hs hok hn
    go_enter Tryz.func15, Tryz.ntmps15
    go_wp2_with (first
     | (go_at_call 28; (with_reducible refine (HTK.out _ HL.out).mono ?_); rintro e w1 ⟨rfl, hb1⟩; rw [HT.out])
     | (go_at_call 29; (with_reducible refine (num_containsFunc _ S _ _ _ _ startBad _ ent_startBad (by omega) (Nat.le_refl _) (HS.out.grow hb1) (asks_startBad _ _)).mono ?_); rintro e w2 ⟨rfl, hb2⟩; rw [HAN.out]; have hB2 := hb1.trans (hb2.mono hb1.size)))
    go_ret3
    rw [HE.out, HP.out.1, HP.out.2]
    exact Lib.hid ⟨_, _, rfl, World.ownsRow_nil _ _ _ _, World.ownsRow_nil _ _ _ _, hB2⟩
  ·have q1 : ((S.length : Int) != (L.length : Int)) = true := bne_iff_ne.2 (by omega)
   have HE : Hid (profE L S = 3) := Lib.hid (by unfold profE; rw [ht, if_pos rfl, if_neg hn])
   have HP := bad _ HE.out (by decide)
   clear ht bad hok hn
   go_enter Tryz.func15, Tryz.ntmps15
   go_wp2_with (go_at_call 28; (with_reducible refine (HTK.out _ HL.out).mono ?_); rintro e w1 ⟨rfl, hb1⟩; rw [HT.out])
   go_ret3
   rw [HE.out, HP.out.1, HP.out.2]
   exact Lib.hid ⟨_, _, rfl, World.ownsRow_nil _ _ _ _, World.ownsRow_nil _ _ _ _, hb1⟩
end Go.Proofs.YtlnodjcmdnmnlaaGreat
namespace Go.Proofs.YtlnodjcmdnmnlaaGreat
open Go.RowKit Go.Shelf
def stepB (L : List (Int × Int)) (k : Nat) : Bool := decide ((og L k).1 ≤ 1099511627776) && (decide (k = 0) || decide ((og L (k - 1)).1 < (og L k).1)) && decide (0 ≤ (og L k).2) && decide ((og L k).2 ≤ 1099511627776)
def okS (L : List (Int × Int)) : Nat → Bool
 | 0 => true
 | k + 1 => okS L k && stepB L k
def validB (L : List (Int × Int)) : Bool := decide (1 ≤ L.length) && decide (L.length ≤ 10000) && decide ((og L 0).1 = 0) && okS L L.length
theorem okS_false (L : List (Int × Int)) (k n : Nat) (hk : k < n) (h : stepB L k = false) : okS L n = false := by
 induction n with
 | zero => omega
 | succ n ih =>
  simp only [okS]
  rcases Nat.lt_or_ge k n with l | l
  ·rw [ih l]; rfl
  ·obtain rfl : k = n := by omega
   rw [h, Bool.and_false]
theorem okS_at (L : List (Int × Int)) (n : Nat) (h : okS L n = true) (k : Nat) (hk : k < n) : stepB L k = true := by
 cases e : stepB L k
 ·rw [okS_false L k n hk e] at h; cases h
 ·rfl
theorem okS_of (L : List (Int × Int)) (n : Nat) (h : ∀ k, k < n → stepB L k = true) : okS L n = true := by
 induction n with
 | zero => rfl
 | succ n ih => simp only [okS]; rw [ih fun k hk => h k (by omega), h n (by omega)]; rfl
theorem valid_step {L : List (Int × Int)} (h : validB L = true) : 1 ≤ L.length ∧ L.length ≤ 10000 ∧ (og L 0).1 = 0 ∧ ∀ k, k < L.length → (og L k).1 ≤ 1099511627776 ∧ (0 < k → (og L (k - 1)).1 < (og L k).1) ∧ 0 ≤ (og L k).2 ∧ (og L k).2 ≤ 1099511627776 := by
 unfold validB at h
 simp only [Bool.and_eq_true, decide_eq_true_eq] at h
 obtain ⟨⟨⟨h1, h2⟩, h3⟩, h4⟩ := h
 refine ⟨h1, h2, h3, fun k hk => ?_⟩
 have := okS_at L _ h4 k hk
 unfold stepB at this
 simp only [Bool.and_eq_true, Bool.or_eq_true, decide_eq_true_eq] at this
 omega
theorem valid_of {L : List (Int × Int)} (h1 : 1 ≤ L.length) (h2 : L.length ≤ 10000) (h3 : (og L 0).1 = 0) (h : ∀ k, k < L.length → (og L k).1 ≤ 1099511627776 ∧ (0 < k → (og L (k - 1)).1 < (og L k).1) ∧ 0 ≤ (og L k).2 ∧ (og L k).2 ≤ 1099511627776) : validB L = true := by
 unfold validB
 rw [decide_eq_true h1, decide_eq_true h2, decide_eq_true h3, okS_of L _ fun k hk => ?_]
 ·rfl
 ·obtain ⟨a, b, c, d⟩ := h k hk
  unfold stepB
  simp only [Bool.and_eq_true, Bool.or_eq_true, decide_eq_true_eq]
  refine ⟨⟨⟨a, ?_⟩, c⟩, d⟩
  rcases Nat.eq_zero_or_pos k with e | e
  ·exact .inl e
  ·exact .inr (b e)

set_option maxRecDepth 100000 in
set_option maxHeartbeats 16000000 in
theorem valid42_any (a : Option Addr) (L : List (Int × Int)) (cap : Nat) (w : World) (hl : L.length ≤ 1000000) (hL : Loads w.heap.size w a L) :
  Calls Tryz.prog 32 #[.slice a L.length cap] w fun e w' => e = .returned (.bool (validB L)) ∧ Below w.heap.size w w' := by
 have HL := Lib.hid hL; clear hL
 by_cases h1 : 1 ≤ L.length
 ·by_cases h2 : L.length ≤ 10000
  ·obtain ⟨b0, off0, e0, hb0, hc0⟩ := HL.out (by omega)
   have g0 := (hc0 0 (by omega)).1
   have HE0 := Lib.hid e0
   rw [Nat.zero_mul, Nat.add_zero] at g0
   clear hc0 e0
   by_cases h3 : (og L 0).1 = 0
   ·rw [h3] at g0
    have HV : Hid (validB L = okS L L.length) := Lib.hid (by unfold validB; rw [decide_eq_true h1, decide_eq_true h2, decide_eq_true h3]; rfl)
    clear h3
    obtain rfl := HE0.out
    clear HE0
    go_enter Tryz.func32, Tryz.ntmps32
    go_wp2_with fail
    clear g0
    go_loopw [22] (fun i wr => ∃ k : Nat, k ≤ L.length ∧ i = .int .i64 k ∧ Below w.heap.size w wr ∧ Hid (okS L k = true)) (fun i _ => L.length - (intOf i).toNat)
    case atStart => exact ⟨0, Nat.zero_le _, rfl, Below.refl _ _, Lib.hid rfl⟩
    case round =>
     obtain ⟨k, hk, rfl, hB, HO⟩ := hrel
     have hbs := hB.size
     by_cases hlt : k < L.length
     ·obtain ⟨_, _, e, hb, hc⟩ := HL.out (by omega)
      cases e
      have D0 : ∀ j, j < L.length → wr.cell? ⟨b0, off0 + j * 2, none⟩ = some (.int .i64 (og L j).1) := fun j hj => (hB.cell (p := ⟨b0, off0 + j * 2, none⟩) hb).trans (hc j hj).1
      have D1 : ∀ j, j < L.length → wr.cell? ⟨b0, off0 + j * 2 + 1, none⟩ = some (.int .i64 (og L j).2) := fun j hj => (hB.cell (p := ⟨b0, off0 + j * 2 + 1, none⟩) hb).trans (hc j hj).2
      have hbw : b0 < wr.heap.size := Nat.lt_of_lt_of_le hb hbs
      have d0 := D0 k hlt
      have d1 := D1 k hlt
      have d2 := D0 (k - 1) (by omega)
      clear hc D0 D1
      by_cases hA : 1099511627776 < (og L k).1
      ·have HF : Hid (validB L = false) := Lib.hid (by unfold validB; rw [okS_false L k _ hlt (by unfold stepB; rw [decide_eq_false (show ¬ (og L k).1 ≤ 1099511627776 by omega)]; simp), Bool.and_false])
       have z0 : decide (1099511627776 < (og L k).1) = true := decide_eq_true hA
       go_wp2_with fail
       go_quiet (fail)
       clear z0
       go_wp2_with fail
       go_ret
       exact ⟨ret_bool HF.out.symm, below_drewN (hB.alloc hbs _) _⟩
      ·by_cases hk0 : 0 < k
       ·by_cases hQ : (og L k).1 ≤ (og L (k - 1)).1
        ·have HF : Hid (validB L = false) := Lib.hid (by unfold validB; rw [okS_false L k _ hlt (by unfold stepB; rw [decide_eq_false (show ¬ k = 0 by omega), decide_eq_false (show ¬ (og L (k - 1)).1 < (og L k).1 by omega)]; simp), Bool.and_false])
         have z0 : decide (1099511627776 < (og L k).1) = false := decide_eq_false hA
         have z1 : decide ((og L k).1 ≤ (og L (k - 1)).1) = true := decide_eq_true hQ
         have y0 : decide ((0 : Int) < (k : Int)) = true := decide_eq_true (by omega)
         have y1 : decide (0 < k) = true := decide_eq_true (by omega)
         have y2 : IntKind.i64.wrap ((k : Int) - 1) = (k : Int) - 1 := IntWalk.i64_in _ (by omega)
         have y3 : ((k : Int) - 1).toNat = k - 1 := by omega
         have y4 : (0 : Int) ≤ (k : Int) - 1 := by omega
         have y5 : k - 1 < L.length := by omega
         have y6 : (1 : Int) ≤ (k : Int) := by omega
         have y7 : (k : Int) - 1 < (L.length : Int) := by omega
         go_wp2_with fail
         go_quiet (fail)
         clear z0 z1 y0 y1 y2 y3 y4 y5 y6 y7
         go_wp2_with fail
         go_ret
         exact ⟨ret_bool HF.out.symm, below_drewN (hB.alloc hbs _) _⟩
        ·by_cases hN : (og L k).2 < 0
         ·have HF : Hid (validB L = false) := Lib.hid (by unfold validB; rw [okS_false L k _ hlt (by unfold stepB; rw [decide_eq_false (show ¬ 0 ≤ (og L k).2 by omega)]; simp), Bool.and_false])
          have z0 : decide (1099511627776 < (og L k).1) = false := decide_eq_false hA
          have z1 : decide ((og L k).1 ≤ (og L (k - 1)).1) = false := decide_eq_false hQ
          have z2 : decide ((og L k).2 < 0) = true := decide_eq_true hN
          have y0 : decide ((0 : Int) < (k : Int)) = true := decide_eq_true (by omega)
          have y1 : decide (0 < k) = true := decide_eq_true (by omega)
          have y2 : IntKind.i64.wrap ((k : Int) - 1) = (k : Int) - 1 := IntWalk.i64_in _ (by omega)
          have y3 : ((k : Int) - 1).toNat = k - 1 := by omega
          have y4 : (0 : Int) ≤ (k : Int) - 1 := by omega
          have y5 : k - 1 < L.length := by omega
          have y6 : (1 : Int) ≤ (k : Int) := by omega
          have y7 : (k : Int) - 1 < (L.length : Int) := by omega
          go_wp2_with fail
          go_quiet (fail)
          clear z0 z1 z2 y0 y1 y2 y3 y4 y5 y6 y7
          go_wp2_with fail
          go_ret
          exact ⟨ret_bool HF.out.symm, below_drewN (hB.alloc hbs _) _⟩
         ·by_cases hW : 1099511627776 < (og L k).2
          ·have HF : Hid (validB L = false) := Lib.hid (by unfold validB; rw [okS_false L k _ hlt (by unfold stepB; rw [decide_eq_false (show ¬ (og L k).2 ≤ 1099511627776 by omega), Bool.and_false]), Bool.and_false])
           have z0 : decide (1099511627776 < (og L k).1) = false := decide_eq_false hA
           have z1 : decide ((og L k).1 ≤ (og L (k - 1)).1) = false := decide_eq_false hQ
           have z2 : decide ((og L k).2 < 0) = false := decide_eq_false hN
           have z3 : decide (1099511627776 < (og L k).2) = true := decide_eq_true hW
           have y0 : decide ((0 : Int) < (k : Int)) = true := decide_eq_true (by omega)
           have y1 : decide (0 < k) = true := decide_eq_true (by omega)
           have y2 : IntKind.i64.wrap ((k : Int) - 1) = (k : Int) - 1 := IntWalk.i64_in _ (by omega)
           have y3 : ((k : Int) - 1).toNat = k - 1 := by omega
           have y4 : (0 : Int) ≤ (k : Int) - 1 := by omega
           have y5 : k - 1 < L.length := by omega
           have y6 : (1 : Int) ≤ (k : Int) := by omega
           have y7 : (k : Int) - 1 < (L.length : Int) := by omega
           go_wp2_with fail
           go_quiet (fail)
           clear z0 z1 z2 z3 y0 y1 y2 y3 y4 y5 y6 y7
           go_wp2_with fail
           go_ret
           exact ⟨ret_bool HF.out.symm, below_drewN (hB.alloc hbs _) _⟩
          ·have HS : Hid (okS L (k + 1) = true) := Lib.hid (by simp only [okS]; rw [HO.out, Bool.true_and]; unfold stepB; simp only [Bool.and_eq_true, Bool.or_eq_true, decide_eq_true_eq]; omega)
           have z0 : decide (1099511627776 < (og L k).1) = false := decide_eq_false hA
           have z1 : decide ((og L k).1 ≤ (og L (k - 1)).1) = false := decide_eq_false hQ
           have z2 : decide ((og L k).2 < 0) = false := decide_eq_false hN
           have z3 : decide (1099511627776 < (og L k).2) = false := decide_eq_false hW
           have y0 : decide ((0 : Int) < (k : Int)) = true := decide_eq_true (by omega)
           have y1 : decide (0 < k) = true := decide_eq_true (by omega)
           have y2 : IntKind.i64.wrap ((k : Int) - 1) = (k : Int) - 1 := IntWalk.i64_in _ (by omega)
           have y3 : ((k : Int) - 1).toNat = k - 1 := by omega
           have y4 : (0 : Int) ≤ (k : Int) - 1 := by omega
           have y5 : k - 1 < L.length := by omega
           have y6 : (1 : Int) ≤ (k : Int) := by omega
           have y7 : (k : Int) - 1 < (L.length : Int) := by omega
           go_wp2_with fail
           go_quiet (fail)
           clear z0 z1 z2 z3 y0 y1 y2 y3 y4 y5 y6 y7
           go_wp2_with fail
           go_roundw
           case rel => exact ⟨k + 1, by omega, by go_num, below_drewN (hB.alloc hbs _) _, HS⟩
           case measure => simp [intOf]; omega
       ·by_cases hN : (og L k).2 < 0
        ·have HF : Hid (validB L = false) := Lib.hid (by unfold validB; rw [okS_false L k _ hlt (by unfold stepB; rw [decide_eq_false (show ¬ 0 ≤ (og L k).2 by omega)]; simp), Bool.and_false])
         have z0 : decide (1099511627776 < (og L k).1) = false := decide_eq_false hA
         have z1 : decide ((og L k).2 < 0) = true := decide_eq_true hN
         have y0 : decide ((0 : Int) < (k : Int)) = false := decide_eq_false (by omega)
         have y1 : decide (0 < k) = false := decide_eq_false (by omega)
         go_wp2_with fail
         go_quiet (fail)
         clear z0 z1 y0 y1
         go_wp2_with fail
         go_ret
         exact ⟨ret_bool HF.out.symm, below_drewN (hB.alloc hbs _) _⟩
        ·by_cases hW : 1099511627776 < (og L k).2
         ·have HF : Hid (validB L = false) := Lib.hid (by unfold validB; rw [okS_false L k _ hlt (by unfold stepB; rw [decide_eq_false (show ¬ (og L k).2 ≤ 1099511627776 by omega), Bool.and_false]), Bool.and_false])
          have z0 : decide (1099511627776 < (og L k).1) = false := decide_eq_false hA
          have z1 : decide ((og L k).2 < 0) = false := decide_eq_false hN
          have z2 : decide (1099511627776 < (og L k).2) = true := decide_eq_true hW
          have y0 : decide ((0 : Int) < (k : Int)) = false := decide_eq_false (by omega)
          have y1 : decide (0 < k) = false := decide_eq_false (by omega)
          go_wp2_with fail
          go_quiet (fail)
          clear z0 z1 z2 y0 y1
          go_wp2_with fail
          go_ret
          exact ⟨ret_bool HF.out.symm, below_drewN (hB.alloc hbs _) _⟩
         ·have HS : Hid (okS L (k + 1) = true) := Lib.hid (by simp only [okS]; rw [HO.out, Bool.true_and]; unfold stepB; simp only [Bool.and_eq_true, Bool.or_eq_true, decide_eq_true_eq]; omega)
          have z0 : decide (1099511627776 < (og L k).1) = false := decide_eq_false hA
          have z1 : decide ((og L k).2 < 0) = false := decide_eq_false hN
          have z2 : decide (1099511627776 < (og L k).2) = false := decide_eq_false hW
          have y0 : decide ((0 : Int) < (k : Int)) = false := decide_eq_false (by omega)
          have y1 : decide (0 < k) = false := decide_eq_false (by omega)
          go_wp2_with fail
          go_quiet (fail)
          clear z0 z1 z2 y0 y1
          go_wp2_with fail
          go_roundw
          case rel => exact ⟨k + 1, by omega, by go_num, below_drewN (hB.alloc hbs _) _, HS⟩
          case measure => simp [intOf]; omega
     ·obtain rfl : k = L.length := by omega
      go_wp2_with fail
      go_ret
      exact ⟨ret_bool (by rw [HV.out, HO.out]), hB⟩
   ·have HV : Hid (validB L = false) := Lib.hid (by unfold validB; rw [decide_eq_false h3]; simp)
    have z0 : ((og L 0).1 != 0) = true := bne_iff_ne.2 h3
    clear h3
    obtain rfl := HE0.out
    go_enter Tryz.func32, Tryz.ntmps32
    go_wp2_with fail
    go_ret
    exact ⟨ret_bool HV.out.symm, Below.refl _ _⟩
  ·have HV : Hid (validB L = false) := Lib.hid (by unfold validB; rw [decide_eq_false h2]; simp)
   go_enter Tryz.func32, Tryz.ntmps32
   go_wp2_with fail
   go_ret
   exact ⟨ret_bool HV.out.symm, Below.refl _ _⟩
 ·have HV : Hid (validB L = false) := Lib.hid (by unfold validB; rw [decide_eq_false h1]; simp)
  go_enter Tryz.func32, Tryz.ntmps32
  go_wp2_with fail
  go_ret
  exact ⟨ret_bool HV.out.symm, Below.refl _ _⟩

set_option maxRecDepth 100000 in
set_option maxHeartbeats 16000000 in
theorem refvalid_any (a : Option Addr) (L : List (Int × Int)) (cap : Nat) (w : World) (hl : L.length ≤ 1000000) (hL : Loads w.heap.size w a L) :
  Calls Tryz.prog 26 #[.slice a L.length cap] w fun e w' => e = .returned (.bool (validB L)) ∧ Below w.heap.size w w' := by
 have HL := Lib.hid hL; clear hL
 by_cases h1 : 1 ≤ L.length
 ·by_cases h2 : L.length ≤ 10000
  ·obtain ⟨b0, off0, e0, hb0, hc0⟩ := HL.out (by omega)
   have g0 := (hc0 0 (by omega)).1
   have HE0 := Lib.hid e0
   rw [Nat.zero_mul, Nat.add_zero] at g0
   clear hc0 e0
   by_cases h3 : (og L 0).1 = 0
   ·rw [h3] at g0
    have HV : Hid (validB L = okS L L.length) := Lib.hid (by unfold validB; rw [decide_eq_true h1, decide_eq_true h2, decide_eq_true h3]; rfl)
    clear h3
    obtain rfl := HE0.out
    clear HE0
    go_enter Tryz.func26, Tryz.ntmps26
    go_wp2_with fail
    clear g0
    go_loopw [3] (fun i wr => ∃ k : Nat, k ≤ L.length ∧ i = .int .i64 k ∧ Below w.heap.size w wr ∧ Hid (okS L k = true)) (fun i _ => L.length - (intOf i).toNat)
    case atStart => exact ⟨0, Nat.zero_le _, rfl, Below.refl _ _, Lib.hid rfl⟩
    case round =>
     obtain ⟨k, hk, rfl, hB, HO⟩ := hrel
     have hbs := hB.size
     by_cases hlt : k < L.length
     ·obtain ⟨_, _, e, hb, hc⟩ := HL.out (by omega)
      cases e
      have D0 : ∀ j, j < L.length → wr.cell? ⟨b0, off0 + j * 2, none⟩ = some (.int .i64 (og L j).1) := fun j hj => (hB.cell (p := ⟨b0, off0 + j * 2, none⟩) hb).trans (hc j hj).1
      have D1 : ∀ j, j < L.length → wr.cell? ⟨b0, off0 + j * 2 + 1, none⟩ = some (.int .i64 (og L j).2) := fun j hj => (hB.cell (p := ⟨b0, off0 + j * 2 + 1, none⟩) hb).trans (hc j hj).2
      have hbw : b0 < wr.heap.size := Nat.lt_of_lt_of_le hb hbs
      have d0 := D0 k hlt
      have d1 := D1 k hlt
      have d2 := D0 (k - 1) (by omega)
      clear hc D0 D1
      by_cases hA : 1099511627776 < (og L k).1
      ·have HF : Hid (validB L = false) := Lib.hid (by unfold validB; rw [okS_false L k _ hlt (by unfold stepB; rw [decide_eq_false (show ¬ (og L k).1 ≤ 1099511627776 by omega)]; simp), Bool.and_false])
       have z0 : decide (1099511627776 < (og L k).1) = true := decide_eq_true hA
       go_wp2_with fail
       go_quiet (fail)
       clear z0
       go_wp2_with fail
       go_ret
       exact ⟨ret_bool HF.out.symm, below_drewN hB _⟩
      ·by_cases hN : (og L k).2 < 0
       ·have HF : Hid (validB L = false) := Lib.hid (by unfold validB; rw [okS_false L k _ hlt (by unfold stepB; rw [decide_eq_false (show ¬ 0 ≤ (og L k).2 by omega)]; simp), Bool.and_false])
        have z0 : decide (1099511627776 < (og L k).1) = false := decide_eq_false hA
        have z1 : decide ((og L k).2 < 0) = true := decide_eq_true hN
        go_wp2_with fail
        go_quiet (fail)
        clear z0 z1
        go_wp2_with fail
        go_ret
        exact ⟨ret_bool HF.out.symm, below_drewN hB _⟩
       ·by_cases hW : 1099511627776 < (og L k).2
        ·have HF : Hid (validB L = false) := Lib.hid (by unfold validB; rw [okS_false L k _ hlt (by unfold stepB; rw [decide_eq_false (show ¬ (og L k).2 ≤ 1099511627776 by omega), Bool.and_false]), Bool.and_false])
         have z0 : decide (1099511627776 < (og L k).1) = false := decide_eq_false hA
         have z1 : decide ((og L k).2 < 0) = false := decide_eq_false hN
         have z2 : decide (1099511627776 < (og L k).2) = true := decide_eq_true hW
         go_wp2_with fail
         go_quiet (fail)
         clear z0 z1 z2
         go_wp2_with fail
         go_ret
         exact ⟨ret_bool HF.out.symm, below_drewN hB _⟩
        ·by_cases hk0 : 0 < k
         ·by_cases hQ : (og L k).1 ≤ (og L (k - 1)).1
          ·have HF : Hid (validB L = false) := Lib.hid (by unfold validB; rw [okS_false L k _ hlt (by unfold stepB; rw [decide_eq_false (show ¬ k = 0 by omega), decide_eq_false (show ¬ (og L (k - 1)).1 < (og L k).1 by omega)]; simp), Bool.and_false])
           have z0 : decide (1099511627776 < (og L k).1) = false := decide_eq_false hA
           have z1 : decide ((og L k).2 < 0) = false := decide_eq_false hN
           have z2 : decide (1099511627776 < (og L k).2) = false := decide_eq_false hW
           have z3 : decide ((og L k).1 ≤ (og L (k - 1)).1) = true := decide_eq_true hQ
           have y0 : decide ((0 : Int) < (k : Int)) = true := decide_eq_true (by omega)
           have y1 : decide (0 < k) = true := decide_eq_true (by omega)
           have y2 : IntKind.i64.wrap ((k : Int) - 1) = (k : Int) - 1 := IntWalk.i64_in _ (by omega)
           have y3 : ((k : Int) - 1).toNat = k - 1 := by omega
           have y4 : (0 : Int) ≤ (k : Int) - 1 := by omega
           have y5 : k - 1 < L.length := by omega
           have y6 : (1 : Int) ≤ (k : Int) := by omega
           have y7 : (k : Int) - 1 < (L.length : Int) := by omega
           go_wp2_with fail
           go_quiet (fail)
           clear z0 z1 z2 z3 y0 y1 y2 y3 y4 y5 y6 y7
           go_wp2_with fail
           go_ret
           exact ⟨ret_bool HF.out.symm, below_drewN hB _⟩
          ·have HS : Hid (okS L (k + 1) = true) := Lib.hid (by simp only [okS]; rw [HO.out, Bool.true_and]; unfold stepB; simp only [Bool.and_eq_true, Bool.or_eq_true, decide_eq_true_eq]; omega)
           have z0 : decide (1099511627776 < (og L k).1) = false := decide_eq_false hA
           have z1 : decide ((og L k).2 < 0) = false := decide_eq_false hN
           have z2 : decide (1099511627776 < (og L k).2) = false := decide_eq_false hW
           have z3 : decide ((og L k).1 ≤ (og L (k - 1)).1) = false := decide_eq_false hQ
           have y0 : decide ((0 : Int) < (k : Int)) = true := decide_eq_true (by omega)
           have y1 : decide (0 < k) = true := decide_eq_true (by omega)
           have y2 : IntKind.i64.wrap ((k : Int) - 1) = (k : Int) - 1 := IntWalk.i64_in _ (by omega)
           have y3 : ((k : Int) - 1).toNat = k - 1 := by omega
           have y4 : (0 : Int) ≤ (k : Int) - 1 := by omega
           have y5 : k - 1 < L.length := by omega
           have y6 : (1 : Int) ≤ (k : Int) := by omega
           have y7 : (k : Int) - 1 < (L.length : Int) := by omega
           go_wp2_with fail
           go_quiet (fail)
           clear z0 z1 z2 z3 y0 y1 y2 y3 y4 y5 y6 y7
           go_wp2_with fail
           go_roundw
           case rel => exact ⟨k + 1, by omega, by go_num, below_drewN hB _, HS⟩
           case measure => simp [intOf]; omega
         ·have HS : Hid (okS L (k + 1) = true) := Lib.hid (by simp only [okS]; rw [HO.out, Bool.true_and]; unfold stepB; simp only [Bool.and_eq_true, Bool.or_eq_true, decide_eq_true_eq]; omega)
          have z0 : decide (1099511627776 < (og L k).1) = false := decide_eq_false hA
          have z1 : decide ((og L k).2 < 0) = false := decide_eq_false hN
          have z2 : decide (1099511627776 < (og L k).2) = false := decide_eq_false hW
          have y0 : decide ((0 : Int) < (k : Int)) = false := decide_eq_false (by omega)
          have y1 : decide (0 < k) = false := decide_eq_false (by omega)
          go_wp2_with fail
          go_quiet (fail)
          clear z0 z1 z2 y0 y1
          go_wp2_with fail
          go_roundw
          case rel => exact ⟨k + 1, by omega, by go_num, below_drewN hB _, HS⟩
          case measure => simp [intOf]; omega
     ·obtain rfl : k = L.length := by omega
      go_wp2_with fail
      go_ret
      exact ⟨ret_bool (by rw [HV.out, HO.out]), hB⟩
   ·have HV : Hid (validB L = false) := Lib.hid (by unfold validB; rw [decide_eq_false h3]; simp)
    have z0 : ((og L 0).1 != 0) = true := bne_iff_ne.2 h3
    clear h3
    obtain rfl := HE0.out
    go_enter Tryz.func26, Tryz.ntmps26
    go_wp2_with fail
    go_ret
    exact ⟨ret_bool HV.out.symm, Below.refl _ _⟩
  ·have HV : Hid (validB L = false) := Lib.hid (by unfold validB; rw [decide_eq_false h2]; simp)
   go_enter Tryz.func26, Tryz.ntmps26
   go_wp2_with fail
   go_ret
   exact ⟨ret_bool HV.out.symm, Below.refl _ _⟩
 ·have HV : Hid (validB L = false) := Lib.hid (by unfold validB; rw [decide_eq_false h1]; simp)
  go_enter Tryz.func26, Tryz.ntmps26
  go_wp2_with fail
  go_ret
  exact ⟨ret_bool HV.out.symm, Below.refl _ _⟩
end Go.Proofs.YtlnodjcmdnmnlaaGreat
namespace Go.Proofs.YtlnodjcmdnmnlaaGreat
open Go.RowKit Go.Shelf
def peakI (L : List (Int × Int)) : Nat → Nat
 | 0 => 0
 | k + 1 => if (og L (peakI L k)).2 < (og L k).2 then k else peakI L k
theorem peakI_lt (L : List (Int × Int)) (k : Nat) (h : 0 < L.length) (hk : k ≤ L.length) : peakI L k < L.length := by
 induction k with
 | zero => exact h
 | succ k ih =>
  simp only [peakI]
  split
  ·omega
  ·exact ih (by omega)
def peakP (L : List (Int × Int)) : Int × Int × Int := if validB L then ((og L (peakI L L.length)).2, (og L (peakI L L.length)).1, 0) else (0, 0, 1)

set_option maxRecDepth 100000 in
set_option maxHeartbeats 8000000 in
theorem peak_any (a : Option Addr) (L : List (Int × Int)) (cap : Nat) (w : World) (hl : L.length ≤ 1000000) (hL : Loads w.heap.size w a L) :
  Calls Tryz.prog 16 #[.slice a L.length cap] w fun e w' => e = .returned (.tuple #[.int .i64 (peakP L).1, .int .i64 (peakP L).2.1, .int .i64 (peakP L).2.2]) ∧ Below w.heap.size w w' := by
 have HL := Lib.hid hL; clear hL
 cases hv : validB L
 ·have HV := Lib.hid hv
  have HW : Hid (peakP L = (0, 0, 1)) := Lib.hid (by unfold peakP; rw [hv]; rfl)
  clear hv
  rw [HW.out]
  go_enter Tryz.func16, Tryz.ntmps16
  go_wp2_with (go_at_call 32; (with_reducible refine (valid42_any _ L _ _ (by omega) HL.out).mono ?_); rintro e w1 ⟨rfl, hb1⟩; rw [HV.out])
  go_ret3
  exact ⟨rfl, hb1⟩
 ·have HV := Lib.hid hv
  have h0 := (valid_step hv).1
  have HW : Hid (peakP L = ((og L (peakI L L.length)).2, (og L (peakI L L.length)).1, 0)) := Lib.hid (by unfold peakP; rw [hv]; rfl)
  clear hv
  obtain ⟨b, off, rfl, hb, hc⟩ := HL.out (by omega)
  have HC := Lib.hid hc
  have HZ : Hid (∀ wr, Below w.heap.size w wr → wr.cell? ⟨b, off, none⟩ = some (.int .i64 (og L 0).1) ∧ wr.cell? ⟨b, off + 1, none⟩ = some (.int .i64 (og L 0).2)) := Lib.hid fun wr h => ⟨(h.cell (p := ⟨b, off, none⟩) hb).trans (by have := (hc 0 (by omega)).1; simpa using this), (h.cell (p := ⟨b, off + 1, none⟩) hb).trans (by have := (hc 0 (by omega)).2; simpa using this)⟩
  clear hc
  go_enter Tryz.func16, Tryz.ntmps16
  go_wp2_with (go_at_call 32; (with_reducible refine (valid42_any _ L _ _ (by omega) HL.out).mono ?_); rintro e w1 ⟨rfl, hb1⟩; rw [HV.out]; have hbs1 := hb1.size; obtain ⟨z0, z1⟩ := HZ.out _ hb1)
  have hb2 : Below w.heap.size w (w1.alloc (.cells #[.int .i64 (og L 0).1, .int .i64 (og L 0).2] 41)) := hb1.alloc hbs1 _
  have b0 : (w1.alloc (.cells #[.int .i64 (og L 0).1, .int .i64 (og L 0).2] 41)).cell? ⟨w1.heap.size, 0, none⟩ = some (.int .i64 (og L 0).1) := by simp
  have b1 : (w1.alloc (.cells #[.int .i64 (og L 0).1, .int .i64 (og L 0).2] 41)).cell? ⟨w1.heap.size, 1, none⟩ = some (.int .i64 (og L 0).2) := by simp
  have f0 : (w1.alloc (.cells #[.int .i64 (og L 0).1, .int .i64 (og L 0).2] 41)).frozen? ⟨w1.heap.size, 0, none⟩ = false := by simp
  have f1 : (w1.alloc (.cells #[.int .i64 (og L 0).1, .int .i64 (og L 0).2] 41)).frozen? ⟨w1.heap.size, 1, none⟩ = false := by simp
  generalize w1.alloc (.cells #[.int .i64 (og L 0).1, .int .i64 (og L 0).2] 41) = w2 at *
  go_loopw [16] (fun i wr => ∃ k : Nat, k ≤ L.length ∧ i = .int .i64 k ∧ Below w.heap.size w wr ∧ wr.cell? ⟨w1.heap.size, 0, none⟩ = some (.int .i64 (og L (peakI L k)).1) ∧ wr.cell? ⟨w1.heap.size, 1, none⟩ = some (.int .i64 (og L (peakI L k)).2) ∧ wr.frozen? ⟨w1.heap.size, 0, none⟩ = false ∧ wr.frozen? ⟨w1.heap.size, 1, none⟩ = false) (fun i _ => L.length - (intOf i).toNat)
  case atStart => exact ⟨0, Nat.zero_le _, rfl, hb2, b0, b1, f0, f1⟩
  case round =>
   clear hb2 b0 b1 f0 f1 z0 z1
   obtain ⟨k, hk, rfl, hB, b0, b1, f0, f1⟩ := hrel
   have hbs := hB.size
   have hpl := peakI_lt L k (by omega) hk
   have hwz : w1.heap.size < wr.heap.size := World.block_lt_of_cell? _ _ b0
   by_cases hlt : k < L.length
   ·have c0 := (hB.cell (p := ⟨b, off + k * 2, none⟩) hb).trans (HC.out k hlt).1
    have c1 := (hB.cell (p := ⟨b, off + k * 2 + 1, none⟩) hb).trans (HC.out k hlt).2
    have HS : Hid (peakI L (k + 1) = if (og L (peakI L k)).2 < (og L k).2 then k else peakI L k) := Lib.hid rfl
    generalize peakI L k = p at *
    by_cases q : (og L p).2 < (og L k).2
    ·have HS2 : Hid (peakI L (k + 1) = k) := Lib.hid (by rw [HS.out, if_pos q])
     go_wp2_with fail
     go_roundw
     case rel =>
      have s0 := World.cell?_setCell_same wr ⟨w1.heap.size, 0, none⟩ (.int .i64 (og L k).1) b0
      have s1 : (wr.setCell ⟨w1.heap.size, 0, none⟩ (.int .i64 (og L k).1)).cell? ⟨w1.heap.size, 1, none⟩ = some (.int .i64 (og L p).2) := (World.cell?_setCell_other _ _ _ _ (fun x => absurd (congrArg Addr.off x) (by simp))).trans b1
      have s2 : ((wr.setCell ⟨w1.heap.size, 0, none⟩ (.int .i64 (og L k).1)).setCell ⟨w1.heap.size, 1, none⟩ (.int .i64 (og L k).2)).cell? ⟨w1.heap.size, 0, none⟩ = some (.int .i64 (og L k).1) := (World.cell?_setCell_other _ _ _ _ (fun x => absurd (congrArg Addr.off x) (by simp))).trans s0
      have s3 := World.cell?_setCell_same _ ⟨w1.heap.size, 1, none⟩ (.int .i64 (og L k).2) s1
      have hws : w1.heap.size < ((wr.setCell ⟨w1.heap.size, 0, none⟩ (.int .i64 (og L k).1)).setCell ⟨w1.heap.size, 1, none⟩ (.int .i64 (og L k).2)).heap.size := by simp; omega
      exact ⟨k + 1, by omega, by go_num, ((hB.setCell (p := ⟨w1.heap.size, 0, none⟩) hbs1 _).setCell (p := ⟨w1.heap.size, 1, none⟩) hbs1 _).alloc (by simp; omega) _, by rw [HS2.out]; exact (World.cell?_alloc_lt _ _ _ hws).trans s2, by rw [HS2.out]; exact (World.cell?_alloc_lt _ _ _ hws).trans s3, ((below_new _ _).frozen (p := ⟨w1.heap.size, 0, none⟩) hws).trans (by simpa using f0), ((below_new _ _).frozen (p := ⟨w1.heap.size, 1, none⟩) hws).trans (by simpa using f1)⟩
     case measure => simp [intOf]; omega
    ·have HS2 : Hid (peakI L (k + 1) = p) := Lib.hid (by rw [HS.out, if_neg q])
     go_wp2_with fail
     go_roundw
     case rel => exact ⟨k + 1, by omega, by go_num, hB.alloc hbs _, by rw [HS2.out]; exact (World.cell?_alloc_lt _ _ _ hwz).trans b0, by rw [HS2.out]; exact (World.cell?_alloc_lt _ _ _ hwz).trans b1, ((below_new _ _).frozen (p := ⟨w1.heap.size, 0, none⟩) hwz).trans f0, ((below_new _ _).frozen (p := ⟨w1.heap.size, 1, none⟩) hwz).trans f1⟩
     case measure => simp [intOf]; omega
   ·obtain rfl : k = L.length := by omega
    go_wp2_with fail
    go_quiet (fail)
    go_wp2_with fail
    go_ret3
    rw [HW.out]
    exact ⟨rfl, below_drewN hB _⟩
end Go.Proofs.YtlnodjcmdnmnlaaGreat
namespace Go.Proofs.YtlnodjcmdnmnlaaGreat
open Go.RowKit Go.Shelf
def T42 : List TaskR := [⟨⟨#[]⟩, 4, 2, 0, none, 0, 0⟩, ⟨⟨#[]⟩, 3, 1, 0, none, 0, 0⟩]
def O42 : List (Int × Int) := [(0, 2), (2, 3), (4, 1), (5, 0)]
theorem profE42 : profE T42 [0, 2] = 0 := by decide +kernel
theorem lt_ext : ∀ l1 l2 : List Int, l1.Pairwise (· < ·) → l2.Pairwise (· < ·) → (∀ x, x ∈ l1 ↔ x ∈ l2) → l1 = l2
 | [], [], _, _, _ => rfl
 | [], y :: s, _, _, h => absurd ((h y).2 List.mem_cons_self) (by simp)
 | x :: r, [], _, _, h => absurd ((h x).1 List.mem_cons_self) (by simp)
 | x :: r, y :: s, h1, h2, h => by
  rw [List.pairwise_cons] at h1 h2
  have e : x = y := by
   rcases List.mem_cons.1 ((h x).1 List.mem_cons_self) with e | e
   ·exact e
   ·rcases List.mem_cons.1 ((h y).2 List.mem_cons_self) with e2 | e2
    ·exact e2.symm
    ·have a := h2.1 x e
     have b := h1.1 y e2
     omega
  subst e
  rw [lt_ext r s h1.2 h2.2 fun z => ?_]
  constructor
  ·intro hz
   rcases List.mem_cons.1 ((h z).1 (List.mem_cons_of_mem _ hz)) with e | e
   ·have := h1.1 z hz; omega
   ·exact e
  ·intro hz
   rcases List.mem_cons.1 ((h z).2 (List.mem_cons_of_mem _ hz)) with e | e
   ·have := h2.1 z hz; omega
   ·exact e
theorem times_eq {U : UseL} {T : List Int} (hs : T.Pairwise (· < ·)) (hm : ∀ x, x ∈ T ↔ x ∈ endsTo U U.length) : timesP U = T :=
 lt_ext _ _ (times_lt U) hs fun x => ((compact_sort _).2 x).trans (hm x).symm
theorem prof42 : profL TaskR.crew T42 [0, 2] = O42 ∧ profL TaskR.power T42 [0, 2] = [(0, 0)] := by
 have e1 : timesP (usesTo TaskR.crew T42 [0, 2] 2) = [0, 2, 4, 5] := times_eq (by decide) fun x => by
  rw [show endsTo (usesTo TaskR.crew T42 [0, 2] 2) (usesTo TaskR.crew T42 [0, 2] 2).length = [0, 0, 4, 2, 5] by decide]
  simp; omega
 have e2 : timesP (usesTo TaskR.power T42 [0, 2] 2) = [0, 2, 4, 5] := times_eq (by decide) fun x => by
  rw [show endsTo (usesTo TaskR.power T42 [0, 2] 2) (usesTo TaskR.power T42 [0, 2] 2).length = [0, 0, 4, 2, 5] by decide]
  simp; omega
 unfold profL
 rw [profE42, if_pos rfl, if_pos rfl]
 show stepsP (usesTo TaskR.crew T42 [0, 2] 2) = _ ∧ stepsP (usesTo TaskR.power T42 [0, 2] 2) = _
 unfold stepsP
 rw [e1, e2]
 decide
theorem peak42 : peakP O42 = (3, 2, 0) := by decide +kernel
theorem work42 : tasksB T42 = true ∧ workTo TaskR.crew T42 2 = 11 ∧ workTo TaskR.power T42 2 = 0 := by decide +kernel
theorem tasks_new (w : World) (n : Nat) (L : List TaskR) (h : n = L.length) (hl : n ≤ 1000) : Tasks (w.alloc (.cells (tkflat L).toArray 54)).heap.size (w.alloc (.cells (tkflat L).toArray 54)) (some ⟨w.heap.size, 0, none⟩) L := by
 subst h
 obtain ⟨a, cap, e, _, _, _, hc⟩ := task_of_row (World.ownsRow_lit (base := 0) (e := 54) (size := 5) w (tkflat L).toArray L.length (Nat.zero_le _) (by unfold maxLen; omega) (by simp [task_len]))
 cases e
 exact hc
theorem nums_new (w : World) (n : Nat) (L : List Int) (h : n = L.length) (hl : n ≤ 1000) : Nums (w.alloc (.cells (nflat L).toArray 3)).heap.size (w.alloc (.cells (nflat L).toArray 3)) (some ⟨w.heap.size, 0, none⟩) L := by
 subst h
 obtain ⟨a, cap, e, _, _, _, hc⟩ := num_of_row (World.ownsRow_lit (base := 0) (e := 3) (size := 1) w (nflat L).toArray L.length (Nat.zero_le _) (by unfold maxLen; omega) (by simp [num_len]))
 cases e
 exact hc
theorem loads_new (w : World) (n : Nat) (L : List (Int × Int)) (h : n = L.length) (hl : n ≤ 1000) : Loads (w.alloc (.cells (oflat L).toArray 41)).heap.size (w.alloc (.cells (oflat L).toArray 41)) (some ⟨w.heap.size, 0, none⟩) L := by
 subst h
 obtain ⟨a, cap, e, _, _, _, hc⟩ := load_of_row (World.ownsRow_lit (base := 0) (e := 41) (size := 2) w (oflat L).toArray L.length (Nat.zero_le _) (by unfold maxLen; omega) (by simp [load_len]))
 cases e
 exact hc
theorem profile_ex (a sa : Option Addr) (w : World) (hL : Tasks w.heap.size w a T42) (hS : Nums w.heap.size w sa [0, 2]) :
  Calls Tryz.prog 15 #[.slice a 2 2, .slice sa 2 2] w fun e w' => Hid (∃ a1 c1 a2 c2, e = .returned (.tuple #[.slice a1 4 c1, .slice a2 1 c2, .int .i64 0]) ∧ Loads w'.heap.size w' a1 O42 ∧ Loads w'.heap.size w' a2 [(0, 0)]) ∧ Below w.heap.size w w' :=
 (profile_any a sa T42 [0, 2] 2 2 w (by decide) (by decide) hL hS).mono fun e w' h => by
  obtain ⟨v, u, he, h1, h2, hb⟩ := h.out
  rw [profE42] at he
  rw [prof42.1] at h1
  rw [prof42.2] at h2
  obtain ⟨a1, c1, rfl, _, _, _, f1⟩ := load_of_row h1
  obtain ⟨a2, c2, rfl, _, _, _, f2⟩ := load_of_row h2
  exact ⟨Lib.hid ⟨a1, c1, a2, c2, he, f1, f2⟩, hb⟩
theorem peak_ex (a : Option Addr) (w : World) (hL : Loads w.heap.size w a O42) :
  Calls Tryz.prog 16 #[.slice a 4 4] w fun e w' => e = .returned (.tuple #[.int .i64 3, .int .i64 2, .int .i64 0]) ∧ Below w.heap.size w w' :=
 (peak_any a O42 4 w (by decide) hL).mono fun e w' h => by rw [peak42] at h; exact h
theorem energy_ex (a : Option Addr) (w : World) (hL : Tasks w.heap.size w a T42) :
  Calls Tryz.prog 17 #[.slice a 2 2] w fun e w' => e = .returned (.tuple #[.int .i64 11, .int .i64 0, .int .i64 0]) ∧ Below w.heap.size w w' :=
 (energy_any a T42 2 w (by decide) hL).mono fun e w' h => by
  obtain ⟨h1, h2⟩ := h.out
  rw [work42.1, if_pos rfl, show T42.length = 2 from rfl, work42.2.1, work42.2.2] at h1
  exact ⟨h1, h2⟩
theorem equal_ex (a1 a2 : Option Addr) (F : List (Int × Int)) (n c1 c2 : Nat) (w : World) (hn : n = F.length) (hl : F.length ≤ 1100) (h1 : Loads w.heap.size w a1 F) (h2 : Loads w.heap.size w a2 F) :
  Calls Tryz.prog 10 #[.slice a1 n c1, .slice a2 n c2] w fun e w' => e = .returned (.bool true) ∧ Below w.heap.size w w' := by
 subst hn
 exact (load_equal a1 a2 F F c1 c2 w hl h1 h2 hl).mono fun e w' h => by rw [decide_eq_true rfl] at h; exact h
set_option maxRecDepth 100000 in
set_option maxHeartbeats 8000000 in
theorem awake_any (w : World) : Calls Tryz.prog 5 #[] w fun e w' => e = .returned (.bool true) ∧ Below w.heap.size w w' := by
 have HT : Hid (∀ w : World, Tasks (w.alloc (.cells #[.string ⟨#[]⟩, .int .i64 4, .int .i64 2, .int .i64 0, .slice none 0 0, .string ⟨#[]⟩, .int .i64 3, .int .i64 1, .int .i64 0, .slice none 0 0] 54)).heap.size (w.alloc (.cells #[.string ⟨#[]⟩, .int .i64 4, .int .i64 2, .int .i64 0, .slice none 0 0, .string ⟨#[]⟩, .int .i64 3, .int .i64 1, .int .i64 0, .slice none 0 0] 54)) (some ⟨w.heap.size, 0, none⟩) T42) := Lib.hid fun w => tasks_new w 2 T42 rfl (by decide)
 have HN : Hid (∀ w : World, Nums (w.alloc (.cells #[.int .i64 0, .int .i64 2] 3)).heap.size (w.alloc (.cells #[.int .i64 0, .int .i64 2] 3)) (some ⟨w.heap.size, 0, none⟩) [0, 2]) := Lib.hid fun w => nums_new w 2 [0, 2] rfl (by decide)
 have HO : Hid (∀ w : World, Loads (w.alloc (.cells #[.int .i64 0, .int .i64 2, .int .i64 2, .int .i64 3, .int .i64 4, .int .i64 1, .int .i64 5, .int .i64 0] 41)).heap.size (w.alloc (.cells #[.int .i64 0, .int .i64 2, .int .i64 2, .int .i64 3, .int .i64 4, .int .i64 1, .int .i64 5, .int .i64 0] 41)) (some ⟨w.heap.size, 0, none⟩) O42) := Lib.hid fun w => loads_new w 4 O42 rfl (by decide)
 have HO1 : Hid (∀ w : World, Loads (w.alloc (.cells #[.int .i64 0, .int .i64 0] 41)).heap.size (w.alloc (.cells #[.int .i64 0, .int .i64 0] 41)) (some ⟨w.heap.size, 0, none⟩) [(0, 0)]) := Lib.hid fun w => loads_new w 1 [(0, 0)] rfl (by decide)
 go_enter Tryz.func5, Tryz.ntmps5
 go_wp2_with fail
 have HA := Lib.hid (HT.out w)
 have hb0 : Below w.heap.size w (w.alloc (.cells #[.string ⟨#[]⟩, .int .i64 4, .int .i64 2, .int .i64 0, .slice none 0 0, .string ⟨#[]⟩, .int .i64 3, .int .i64 1, .int .i64 0, .slice none 0 0] 54)) := below_new w _
 have hz : (w.alloc (.cells #[.string ⟨#[]⟩, .int .i64 4, .int .i64 2, .int .i64 0, .slice none 0 0, .string ⟨#[]⟩, .int .i64 3, .int .i64 1, .int .i64 0, .slice none 0 0] 54)).heap.size = w.heap.size + 1 := by simp
 generalize hw : w.alloc (.cells #[.string ⟨#[]⟩, .int .i64 4, .int .i64 2, .int .i64 0, .slice none 0 0, .string ⟨#[]⟩, .int .i64 3, .int .i64 1, .int .i64 0, .slice none 0 0] 54) = w0 at *
 clear hw HT
 have hn := HN.out w0
 rw [hz] at hn
 have HN1 := Lib.hid hn
 clear hn hz
 go_wp2_with (first
  | (go_at_call 15; (with_reducible refine (profile_ex _ _ _ (HA.out.grow (below_new _ _)) HN1.out).mono ?_); rintro e w1 ⟨hx, hb1⟩; obtain ⟨a1, c1, a2, c2, rfl, f1, f2⟩ := hx.out; have HF1 := Lib.hid f1; have HF2 := Lib.hid f2; have hB1 : Below w.heap.size w w1 := hb0.trans ((mono_in _ hb1).mono hb0.size); have HA1 := Lib.hid (HA.out.grow (mono_in _ hb1)); clear hx f1 f2)
  | (go_at_call 16; (with_reducible refine (peak_ex _ _ (HO.out _)).mono ?_); rintro e w2 ⟨rfl, hb2⟩; have hC2 := mono_in _ hb2; have hB2 : Below w.heap.size w w2 := hB1.trans (hC2.mono hB1.size))
  | (go_at_call 17; (with_reducible refine (energy_ex _ _ (HA1.out.grow hC2)).mono ?_); rintro e w3 ⟨rfl, hb3⟩; have hB3 : Below w.heap.size w w3 := hB2.trans (hb3.mono hB2.size); have HF13 := Lib.hid ((HF1.out.grow hC2).grow hb3); have HF23 := Lib.hid ((HF2.out.grow hC2).grow hb3))
  | (go_at_call 10; (with_reducible refine (equal_ex _ _ O42 4 _ _ _ rfl (by decide) (HF13.out.grow (below_new _ _)) (HO.out _)).mono ?_); rintro e w4 ⟨rfl, hb4⟩; have hC4 := mono_in _ hb4; have hB4 : Below w.heap.size w w4 := hB3.trans (hC4.mono hB3.size); have HF24 := Lib.hid (HF23.out.grow hC4))
  | (go_at_call 10; (with_reducible refine (equal_ex _ _ [(0, 0)] 1 _ _ _ rfl (by decide) (HF24.out.grow (below_new _ _)) (HO1.out _)).mono ?_); rintro e w5 ⟨rfl, hb5⟩; have hB5 : Below w.heap.size w w5 := hB4.trans ((mono_in _ hb5).mono hB4.size)))
 go_ret
 exact ⟨rfl, hB5⟩
end Go.Proofs.YtlnodjcmdnmnlaaGreat
namespace Go.Proofs.YtlnodjcmdnmnlaaGreat
open Go.RowKit Go.Shelf
def toldTo (L : List (Int × Int)) (t : Int) : Nat → Int
 | 0 => 0
 | k + 1 => if (og L k).1 ≤ t then (og L k).2 else toldTo L t k
def toldP (L : List (Int × Int)) (t : Int) : Int := toldTo L t L.length
set_option maxHeartbeats 4000000 in
theorem told_any (a : Option Addr) (L : List (Int × Int)) (cap : Nat) (t : Int) (w : World) (hl : L.length ≤ 1000000) (hL : Loads w.heap.size w a L) :
  Calls Tryz.prog 14 #[.slice a L.length cap, .int .i64 t] w fun e w' => e = .returned (.int .i64 (toldP L t)) ∧ Below w.heap.size w w' := by
 have HL := Lib.hid hL; clear hL
 have HE : Hid (toldP L t = toldTo L t L.length) := Lib.hid rfl
 go_enter Tryz.func14, Tryz.ntmps14
 go_wp2_with fail
 go_loopw [5, 10] (fun v i wr => ∃ k : Nat, k ≤ L.length ∧ i = .int .i64 k ∧ v = .int .i64 (toldTo L t k) ∧ Below w.heap.size w wr) (fun _ i _ => L.length - (intOf i).toNat)
 case atStart => exact ⟨0, Nat.zero_le _, rfl, rfl, Below.refl _ _⟩
 case round =>
  obtain ⟨k, hk, rfl, rfl, hB⟩ := hrel
  have hbs := hB.size
  by_cases hlt : k < L.length
  ·obtain ⟨b, off, rfl, hb, hc⟩ := HL.out (by omega)
   have c0 := (hB.cell (p := ⟨b, off + k * 2, none⟩) hb).trans (hc k hlt).1
   have c1 := (hB.cell (p := ⟨b, off + k * 2 + 1, none⟩) hb).trans (hc k hlt).2
   clear hc
   by_cases p : (og L k).1 ≤ t
   ·have HS : Hid (toldTo L t (k + 1) = (og L k).2) := Lib.hid (by simp only [toldTo]; rw [if_pos p])
    go_wp2_with fail
    go_roundw
    case rel => exact ⟨k + 1, by omega, by go_num, by rw [HS.out], hB.alloc hbs _⟩
    case measure => simp [intOf]; omega
   ·have HS : Hid (toldTo L t (k + 1) = toldTo L t k) := Lib.hid (by simp only [toldTo]; rw [if_neg p])
    go_wp2_with fail
    go_roundw
    case rel => exact ⟨k + 1, by omega, by go_num, by rw [HS.out], hB.alloc hbs _⟩
    case measure => simp [intOf]; omega
  ·obtain rfl : k = L.length := by omega
   go_wp2_with fail
   go_ret
   exact ⟨ret_int HE.out.symm, hB⟩
end Go.Proofs.YtlnodjcmdnmnlaaGreat
namespace Go.Proofs.YtlnodjcmdnmnlaaGreat
open Go.RowKit Go.Shelf
theorem toldTo_old (L : List (Int × Int)) (x : Int × Int) (t : Int) : ∀ k, k ≤ L.length → toldTo (L ++ [x]) t k = toldTo L t k := by
 intro k
 induction k with
 | zero => intro _; rfl
 | succ k ih =>
  intro hk
  simp only [toldTo]
  rw [og_old L x k (by omega), ih (by omega)]
theorem told_snoc (L : List (Int × Int)) (x : Int × Int) (t : Int) : toldP (L ++ [x]) t = if x.1 ≤ t then x.2 else toldP L t := by
 unfold toldP
 rw [List.length_append]
 show (if (og (L ++ [x]) L.length).1 ≤ t then (og (L ++ [x]) L.length).2 else toldTo (L ++ [x]) t L.length) = _
 rw [og_new, toldTo_old L x t _ (Nat.le_refl _)]
structure StepsAt (U : UseL) (k : Nat) (O : List (Int × Int)) : Prop where
 pos : 0 < O.length
 first : (og O 0).1 = ig (timesP U) 0
 last : (og O (O.length - 1)).2 = sumAt U (ig (timesP U) (k - 1))
 time : ∀ i, i < O.length → ∃ j, j < k ∧ (og O i).1 = ig (timesP U) j
 sum : ∀ i, i < O.length → (og O i).2 = sumAt U (og O i).1
 up : ∀ i, 0 < i → i < O.length → (og O (i - 1)).1 < (og O i).1 ∧ (og O i).2 ≠ (og O (i - 1)).2
 tell : ∀ j t, j < k → ig (timesP U) j ≤ t → (j + 1 < k → t < ig (timesP U) (j + 1)) → toldP O t = sumAt U (ig (timesP U) j)
 all : ∀ j, j < k → ∃ i, i < O.length ∧ (og O i).2 = sumAt U (ig (timesP U) j)
theorem steps_inv (U : UseL) : ∀ k, 0 < k → k ≤ (timesP U).length → StepsAt U k (stepsK U k) := by
 intro k
 induction k with
 | zero => intro h; omega
 | succ k ih =>
  intro _ hk
  rw [stepsK_succ U k hk]
  rcases Nat.eq_zero_or_pos k with e | hp
  ·subst e
   have e1 : addS U (stepsK U 0) (ig (timesP U) 0) = [] ++ [(ig (timesP U) 0, sumAt U (ig (timesP U) 0))] := by
    have e0 : stepsK U 0 = [] := rfl
    rw [e0]; unfold addS; rw [if_pos (.inl rfl)]
   rw [e1]
   have g0 : og ([] ++ [(ig (timesP U) 0, sumAt U (ig (timesP U) 0))]) 0 = (ig (timesP U) 0, sumAt U (ig (timesP U) 0)) := og_new [] _
   refine ⟨Nat.zero_lt_one, by rw [g0], by show (og _ 0).2 = _; rw [g0], ?_, ?_, ?_, ?_, ?_⟩
   ·intro i hi
    obtain rfl : i = 0 := by simp at hi; omega
    exact ⟨0, Nat.zero_lt_one, by rw [g0]⟩
   ·intro i hi
    obtain rfl : i = 0 := by simp at hi; omega
    rw [g0]
   ·intro i h0 hi
    simp at hi; omega
   ·intro j t hj h1 _
    obtain rfl : j = 0 := by omega
    rw [told_snoc, if_pos h1]
   ·intro j hj
    obtain rfl : j = 0 := by omega
    exact ⟨0, Nat.zero_lt_one, by rw [g0]⟩
  ·have I := ih hp (by omega)
   generalize stepsK U k = O at I
   have hlt : ∀ j, j < k → ig (timesP U) j < ig (timesP U) k := fun j hj => ig_lt (times_lt U) hj hk
   by_cases hc : (og O (O.length - 1)).2 ≠ sumAt U (ig (timesP U) k)
   ·have e1 : addS U O (ig (timesP U) k) = O ++ [(ig (timesP U) k, sumAt U (ig (timesP U) k))] := by unfold addS; rw [if_pos (.inr hc)]
    rw [e1]
    generalize hx : (ig (timesP U) k, sumAt U (ig (timesP U) k)) = x
    have x1 : x.1 = ig (timesP U) k := by rw [← hx]
    have x2 : x.2 = sumAt U (ig (timesP U) k) := by rw [← hx]
    have hlen : (O ++ [x]).length = O.length + 1 := by simp
    have cs : ∀ i, i < (O ++ [x]).length → (i < O.length ∧ og (O ++ [x]) i = og O i) ∨ (i = O.length ∧ og (O ++ [x]) i = x) := by
     intro i hi
     rw [hlen] at hi
     rcases Nat.lt_or_ge i O.length with l | l
     ·exact .inl ⟨l, og_old O x i l⟩
     ·obtain rfl : i = O.length := by omega
      exact .inr ⟨rfl, og_new O x⟩
    have hpos := I.pos
    refine ⟨by omega, ?_, ?_, ?_, ?_, ?_, ?_, ?_⟩
    ·rw [og_old O x 0 hpos]; exact I.first
    ·rw [hlen]; show (og (O ++ [x]) O.length).2 = _; rw [og_new]; exact x2
    ·intro i hi
     rcases cs i hi with ⟨l, e⟩ | ⟨_, e⟩
     ·obtain ⟨j, hj, ej⟩ := I.time i l
      exact ⟨j, by omega, by rw [e]; exact ej⟩
     ·exact ⟨k, by omega, by rw [e]; exact x1⟩
    ·intro i hi
     rcases cs i hi with ⟨l, e⟩ | ⟨_, e⟩
     ·rw [e]; exact I.sum i l
     ·rw [e, x1]; exact x2
    ·intro i h0 hi
     rcases cs i hi with ⟨l, e⟩ | ⟨l, e⟩
     ·rw [e, og_old O x (i - 1) (by omega)]; exact I.up i h0 l
     ·rw [e, og_old O x (i - 1) (by omega), x1, x2, l]
      obtain ⟨j, hj, ej⟩ := I.time (O.length - 1) (by omega)
      exact ⟨by rw [ej]; exact hlt j hj, fun h => hc h.symm⟩
    ·intro j t hj h1 h2
     rw [told_snoc, x1, x2]
     rcases Nat.lt_or_ge j k with l | l
     ·have h3 := h2 (by omega)
      have h4 : ig (timesP U) (j + 1) ≤ ig (timesP U) k := by
       rcases Nat.lt_or_ge (j + 1) k with m | m
       ·exact Int.le_of_lt (hlt _ m)
       ·obtain rfl : j + 1 = k := by omega
        exact Int.le_refl _
      rw [if_neg (by omega)]
      exact I.tell j t l h1 fun _ => h3
     ·obtain rfl : j = k := by omega
      rw [if_pos h1]
    ·intro j hj
     rcases Nat.lt_or_ge j k with l | l
     ·obtain ⟨i, hi, ei⟩ := I.all j l
      exact ⟨i, by omega, by rw [og_old O x i hi]; exact ei⟩
     ·obtain rfl : j = k := by omega
      exact ⟨O.length, by omega, by rw [og_new]; exact x2⟩
   ·have hpos := I.pos
    have hc' : (og O (O.length - 1)).2 = sumAt U (ig (timesP U) k) := Classical.byContradiction hc
    have e1 : addS U O (ig (timesP U) k) = O := by
     unfold addS
     rw [if_neg]
     rintro (h | h)
     ·omega
     ·exact h hc'
    rw [e1]
    refine ⟨hpos, I.first, hc', fun i hi => ?_, I.sum, I.up, ?_, ?_⟩
    ·obtain ⟨j, hj, ej⟩ := I.time i hi
     exact ⟨j, by omega, ej⟩
    ·intro j t hj h1 h2
     rcases Nat.lt_or_ge j k with l | l
     ·exact I.tell j t l h1 fun h => h2 (by omega)
     ·obtain rfl : j = k := by omega
      have := I.tell (j - 1) t (by omega) (by have := hlt (j - 1) (by omega); omega) (fun h => by omega)
      rw [this, ← I.last]; exact hc'
    ·intro j hj
     rcases Nat.lt_or_ge j k with l | l
     ·exact I.all j l
     ·obtain rfl : j = k := by omega
      exact ⟨O.length - 1, by omega, hc'⟩
theorem steps_all (U : UseL) : StepsAt U (timesP U).length (stepsP U) := by
 have h := steps_inv U (timesP U).length (times_pos U) (Nat.le_refl _)
 rw [stepsK_all] at h
 exact h
theorem time_before {U : UseL} (h : UseOK U) (t : Int) (ht : 0 ≤ t) : ∃ j, j < (timesP U).length ∧ ig (timesP U) j ≤ t ∧ (j + 1 < (timesP U).length → t < ig (timesP U) (j + 1)) := by
 have main : ∀ m, 0 < m → m ≤ (timesP U).length → ∃ j, j < m ∧ ig (timesP U) j ≤ t ∧ (j + 1 < m → t < ig (timesP U) (j + 1)) := by
  intro m
  induction m with
  | zero => intro h; omega
  | succ m ih =>
   intro _ hm
   rcases Nat.eq_zero_or_pos m with e | hp
   ·subst e
    exact ⟨0, by omega, by rw [times_zero h]; exact ht, fun h => by omega⟩
   ·obtain ⟨j, hj, h1, h2⟩ := ih hp (by omega)
    by_cases q : ig (timesP U) m ≤ t
    ·exact ⟨m, by omega, q, fun h => by omega⟩
    ·refine ⟨j, by omega, h1, fun h => ?_⟩
     rcases Nat.lt_or_ge (j + 1) m with l | l
     ·exact h2 l
     ·obtain rfl : j + 1 = m := by omega
      omega
 exact main _ (times_pos U) (Nat.le_refl _)
theorem sumTo_same {U : UseL} (s t : Int) (h : ∀ j, j < U.length → ((ug U j).1 ≤ s ∧ s < (ug U j).2.1 ↔ (ug U j).1 ≤ t ∧ t < (ug U j).2.1)) : ∀ k, k ≤ U.length → sumTo U s k = sumTo U t k := by
 intro k
 induction k with
 | zero => intro _; rfl
 | succ k ih =>
  intro hk
  simp only [sumTo]
  rw [ih (by omega)]
  have := h k (by omega)
  split
  ·next p => rw [if_pos (this.1 p)]
  ·next p => rw [if_neg fun q => p (this.2 q)]
theorem sum_at_time {U : UseL} (h : UseOK U) (j : Nat) (t : Int) (hj : j < (timesP U).length) (h1 : ig (timesP U) j ≤ t) (h2 : j + 1 < (timesP U).length → t < ig (timesP U) (j + 1)) : sumAt U (ig (timesP U) j) = sumAt U t := by
 have key : ∀ x, x ∈ timesP U → (x ≤ ig (timesP U) j ↔ x ≤ t) := by
  intro x hx
  obtain ⟨m, hm, rfl⟩ := mem_ig.1 hx
  rcases Nat.lt_trichotomy m j with l | l | l
  ·have := ig_lt (times_lt U) l hj
   constructor <;> intro _ <;> omega
  ·subst l; constructor <;> intro _ <;> omega
  ·have a := ig_lt (times_lt U) l hm
   have b := h2 (by omega)
   have c : ig (timesP U) (j + 1) ≤ ig (timesP U) m := by
    rcases Nat.lt_or_ge (j + 1) m with p | p
    ·exact Int.le_of_lt (ig_lt (times_lt U) p hm)
    ·obtain rfl : j + 1 = m := by omega
     exact Int.le_refl _
   constructor <;> intro _ <;> omega
 refine sumTo_same _ _ (fun i hi => ?_) _ (Nat.le_refl _)
 have a := key _ ((times_mem U _).2 (.inr ⟨i, hi, (h i hi).2, .inl rfl⟩))
 have b := key _ ((times_mem U _).2 (.inr ⟨i, hi, (h i hi).2, .inr rfl⟩))
 constructor
 ·rintro ⟨p, q⟩; exact ⟨a.1 p, by have := mt b.2; omega⟩
 ·rintro ⟨p, q⟩; exact ⟨a.2 p, by have := mt b.1; omega⟩
theorem told_steps {U : UseL} (h : UseOK U) (t : Int) (ht : 0 ≤ t) : toldP (stepsP U) t = sumAt U t := by
 obtain ⟨j, hj, h1, h2⟩ := time_before h t ht
 rw [(steps_all U).tell j t hj h1 h2]
 exact sum_at_time h j t hj h1 h2
theorem sumTo_none {U : UseL} (t : Int) (h : ∀ j, j < U.length → ¬ ((ug U j).1 ≤ t ∧ t < (ug U j).2.1)) : ∀ k, k ≤ U.length → sumTo U t k = 0 := by
 intro k
 induction k with
 | zero => intro _; rfl
 | succ k ih =>
  intro hk
  simp only [sumTo]
  rw [ih (by omega), if_neg (h k (by omega))]
  rfl
theorem sumTo_w {U : UseL} (t : Int) (h : ∀ j, j < U.length → 0 ≤ (ug U j).2.2 ∧ (ug U j).2.2 ≤ 100) : ∀ k, k ≤ U.length → 0 ≤ sumTo U t k ∧ sumTo U t k ≤ 100 * (k : Int) := by
 intro k
 induction k with
 | zero => intro _; exact ⟨Int.le_refl _, Int.le_refl _⟩
 | succ k ih =>
  intro hk
  simp only [sumTo]
  have := ih (by omega)
  have := h k (by omega)
  split <;> omega
theorem steps_valid {U : UseL} (h : UseOK U) (hl : U.length ≤ 1000) (hb : ∀ j, j < U.length → (ug U j).2.1 ≤ 1099511627776 ∧ 0 ≤ (ug U j).2.2 ∧ (ug U j).2.2 ≤ 100) : validB (stepsP U) = true := by
 have I := steps_all U
 have hn := stepsK_len U (timesP U).length (Nat.le_refl _)
 rw [stepsK_all] at hn
 have ht := times_len U
 refine valid_of I.pos (by omega) (I.first.trans (times_zero h)) fun k hk => ⟨?_, fun h0 => (I.up k h0 hk).1, ?_⟩
 ·obtain ⟨j, hj, e⟩ := I.time k hk
  rw [e]
  rcases (times_mem U _).1 (mem_ig.2 ⟨j, hj, rfl⟩) with e | ⟨i, hi, _, e⟩
  ·omega
  ·have := h i hi; have := hb i hi; omega
 ·rw [I.sum k hk]
  have := sumTo_w (og (stepsP U) k).1 (fun j hj => (hb j hj).2) U.length (Nat.le_refl _)
  unfold sumAt
  omega
theorem steps_last {U : UseL} (h : UseOK U) : (og (stepsP U) ((stepsP U).length - 1)).2 = 0 := by
 have I := steps_all U
 rw [I.last]
 refine sumTo_none _ (fun j hj => ?_) _ (Nat.le_refl _)
 rintro ⟨_, q⟩
 obtain ⟨m, hm, e⟩ := mem_ig.1 ((times_mem U _).2 (.inr ⟨j, hj, (h j hj).2, .inr rfl⟩))
 rw [← e] at q
 rcases Nat.lt_or_ge m ((timesP U).length - 1) with l | l
 ·have := ig_lt (times_lt U) l (by omega); omega
 ·obtain rfl : m = (timesP U).length - 1 := by omega
  omega
end Go.Proofs.YtlnodjcmdnmnlaaGreat
namespace Go.Proofs.YtlnodjcmdnmnlaaGreat
open Go.RowKit
def needAt (t : Int) (u : Int × Int × Int) : Int := if u.1 ≤ t ∧ t < u.2.1 then u.2.2 else 0
theorem sumTo_take (U : UseL) (t : Int) : ∀ k, k ≤ U.length → sumTo U t k = ((U.take k).map (needAt t)).sum
 | 0, _ => rfl
 | k + 1, h => by
  rw [List.take_succ_eq_append_getElem (by omega), List.map_append, List.sum_append, ← sumTo_take U t k (by omega), ← ug_eq U k (by omega)]
  show sumTo U t k + (if (ug U k).1 ≤ t ∧ t < (ug U k).2.1 then (ug U k).2.2 else 0) = _
  simp [needAt]
theorem sumAt_map (U : UseL) (t : Int) : sumAt U t = (U.map (needAt t)).sum := by
 unfold sumAt
 rw [sumTo_take U t U.length (Nat.le_refl _), List.take_length]
def lastsU (U : UseL) : UseL := U.filter fun u => decide (u.1 < u.2.1)
theorem sum_lasts (t : Int) : ∀ U : UseL, ((lastsU U).map (needAt t)).sum = (U.map (needAt t)).sum
 | [] => rfl
 | u :: U => by
  have ih := sum_lasts t U
  unfold lastsU at *
  rw [List.filter_cons]
  by_cases h : u.1 < u.2.1
  ·rw [if_pos (decide_eq_true h), List.map_cons, List.sum_cons, List.map_cons, List.sum_cons, ih]
  ·rw [if_neg (by simpa using h), List.map_cons, List.sum_cons, ih]
   have : needAt t u = 0 := by unfold needAt; rw [if_neg (by omega)]
   omega
theorem mem_ug {U : UseL} {u : Int × Int × Int} : u ∈ U ↔ ∃ j, j < U.length ∧ ug U j = u := by
 constructor
 ·intro h
  obtain ⟨j, hj, e⟩ := List.getElem_of_mem h
  exact ⟨j, hj, by rw [ug_eq U j hj, e]⟩
 ·rintro ⟨j, hj, rfl⟩
  rw [ug_eq U j hj]
  exact List.getElem_mem hj
theorem times_memU (U : UseL) (x : Int) : x ∈ timesP U ↔ x = 0 ∨ ∃ u ∈ U, u.1 < u.2.1 ∧ (x = u.1 ∨ x = u.2.1) := by
 rw [times_mem]
 constructor
 ·rintro (h | ⟨j, hj, a, b⟩)
  ·exact .inl h
  ·exact .inr ⟨ug U j, mem_ug.2 ⟨j, hj, rfl⟩, a, b⟩
 ·rintro (h | ⟨u, hu, a, b⟩)
  ·exact .inl h
  ·obtain ⟨j, hj, rfl⟩ := mem_ug.1 hu
   exact .inr ⟨j, hj, a, b⟩
theorem steps_lasts (U : UseL) : stepsP (lastsU U) = stepsP U := by
 have e1 : timesP (lastsU U) = timesP U := lt_ext _ _ (times_lt _) (times_lt _) fun x => by
  rw [times_memU, times_memU]
  constructor
  ·rintro (h | ⟨u, hu, a, b⟩)
   ·exact .inl h
   ·exact .inr ⟨u, (List.mem_filter.1 hu).1, a, b⟩
  ·rintro (h | ⟨u, hu, a, b⟩)
   ·exact .inl h
   ·exact .inr ⟨u, List.mem_filter.2 ⟨hu, decide_eq_true a⟩, a, b⟩
 have e2 : addS (lastsU U) = addS U := by
  funext out t
  unfold addS
  rw [sumAt_map, sumAt_map, sum_lasts]
 unfold stepsP
 rw [e1, e2]
theorem lasts_ok {U : UseL} (h : ∀ u ∈ U, 0 ≤ u.1) : UseOK (lastsU U) := by
 intro j hj
 have hm : ug (lastsU U) j ∈ lastsU U := mem_ug.2 ⟨j, hj, rfl⟩
 obtain ⟨a, b⟩ := List.mem_filter.1 hm
 exact ⟨h _ a, of_decide_eq_true b⟩
theorem lasts_len (U : UseL) : (lastsU U).length ≤ U.length := List.length_filter_le _ _
end Go.Proofs.YtlnodjcmdnmnlaaGreat
