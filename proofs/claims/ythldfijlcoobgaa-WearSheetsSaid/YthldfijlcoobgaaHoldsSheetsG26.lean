/-
  THE MAP of the changes, as it reads; the keys that were collected.
  THE WALK of wear.Spots.
  THE WALK of wear.Spots on a length or spans that are no good.
  THE WALK of the laws' own helper awake (layer 46): the chapter's examples hold.
  THE WALK of the law WearSheets.
  FROM A WALK TO A ROW: a law that answers true and turns nothing that was there meets its row's post: each argument reads behind the call as it read before. Over any row of this seat.
  OPENING A SLICE OF RECORDS that came in, whatever the record: its cells, one behind the other, are those of a list.
  ARGUMENTS THAT CAME IN: slices of numbers and of spans; a rope.
  ARGUMENTS THAT CAME IN: slices of numbers and of bricks.
  ARGUMENTS THAT CAME IN: a slice of items; a set.
  ARGUMENTS THAT CAME IN: slices of sets and of beams, a house.
  ARGUMENTS THAT CAME IN: slices of moves, of cues and of pairs; a sheet.
-/
import Derived.Maps.OwnOps
import Derived.Maps.Views
import Derived.Maps.RangeWalk
import Derived.Deep.CutRange
import Derived.BigQuiet
import Derived.IntWalk
import Derived.Deep.QuietTactic
import Derived.Test.YthldfijlcoobgaaRows
import Derived.ProofKit
import Derived.OpenShut
import Derived.Below
import Derived.ChangeSame
import Derived.Carry
import Derived.RowKit
import Derived.Deep.Slices
import Derived.Deep.Fields
import Derived.WalkKit
import Derived.Lib.SmallJoins
import Derived.Test.YthldfijlcoobgaaHoldsSheetsG25
import Derived.Test.YthldfijlcoobgaaApp
import Derived.Test.YthldfijlcoobgaaRat4
import Derived.Test.YthldfijlcoobgaaHoldsSheetsG24
import Derived.Test.YthldfijlcoobgaaHApp
import Derived.Test.YthldfijlcoobgaaSetM
namespace Go.Proofs.Ythldfijlcoobgaa
open Go.RowKit Go.Maps

/-- The map of the changes. -/
def ChgMap {H : Type} (L : List (Int × Int)) (D : DataW H) : Prop := IsMap D ∧ (∀ x : Int, has D (.int .i64 x) = true ↔ x ∈ keysF L) ∧ ∀ x : Int, D.atKey (.int .i64 x) (.lit (.int .i64 0)) = .lit (.int .i64 (chg L x))
theorem keyLit (x : Int) : WideAt.IsKeyLit (.int .i64 x) := trivial
theorem put_map {H : Type} (D : DataW H) (h : IsMap D) (k : Lit) (d : DataW H) : IsMap (D.put k d) := by
  obtain ⟨es, rfl⟩ := h
  exact ⟨_, rfl⟩
theorem lit_ne {x y : Int} (h : x ≠ y) : (Lit.int .i64 x) ≠ Lit.int .i64 y := fun e => h (by injection e)
theorem chg_start {H : Type} : ChgMap [] ((.map [] : DataW H).put (.int .i64 0) (.lit (.int .i64 0))) := by
  have hm : IsMap (.map [] : DataW H) := isMap_empty
  refine ⟨put_map _ hm _ _, fun x => ?_, fun x => ?_⟩
  · by_cases h : x = 0
    · subst h
      rw [has_put_same hm (keyLit 0)]
      simp [keysF]
    · rw [has_put_other (lit_ne h)]
      simp [keysF, has, h]
  · by_cases h : x = 0
    · subst h
      rw [atKey_put_same hm (keyLit 0)]
      rfl
    · rw [atKey_put_other (lit_ne h)]
      rfl
theorem chg_put {H : Type} {L : List (Int × Int)} {D : DataW H} {s : Int × Int} (h : ChgMap L D) (hs : s.1 < s.2) :
    ChgMap (L ++ [s]) ((D.put (.int .i64 s.1) (.lit (.int .i64 (chg L s.1 + 1)))).put (.int .i64 s.2) (.lit (.int .i64 (chg L s.2 - 1)))) := by
  obtain ⟨hm, hh, ha⟩ := h
  have hm1 := put_map D hm (.int .i64 s.1) (.lit (.int .i64 (chg L s.1 + 1)))
  have memk : ∀ x, x ∈ keysF (L ++ [s]) ↔ x = s.1 ∨ x = s.2 ∨ x ∈ keysF L := fun x => by
    rw [keysF_mem, keysF_mem]
    constructor
    · rintro (h | ⟨r, hr, h⟩)
      · exact .inr (.inr (.inl h))
      · rcases List.mem_append.1 hr with hr | hr
        · exact .inr (.inr (.inr ⟨r, hr, h⟩))
        · obtain rfl : r = s := by simpa using hr
          rcases h with h | h
          · exact .inl h.symm
          · exact .inr (.inl h.symm)
    · rintro (h | h | h | ⟨r, hr, h⟩)
      · exact .inr ⟨s, by simp, .inl h.symm⟩
      · exact .inr ⟨s, by simp, .inr h.symm⟩
      · exact .inl h
      · exact .inr ⟨r, List.mem_append_left _ hr, h⟩
  refine ⟨put_map _ hm1 _ _, fun x => ?_, fun x => ?_⟩
  · rw [memk]
    by_cases h2 : x = s.2
    · subst h2
      rw [has_put_same hm1 (keyLit _)]
      simp
    · rw [has_put_other (lit_ne h2)]
      by_cases h1 : x = s.1
      · subst h1
        rw [has_put_same hm (keyLit _)]
        simp
      · rw [has_put_other (lit_ne h1), hh]
        simp [h1, h2]
  · rw [chg_snoc]
    by_cases h2 : x = s.2
    · rw [h2, atKey_put_same hm1 (keyLit _), if_neg (by omega), if_pos rfl]
      congr 2
      omega
    · rw [atKey_put_other (lit_ne h2)]
      by_cases h1 : x = s.1
      · rw [h1, atKey_put_same hm (keyLit _), if_pos rfl, if_neg (by omega)]
        congr 2
        omega
      · rw [atKey_put_other (lit_ne h1), ha, if_neg (fun e => h1 e.symm), if_neg (fun e => h2 e.symm)]
        congr 2
        omega
theorem chg_at {H : Type} {L : List (Int × Int)} {D : DataW H} (h : ChgMap L D) {x c : Int} (hat : D.atKey (.int .i64 x) (.lit (.int .i64 0)) = .lit (.int .i64 c)) : c = chg L x := by
  rw [h.2.2] at hat
  injection hat with e
  injection e with _ e2
  exact e2.symm
theorem chg_at2 {H : Type} {L : List (Int × Int)} {D : DataW H} {s : Int × Int} {d : DataW H} (h : ChgMap L D) (hs : s.1 < s.2) {c : Int} (hat : (D.put (.int .i64 s.1) d).atKey (.int .i64 s.2) (.lit (.int .i64 0)) = .lit (.int .i64 c)) : c = chg L s.2 := by
  rw [atKey_put_other (lit_ne (by omega))] at hat
  exact chg_at h hat

/-- The keys met so far: each once, and just those that are no longer to come. -/
def Coll {H : Type} (D : DataW H) (left : Lit → Bool) (ks : List Int) : Prop := ks.Nodup ∧ ∀ x : Int, x ∈ ks ↔ (has D (.int .i64 x) = true ∧ left (.int .i64 x) = false)
theorem coll_start {H : Type} (D : DataW H) : Coll D (has D) [] := ⟨List.nodup_nil, fun x => by simp⟩
theorem coll_step {H : Type} {D : DataW H} {left : Lit → Bool} {ks : List Int} {x : Int} (h : Coll D left ks) (hl : left (.int .i64 x) = true) (hh : has D (.int .i64 x) = true) : Coll D (fun z => left z && !z.sameKey (.int .i64 x)) (ks ++ [x]) := by
  obtain ⟨h1, h2⟩ := h
  have same : ∀ y : Int, (Lit.int .i64 y).sameKey (.int .i64 x) = decide (y = x) := fun y => by
    by_cases e : y = x
    · subst e; simp [Lit.sameKey]
    · rw [sameKey_ne (lit_ne e)]; simp [e]
  refine ⟨?_, fun y => ?_⟩
  · rw [List.nodup_append]
    refine ⟨h1, by simp, fun a ha b hb => ?_⟩
    obtain rfl : b = x := by simpa using hb
    intro e
    subst e
    have := ((h2 a).1 ha).2
    rw [hl] at this
    cases this
  · simp only [List.mem_append, List.mem_singleton, h2, same]
    by_cases e : y = x
    · subst e
      simp [hh]
    · simp [e]
theorem coll_end {H : Type} {D : DataW H} {left : Lit → Bool} {ks : List Int} {L : List (Int × Int)} (h : Coll D left ks) (hD : ChgMap L D) (hl : ∀ kl, left kl = false) : sortI ks = keysF L := by
  refine incr_ext (sortI_incr h.1) (keysF_incr L) fun z => ?_
  rw [sortI_mem, h.2, hD.2.1]
  simp [hl]
end Go.Proofs.Ythldfijlcoobgaa
namespace Go.Proofs.Ythldfijlcoobgaa
open Go.RowKit Go.Shelf Go.Maps

def spanBad (len : Int) (s : Int × Int) : Bool := decide (s.1 < 0) || decide (s.2 ≤ s.1) || decide (len < s.2)
set_option maxHeartbeats 1000000 in
theorem asks_spanBad (bx : Nat) (len : Int) (n₀ : Nat) (w : World) (hbx : bx < n₀) (hc : w.cell? ⟨bx, 0, none⟩ = some (.int .i64 len)) :
    AsksS 28 #[.pointer (some ⟨bx, 0, none⟩)] n₀ w (spanBad len) := by
  intro W r hB
  show Calls _ _ #[spanV r, _] _ _
  unfold spanV
  have c0 : W.cell? ⟨bx, 0, none⟩ = some (.int .i64 len) := (hB.cell (p := ⟨bx, 0, none⟩) hbx).trans hc
  have hz : bx < W.heap.size := World.block_lt_of_cell? _ _ c0
  obtain ⟨r1, r2⟩ := r
  simp only
  have key : ∀ b1 b2 b3 : Bool, decide (r1 < 0) = b1 → decide (r2 ≤ r1) = b2 → decide (len < r2) = b3 → Hid (spanBad len (r1, r2) = (b1 || b2 || b3)) := fun b1 b2 b3 h1 h2 h3 => Lib.hid (by unfold spanBad; rw [h1, h2, h3])
  cases h1 : decide (r1 < 0)
  all_goals cases h2 : decide (r2 ≤ r1)
  all_goals cases h3 : decide (len < r2)
  all_goals
    have H := key _ _ _ h1 h2 h3
    clear key hc
    go_enter Try.func28, Try.ntmps28
    go_wp2_with fail
    go_ret
    exact ⟨ret_bool (by rw [H.out]; simp), below_new _ _⟩
theorem ent_spanBad (args : Array Value) (w : World) : (callFunc 28 args).run Try.prog w = .ok (.enter 28 args) w := enters_of Try.func28 (by kernel_rfl) rfl args w

theorem own_base {w : World} {b b' size n : Nat} {e : TypeId} {v : Value} {xs : List Value} (h : w.ownsRow b' e size v n xs) (hb : b ≤ b') : w.ownsRow b e size v n xs := by
  refine ⟨h.1, ?_⟩
  rcases h.2 with hn | ⟨g, cap, cur, e1, hb1, rest⟩
  · exact .inl hn
  · exact .inr ⟨g, cap, cur, e1, Nat.le_trans hb hb1, rest⟩
theorem map_below {H : Type} {w w' : World} {b n : Nat} {D : DataW H} (h : w.ownsMap Try.prog 3 (plainElem Try.prog 3) b n D) (hB : Below w.heap.size w w') : w'.ownsMap Try.prog 3 (plainElem Try.prog 3) b n D := by
  have hlt := h.lt
  obtain ⟨es, clock, hb, F, hs, hD⟩ := h
  exact ⟨es, clock, (hB.block b hlt).trans hb, F, hs, hD⟩
theorem og_last {S : List (Int × Int)} (hl : 0 < S.length) : S.getLast? = some (og S (S.length - 1)) := by
  rw [List.getLast?_eq_getElem?, og_get (by omega)]
theorem spotS_same {L S : List (Int × Int)} {t : Int} (hl : 0 < S.length) (h : (og S (S.length - 1)).2 = cov L t) : spotS L S t = S := by
  unfold spotS
  rw [og_last hl]
  exact if_pos h
theorem spotS_new {L S : List (Int × Int)} {t : Int} (hl : 0 < S.length) (h : ¬ (og S (S.length - 1)).2 = cov L t) : spotS L S t = S ++ [(t, cov L t)] := by
  unfold spotS
  rw [og_last hl]
  exact if_neg h
theorem nodup_len : ∀ {ks K : List Int}, ks.Nodup → (∀ x ∈ ks, x ∈ K) → ks.length ≤ K.length
  | [], _, _, _ => Nat.zero_le _
  | x :: t, K, h, hs => by
    rw [List.nodup_cons] at h
    have hx : x ∈ K := hs x (List.mem_cons_self ..)
    have := nodup_len (ks := t) (K := K.erase x) h.2 fun y hy => by
      have hne : y ≠ x := fun e => h.1 (e ▸ hy)
      exact (List.mem_erase_of_ne hne).2 (hs y (List.mem_cons_of_mem _ hy))
    rw [List.length_erase_of_mem hx] at this
    have hp : 0 < K.length := List.length_pos_of_mem hx
    simp only [List.length_cons]
    omega
theorem coll_len {H : Type} {D : DataW H} {left : Lit → Bool} {ks : List Int} {L : List (Int × Int)} (h : Coll D left ks) (hD : ChgMap L D) : ks.length ≤ 2 * L.length + 1 :=
  Nat.le_trans (nodup_len h.1 fun x hx => (hD.2.1 x).1 ((h.2 x).1 hx).1) (keysF_len L)

/-- What is wrong with a length and spans. -/
def spotsE (len : Int) (L : List (Int × Int)) : Int := if len < 1 ∨ 1048576 < len then 2 else if 1000 < L.length then 4 else if L.any (spanBad len) then 1 else 0
theorem spots_ok {len : Int} {L : List (Int × Int)} (h : spotsE len L = 0) : 1 ≤ len ∧ len ≤ 1048576 ∧ L.length ≤ 1000 ∧ SpansOK len L ∧ L.any (spanBad len) = false := by
  unfold spotsE at h
  split at h
  · cases h
  · split at h
    · cases h
    · split at h
      · cases h
      · rename_i h1 h2 h3
        refine ⟨by omega, by omega, by omega, fun s hs => ?_, Bool.eq_false_iff.2 h3⟩
        have := List.any_eq_false.1 (Bool.eq_false_iff.2 h3) s hs
        unfold spanBad at this
        simp at this
        omega

theorem keyI : Keyed Try.prog 3 := int_keyed Try.underlying3
theorem zeroI (w : World) : (zeroValue 3).run Try.prog w = .ok (.int .i64 0) w := by kernel_rfl

set_option maxRecDepth 100000 in
set_option maxHeartbeats 16000000 in
theorem spots_good {H : Type} (len : Int) (a : Option Addr) (L : List (Int × Int)) (cap : Nat) (w : World) (h : Spans w.heap.size w a L) (he : spotsE len L = 0) :
    Calls Try.prog 11 #[.int .i64 len, .slice a L.length cap] w fun e w' => Hid (∃ v, e = .returned (.tuple #[v, .int .i64 0]) ∧ w'.ownsRow w.heap.size 57 2 v (spotsP len L).length (oflat (spotsP len L))) ∧ Below w.heap.size w w' := by
  obtain ⟨l1, l2, hl, hOK, hany⟩ := spots_ok he
  have HS := Lib.hid h
  have HOK := Lib.hid hOK
  have HAN : Hid (span_any L (spanBad len) = false) := Lib.hid (by rw [span_any_eq]; exact hany)
  clear h he hOK hany
  have hW0 := below_new w (.cells #[.int .i64 len] 3)
  have c0 : (w.alloc (.cells #[.int .i64 len] 3)).cell? ⟨w.heap.size, 0, none⟩ = some (.int .i64 len) := by simp
  have hz0 : w.heap.size < (w.alloc (.cells #[.int .i64 len] 3)).heap.size := by simp
  have hmm := @run_makeMap Try.prog
  have g1 : decide (len < 1) = false := decide_eq_false (by omega)
  have g2 : decide (1048576 < len) = false := decide_eq_false (by omega)
  have g3 : decide ((1000 : Int) < L.length) = false := decide_eq_false (by omega)
  go_enter Try.func11, Try.ntmps11
  go_upto_region 1 with (fail)
  obtain ⟨Bl, hBl⟩ : ∃ b, w.heap.size = b := ⟨_, rfl⟩
  rw [hBl] at c0 hz0
  simp only [hBl]
  generalize w.alloc (.cells #[.int .i64 len] 3) = W0 at *
  go_upto_region 7 with (go_at_call 27; (with_reducible refine (span_containsFunc _ L _ _ _ _ (spanBad len) _ ent_spanBad (by omega) (Nat.le_refl _) (HS.out.grow hW0) (asks_spanBad Bl len _ _ hz0 c0)).mono ?_); rintro e w2 ⟨rfl, hb2⟩; rw [HAN.out])
  have b2 := hb2
  have hW2 := hW0.trans (hb2.mono hW0.size)
  have hS2 := (HS.out.grow hW0).grow hb2
  have c2 := (hb2.cell (p := ⟨Bl, 0, none⟩) hz0).trans c0
  clear hb2 c0 hz0 hW0 HAN HS b2
  obtain ⟨Wa, rfl⟩ : ∃ W : World, W = w2 := ⟨_, rfl⟩
  have HS := Lib.hid hS2
  clear hS2
  obtain ⟨w3, hins, hown3, hg3⟩ := (World.ownsMap_made (H := H) Wa Try.prog 3 (plainElem Try.prog 3)).update keyI Try.underlying83 (by unfold maxLen; omega) (keyOf_int_mk Try.underlying3 (a := 0) (by decide)) (plainElem_int Try.underlying3 (a := 0) (by decide))
  have hb3 : Below Wa.heap.size Wa w3 := ((Below.refl _ _).alloc (Nat.le_refl _) _).grown hg3 (by simp) (fun j hj => by cases hj; exact Nat.le_refl _)
  have HC3 := Lib.hid (chg_start (H := H))
  go_upto_region 8 with (fail)
  clear hins hmm hg3
  obtain ⟨Bm, hBm⟩ : ∃ b, Wa.heap.size = b := ⟨_, rfl⟩
  have hBmle : Wa.heap.size ≤ Bm := by omega
  simp only [hBm] at hown3 ⊢
  clear hBm
  go_wp2_with fail
  go_loopw [34] (fun i wr => ∃ (k : Nat) (D : DataW H), k ≤ L.length ∧ i = .int .i64 k ∧ wr.ownsMap Try.prog 3 (plainElem Try.prog 3) Bm (2 * k + 1) D ∧ Hid (ChgMap (L.take k) D) ∧ Below Wa.heap.size Wa wr) (fun i _ => L.length - (intOf i).toNat)
  case atStart => exact ⟨0, _, Nat.zero_le _, rfl, hown3, HC3, hb3⟩
  case round =>
    obtain ⟨k, D, hk, rfl, hown, HD, hC⟩ := hrel
    clear hown3 HC3 hb3
    by_cases hlt : k < L.length
    · obtain ⟨b, off, rfl, hb, hcx⟩ := HS.out (by omega)
      obtain ⟨e0, e1⟩ := hcx k hlt
      have d0 := (hC.cell (p := ⟨b, off + k * 2, none⟩) hb).trans e0
      have d1 := (hC.cell (p := ⟨b, off + k * 2 + 1, none⟩) hb).trans e1
      have hok := HOK.out (sg L k) (by rw [sg_eq L k hlt]; exact List.getElem_mem hlt)
      have HT : Hid (L.take (k + 1) = L.take k ++ [sg L k]) := Lib.hid (by rw [sg_eq L k hlt]; exact List.take_succ_eq_append_getElem hlt)
      have hcb1 := chg_bd (L.take k) (sg L k).1
      have hcb2 := chg_bd (L.take k) (sg L k).2
      have htl : (L.take k).length ≤ 1000 := by rw [List.length_take]; omega
      clear hcx e0 e1
      go_upto_region 11 with (fail)
      have hownS := hown.alloc (.cells #[.int .i64 (sg L k).1, .int .i64 (sg L k).2] 52)
      have hCS := hC.alloc hC.size (.cells #[.int .i64 (sg L k).1, .int .i64 (sg L k).2] 52)
      obtain ⟨x0, x1⟩ := new_cells wr (.int .i64 (sg L k).1) (.int .i64 (sg L k).2) 52
      have hBw : Bm < wr.heap.size := hown.lt
      clear hown hC d0 d1
      generalize wr.alloc (.cells #[.int .i64 (sg L k).1, .int .i64 (sg L k).2] 52) = wS at *
      generalize wr.heap.size = Bs at *
      obtain ⟨p, hp⟩ : ∃ p, sg L k = p := ⟨_, rfl⟩
      rw [hp] at x0 x1 hok HT hcb1 hcb2
      clear hp
      have wk1 : (Lit.int .i64 p.1).wf = true := WalkArith.wf_i64 (by omega)
      have wk2 : (Lit.int .i64 p.2).wf = true := WalkArith.wf_i64 (by omega)
      obtain ⟨c1, hc1⟩ : ∃ c, chg (L.take k) p.1 = c := ⟨_, rfl⟩
      obtain ⟨c2, hc2⟩ : ∃ c, chg (L.take k) p.2 = c := ⟨_, rfl⟩
      have wv1 : (Lit.int .i64 (c1 + 1)).wf = true := WalkArith.wf_i64 (by omega)
      have wv2 : (Lit.int .i64 (c2 - 1)).wf = true := WalkArith.wf_i64 (by omega)
      have HPUT := Lib.hid (chg_put HD.out hok.2.1)
      have HA1 : Hid (∀ c, D.atKey (.int .i64 p.1) (.lit (.int .i64 0)) = .lit (.int .i64 c) → c = c1) := Lib.hid fun c h => (chg_at HD.out h).trans hc1
      have HA2 : Hid (∀ c, (D.put (.int .i64 p.1) (.lit (.int .i64 (c1 + 1)))).atKey (.int .i64 p.2) (.lit (.int .i64 0)) = .lit (.int .i64 c) → c = c2) := Lib.hid fun c h => (chg_at2 HD.out hok.2.1 h).trans hc2
      rw [hc1, hc2] at HPUT
      rw [hc1] at hcb1
      rw [hc2] at hcb2
      clear hc1 hc2
      have hne : some Bs ≠ some Bm := fun e => by injection e with e; omega
      go_upto_region 12 with (first
        | (at_lookup; refine wpList_lookup_own_int _ rfl _ _ 83 rfl 3 3 .i64 keyI Try.underlying83 Try.underlying3 (zeroI _) Bm _ _ rfl hownS _ _ rfl (keyOf_int_mk Try.underlying3 wk1) ?_; intro c hat hwc; obtain rfl := HA1.out c hat; clear hat hwc)
        | (at_mapUpdate; refine wpList_mapUpdate_own _ rfl _ _ _ 83 rfl 3 3 keyI Try.underlying83 _ Bm _ _ rfl hownS (by unfold maxLen; omega) _ _ _ rfl rfl (keyOf_int_mk Try.underlying3 wk1) _ [] (plainElem_int Try.underlying3 wv1) ?_; intro w4 hown4 hgrow4))
      have y1 := hgrow4.cell x1 hne
      have hC4 := hCS.grown hgrow4 hCS.size (fun j hj => by cases hj; exact hBmle)
      clear x0 x1 hownS hgrow4 hCS HA1
      go_wp2_with (first
        | (at_lookup; refine wpList_lookup_own_int _ rfl _ _ 83 rfl 3 3 .i64 keyI Try.underlying83 Try.underlying3 (zeroI _) Bm _ _ rfl hown4 _ _ rfl (keyOf_int_mk Try.underlying3 wk2) ?_; intro c hat hwc; obtain rfl := HA2.out c hat; clear hat hwc)
        | (at_mapUpdate; refine wpList_mapUpdate_own _ rfl _ _ _ 83 rfl 3 3 keyI Try.underlying83 _ Bm _ _ rfl hown4 (by unfold maxLen; omega) _ _ _ rfl rfl (keyOf_int_mk Try.underlying3 wk2) _ [] (plainElem_int Try.underlying3 wv2) ?_; intro w5 hown5 hgrow5))
      have hC5 := hC4.grown hgrow5 hC4.size (fun j hj => by cases hj; exact hBmle)
      go_roundw
      case rel => exact ⟨k + 1, _, by omega, by go_num, hown5, by rw [HT.out]; exact HPUT, hC5⟩
      case measure => simp [intOf]; omega
    · obtain rfl : k = L.length := by omega
      have HD2 : Hid (ChgMap L D) := Lib.hid (by have := HD.out; rwa [List.take_length] at this)
      clear HD
      obtain ⟨wo, rfl⟩ : ∃ W : World, W = wr := ⟨_, rfl⟩
      go_wp2_with (at_range; refine wpList_range_own _ rfl _ 83 rfl 3 3 keyI Try.underlying83 _ Bm _ D rfl hown ?_; intro w0 hrg0 hg0 hs0)
      go_frame
      have hC0 := hC.grown (hg0.but none) hC.size (fun j hj => by cases hj)
      have hBr : Bm < w0.heap.size := hrg0.owns.lt
      have hrr := hrg0.lt
      have hrW : Wa.heap.size ≤ wo.heap.size := hC.size
      generalize wo.heap.size = r at *
      clear hs0 hg0 hown hC
      obtain ⟨B0, hB0⟩ : ∃ b, w0.heap.size = b := ⟨_, rfl⟩
      have HC0 := Lib.hid (coll_start D)
      go_loopw [9, 10] (fun v _ wr => ∃ (left : Lit → Bool) (cnt : Nat) (ks : List Int), wr.ranges Try.prog 3 (plainElem Try.prog 3) Bm r (2 * L.length + 1) D left cnt ∧ wr.ownsRow B0 3 1 v ks.length (nflat ks) ∧ Hid (Coll D left ks) ∧ B0 ≤ wr.heap.size ∧ Below Wa.heap.size Wa wr) (fun _ _ wr => wr.rangeLeft Bm r)
      case atStart => exact ⟨_, _, [], hrg0, World.ownsRow_nil _ _ _ _, HC0, by omega, hC0⟩
      case round =>
        obtain ⟨left, cnt, ks, hrg, hrow, HCo, hBB, hC⟩ := hrel
        have hkl := coll_len HCo.out HD2.out
        clear hrg0 HC0 hC0
        go_wp2_with (at_next; refine wpList_next_ranges_ii _ rfl _ rfl 3 3 .i64 .i64 keyI Try.underlying3 Try.underlying3 Bm r _ _ _ _ rfl hrg ?_ ?_)
        · intro hc0 hl0
          have HK : Hid (sortI ks = keysF L) := Lib.hid (coll_end HCo.out HD2.out hl0)
          have hown := hrg.owns
          have hks : 0 < ks.length := by
            have h := congrArg List.length HK.out
            rw [sortI_len] at h
            have h0 : (0 : Int) ∈ keysF L := (keysF_mem L 0).2 (.inl rfl)
            have := List.length_pos_of_mem h0
            omega
          obtain ⟨pg, pcap, hve⟩ : ∃ g cap, u9 = .slice (some ⟨g, 0, none⟩) ks.length cap := by
            rcases hrow.2 with ⟨_, h0⟩ | ⟨g, cap, cur, e1, _⟩
            · omega
            · exact ⟨g, cap, e1⟩
          subst hve
          have hpg := (hrow.lt pg rfl).1
          clear hrg HCo hl0 hc0
          obtain ⟨wl, rfl⟩ : ∃ W : World, W = wr := ⟨_, rfl⟩
          go_upto_region 20 with (go_at_call 29; (with_reducible refine (sort_own hrow (by omega)).mono ?_); rintro e w6 ⟨rfl, hrow6, hg6⟩)
          have hown6 := hown.kept hg6 (fun e => by injection e with e; omega)
          have hC6 : Below Wa.heap.size Wa w6 := hC.grown hg6 hC.size (fun j hj => by cases hj; omega)
          have hkl : ks.length = (keysF L).length := by rw [← sortI_len, HK.out]
          rw [HK.out, hkl] at hrow6
          obtain ⟨na, ncap, hve, _, _, _, hN⟩ := num_of_row hrow6
          injection hve with hve1 hve2 hve3
          subst hve1 hve3
          have HN := Lib.hid hN
          have HKI := Lib.hid (keysF_incr L)
          have HKL := keysF_len L
          have HKM : Hid (∀ k, k < (keysF L).length → 0 ≤ ig (keysF L) k ∧ ig (keysF L) k ≤ len) := Lib.hid fun k hk => by
            have hm : ig (keysF L) k ∈ keysF L := by rw [ig_eq _ k hk]; exact List.getElem_mem hk
            rcases (keysF_mem L _).1 hm with h | ⟨s, hs, h | h⟩
            · omega
            · have := HOK.out s hs; omega
            · have := HOK.out s hs; omega
          clear hrow hrow6 hg6 hown hC hN hve2 HK hBB
          rw [hkl]
          clear hkl hks
          go_wp2_with fail
          go_loopw [11, 12, 63] (fun v n i wr => ∃ k : Nat, k ≤ (keysF L).length ∧ Hid (∀ j, j < k → ig (keysF L) j < len) ∧ i = .int .i64 k ∧ n = .int .i64 (nTo L (keysF L) k) ∧ wr.ownsRow w6.heap.size 57 2 v (spotK L ((keysF L).take k)).length (oflat (spotK L ((keysF L).take k))) ∧ Below w6.heap.size w6 wr) (fun _ _ i _ => (keysF L).length - (intOf i).toNat)
          case atStart => exact ⟨0, Nat.zero_le _, Lib.hid (fun j h => absurd h (Nat.not_lt_zero _)), rfl, rfl, World.ownsRow_nil _ _ _ _, Below.refl _ _⟩
          case round =>
            obtain ⟨k, hk, HLT, rfl, rfl, hrow, hD⟩ := hrel
            by_cases hlt : k < (keysF L).length
            · obtain ⟨b2, off2, hve, hb2, hcx⟩ := HN.out (by omega)
              injection hve with hve
              injection hve with hv1 hv2
              subst hv1 hv2
              have e0 := (hD.cell (p := ⟨pg, 0 + k, none⟩) hb2).trans (hcx k hlt)
              have hownr := map_below hown6 hD
              have hcl := (hD.cell (p := ⟨Bl, 0, none⟩) (Nat.lt_of_lt_of_le (World.block_lt_of_cell? _ _ c2) hC6.size)).trans ((hC6.cell (p := ⟨Bl, 0, none⟩) (World.block_lt_of_cell? _ _ c2)).trans c2)
              have hkm := HKM.out k hlt
              have hDs := hD.size
              have hnb := nTo_bd L (keysF L) k
              have hmul : k * L.length ≤ 2001 * 1000 := Nat.mul_le_mul (by omega) hl
              have hsum := nTo_keys HOK.out k hlt
              have hcb := chg_bd L (ig (keysF L) k)
              have HTK : Hid ((keysF L).take (k + 1) = (keysF L).take k ++ [ig (keysF L) k]) := Lib.hid (by rw [ig_eq _ k hlt]; exact List.take_succ_eq_append_getElem hlt)
              have HNS : Hid (nTo L (keysF L) (k + 1) = nTo L (keysF L) k + chg L (ig (keysF L) k)) := Lib.hid rfl
              rw [HNS.out] at hsum
              have hSl : (spotK L ((keysF L).take k)).length ≤ 3000 := Nat.le_trans (spotK_len _ _) (by rw [List.length_take]; omega)
              have HSP : Hid (spotK L ((keysF L).take (k + 1)) = spotS L (spotK L ((keysF L).take k)) (ig (keysF L) k)) := Lib.hid (by rw [HTK.out, spotK_snoc])
              obtain ⟨t, ht⟩ : ∃ t, ig (keysF L) k = t := ⟨_, rfl⟩
              obtain ⟨c, hc⟩ : ∃ c, chg L t = c := ⟨_, rfl⟩
              obtain ⟨N, hN⟩ : ∃ N, nTo L (keysF L) k = N := ⟨_, rfl⟩
              obtain ⟨S, hS⟩ : ∃ S, spotK L ((keysF L).take k) = S := ⟨_, rfl⟩
              have HT := Lib.hid ht
              have HA : Hid (∀ c', D.atKey (.int .i64 t) (.lit (.int .i64 0)) = .lit (.int .i64 c') → c' = c) := Lib.hid fun c' h => (chg_at HD2.out h).trans hc
              rw [ht, hc, hN] at hsum HNS
              rw [ht] at hcb HSP
              rw [hc] at hcb
              rw [ht] at e0 hkm
              rw [hN] at hnb ⊢
              rw [hS] at hrow hSl HSP
              have HS0 := Lib.hid hS
              have hNb : -2001000 ≤ N ∧ N ≤ 2001000 := by omega
              have hsum2 := Lib.hid hsum
              have wk : (Lit.int .i64 t).wf = true := WalkArith.wf_i64 (by omega)
              clear ht hc hN hS hcx hnb hsum hmul
              rw [Nat.zero_add] at e0
              obtain ⟨oa, ocap, rfl, _, _, _, hO⟩ := load_of_row hrow
              by_cases htl : t = len
              · have q1 : (t == len) = true := by simpa using htl
                have HF : Hid (S = spotsP len L) := Lib.hid (by
                  unfold spotsP
                  rw [← HS0.out, keys_take k HLT.out hk (.inr (HT.out.trans htl))])
                clear htl
                go_wp2_with (at_lookup; refine wpList_lookup_own_int _ rfl _ _ 83 rfl 3 3 .i64 keyI Try.underlying83 Try.underlying3 (zeroI _) Bm _ _ rfl hownr _ _ rfl (keyOf_int_mk Try.underlying3 wk) ?_; intro c' hat hwc; obtain rfl := (HA.out c' hat).symm; clear hat hwc)
                go_ret2
                have hfin := hW2.trans ((hC6.trans (hD.mono hC6.size)).mono hW2.size)
                have hz0 := Nat.le_trans hW2.size hC6.size
                have hfin0 := hfin
                have hz := hz0
                rw [hBl] at hfin hz
                refine ⟨Lib.hid ⟨_, rfl, ?_⟩, by first | exact hfin | exact hfin0⟩
                rw [← HF.out]
                first | exact own_base hrow hz | exact own_base hrow hz0
              · have q1 : (t == len) = false := by simpa using htl
                have hlen : t < len := by omega
                have HLT2 : Hid (∀ j, j < k + 1 → ig (keysF L) j < len) := Lib.hid fun j hj => by
                  rcases (show j < k ∨ j = k by omega) with l | l
                  · exact HLT.out j l
                  · subst l; rw [HT.out]; exact hlen
                clear htl
                by_cases hS0 : S.length = 0
                · have q2 : ((S.length : Int) == 0) = true := by rw [hS0]; rfl
                  have HST : Hid (spotS L S t = S ++ [(t, N + c)]) := Lib.hid (by
                    have : S = [] := List.length_eq_zero_iff.1 hS0
                    subst this
                    unfold spotS
                    rw [← hsum2.out]
                    rfl)
                  clear hS0
                  go_wp2_with (first
                    | (at_lookup; refine wpList_lookup_own_int _ rfl _ _ 83 rfl 3 3 .i64 keyI Try.underlying83 Try.underlying3 (zeroI _) Bm _ _ rfl hownr _ _ rfl (keyOf_int_mk Try.underlying3 wk) ?_; intro c' hat hwc; obtain rfl := (HA.out c' hat).symm; clear hat hwc)
                    | (at_builtin; refine load_append rfl _ _ rfl w6.heap.size _ S rfl (hrow.alloc _) _ (t, N + c) rfl (by simp) (by omega) (by first | omega | (simp <;> omega)) ?_; intro v5 w5 hown5 hg5))
                  have hD5 := (hD.alloc hD.size _).grown hg5 (by have := hD.size; simp; omega) (fun j hj => (hrow.lt _ hj).1)
                  go_roundw
                  case rel => exact ⟨k + 1, by omega, HLT2, by go_num, by rw [HNS.out], by rw [HSP.out, HST.out]; exact hown5, hD5⟩
                  case measure => simp [intOf]; omega
                · have q2 : ((S.length : Int) == 0) = false := beq_eq_false_iff_ne.2 (by omega)
                  obtain ⟨ob, ooff, rfl, hob, hoc⟩ := hO (by omega)
                  obtain ⟨_, o1⟩ := hoc (S.length - 1) (by omega)
                  have hS1 : (1 : Int) ≤ S.length := by omega
                  have s1 : IntKind.i64.wrap ((S.length : Int) - 1) = (S.length : Int) - 1 := IntWalk.i64_in _ (by omega)
                  have s2 : ((S.length : Int) - 1).toNat = S.length - 1 := by omega
                  obtain ⟨W, hWq⟩ : ∃ x, (og S (S.length - 1)).2 = x := ⟨_, rfl⟩
                  rw [hWq] at o1
                  by_cases hw : W = N + c
                  · have q3 : (W != N + c) = false := by simpa using hw
                    have HST : Hid (spotS L S t = S) := Lib.hid (spotS_same (by omega) (by rw [hWq, hw, hsum2.out]))
                    clear hw hS0 hoc hWq
                    go_wp2_with (first
                      | (at_lookup; refine wpList_lookup_own_int _ rfl _ _ 83 rfl 3 3 .i64 keyI Try.underlying83 Try.underlying3 (zeroI _) Bm _ _ rfl hownr _ _ rfl (keyOf_int_mk Try.underlying3 wk) ?_; intro c' hat hwc; obtain rfl := (HA.out c' hat).symm; clear hat hwc)
                      | (at_builtin; refine load_append rfl _ _ rfl w6.heap.size _ S rfl (hrow.alloc _) _ (t, N + c) rfl (by simp) (by omega) (by first | omega | (simp <;> omega)) ?_; intro v5 w5 hown5 hg5))
                    go_roundw
                    case rel => exact ⟨k + 1, by omega, HLT2, by go_num, by rw [HNS.out], by rw [HSP.out, HST.out]; exact hrow, hD⟩
                    case measure => simp [intOf]; omega
                  · have q3 : (W != N + c) = true := by simpa using hw
                    have HST : Hid (spotS L S t = S ++ [(t, N + c)]) := Lib.hid (by rw [hsum2.out]; exact spotS_new (by omega) (by rw [hWq, ← hsum2.out]; exact hw))
                    clear hw hS0 hoc hWq
                    go_wp2_with (first
                      | (at_lookup; refine wpList_lookup_own_int _ rfl _ _ 83 rfl 3 3 .i64 keyI Try.underlying83 Try.underlying3 (zeroI _) Bm _ _ rfl hownr _ _ rfl (keyOf_int_mk Try.underlying3 wk) ?_; intro c' hat hwc; obtain rfl := (HA.out c' hat).symm; clear hat hwc)
                      | (at_builtin; refine load_append rfl _ _ rfl w6.heap.size _ S rfl (hrow.alloc _) _ (t, N + c) rfl (by simp) (by omega) (by first | omega | (simp <;> omega)) ?_; intro v5 w5 hown5 hg5))
                    have hD5 := (hD.alloc hD.size _).grown hg5 (by have := hD.size; simp; omega) (fun j hj => (hrow.lt _ hj).1)
                    go_roundw
                    case rel => exact ⟨k + 1, by omega, HLT2, by go_num, by rw [HNS.out], by rw [HSP.out, HST.out]; exact hown5, hD5⟩
                    case measure => simp [intOf]; omega
            · obtain rfl : k = (keysF L).length := by omega
              have HF : Hid (spotK L ((keysF L).take (keysF L).length) = spotsP len L) := Lib.hid (by
                unfold spotsP
                rw [keys_take (keysF L).length HLT.out (Nat.le_refl _) (.inl rfl)])
              rw [HF.out] at hrow
              go_wp2_with fail
              go_ret2
              have hfin := hW2.trans ((hC6.trans (hD.mono hC6.size)).mono hW2.size)
              have hz0 := Nat.le_trans hW2.size hC6.size
              have hfin0 := hfin
              have hz := hz0
              rw [hBl] at hfin hz
              exact ⟨Lib.hid ⟨_, rfl, by first | exact own_base hrow hz | exact own_base hrow hz0⟩, by first | exact hfin | exact hfin0⟩
        · intro x c w1 cnt1 hwx hwc hlx hat hrg1 hlt1 hg1 hs1 hen
          have HCN := Lib.hid (coll_step HCo.out hlx (has_true_of_atKey hat))
          have hrow1 := hrow.kept hg1 (by rcases ho : Value.ownBlock u9 with _ | k; exact .inl rfl; exact .inr (fun e => by have := (hrow.lt k ho).1; injection e with e; omega))
          have hC1 := hC.grown hg1 hC.size (fun j hj => by cases hj; omega)
          have hBB1 : B0 ≤ w1.heap.size := by omega
          clear hs1
          go_wp2_with (at_builtin; refine num_append rfl _ _ rfl B0 _ ks rfl (hrow1.alloc _) _ x rfl (by simp) (by omega) (by first | omega | (simp <;> omega)) ?_; intro v5 w5 hown5 hg5)
          have hrg5 := (hrg1.alloc (.cells #[.int .i64 x] 3)).kept hg5 (fun e => by have := (hrow1.lt _ e.symm).1; omega) (fun e => by have := (hrow1.lt _ e.symm).1; omega)
          have hC5 : Below Wa.heap.size Wa w5 := (hC1.alloc hC1.size (.cells #[.int .i64 x] 3)).grown hg5 (by have := hC1.size; simp; omega) (fun j hj => by have := (hrow1.lt _ hj).1; omega)
          have hz5 : B0 ≤ w5.heap.size := Nat.le_trans (by simp; omega) hg5.size
          go_roundw
          case rel => exact ⟨_, cnt1, _, hrg5, hown5, HCN, hz5, hC5⟩
          case measure => rw [hrg5.left_eq, hrg.left_eq]; exact hlt1
end Go.Proofs.Ythldfijlcoobgaa
namespace Go.Proofs.Ythldfijlcoobgaa
open Go.RowKit Go.Shelf Go.Maps
set_option maxRecDepth 100000 in
set_option maxHeartbeats 16000000 in
theorem spots_bad (len : Int) (a : Option Addr) (L : List (Int × Int)) (cap : Nat) (w : World) (hl : L.length ≤ 1000000) (h : Spans w.heap.size w a L) (he : ¬ spotsE len L = 0) :
    Calls Try.prog 11 #[.int .i64 len, .slice a L.length cap] w fun e w' => e = .returned (.tuple #[.slice none 0 0, .int .i64 (spotsE len L)]) ∧ Below w.heap.size w w' := by
  have HS := Lib.hid h
  have hW0 := below_new w (.cells #[.int .i64 len] 3)
  obtain ⟨R, hR⟩ : ∃ R, spotsE len L = R := ⟨_, rfl⟩
  have HR := Lib.hid hR
  rw [hR]
  by_cases q1 : len < 1
  · obtain rfl : R = 2 := by rw [← hR]; unfold spotsE; rw [if_pos (Or.inl q1)]
    have g1 := decide_eq_true q1
    clear hR he h HS HR
    go_enter Try.func11, Try.ntmps11
    go_wp2_with fail
    go_ret2
    exact ⟨rfl, hW0⟩
  · have g1 := decide_eq_false q1
    by_cases q2 : 1048576 < len
    · obtain rfl : R = 2 := by rw [← hR]; unfold spotsE; rw [if_pos (Or.inr q2)]
      have g2 := decide_eq_true q2
      clear hR he h HS HR q1
      go_enter Try.func11, Try.ntmps11
      go_wp2_with fail
      go_ret2
      exact ⟨rfl, hW0⟩
    · have g2 := decide_eq_false q2
      by_cases q3 : 1000 < L.length
      · obtain rfl : R = 4 := by rw [← hR]; unfold spotsE; rw [if_neg (by omega), if_pos q3]
        have g3 : decide ((1000 : Int) < L.length) = true := decide_eq_true (by omega)
        clear hR he h HS HR q1 q2
        go_enter Try.func11, Try.ntmps11
        go_wp2_with fail
        go_ret2
        exact ⟨rfl, hW0⟩
      · have g3 : decide ((1000 : Int) < L.length) = false := decide_eq_false (by omega)
        have hany : L.any (spanBad len) = true := by
          by_cases q : L.any (spanBad len) = true
          · exact q
          · exact absurd (by unfold spotsE; rw [if_neg (by omega), if_neg q3, if_neg q]) he
        obtain rfl : R = 1 := by rw [← hR]; unfold spotsE; rw [if_neg (by omega), if_neg q3, if_pos hany]
        have HAN : Hid (span_any L (spanBad len) = true) := Lib.hid (by rw [span_any_eq]; exact hany)
        have hl3 : L.length ≤ 1000 := by omega
        clear hR he h HR hany q1 q2 q3
        have c0 : (w.alloc (.cells #[.int .i64 len] 3)).cell? ⟨w.heap.size, 0, none⟩ = some (.int .i64 len) := by simp
        have hz0 : w.heap.size < (w.alloc (.cells #[.int .i64 len] 3)).heap.size := by simp
        go_enter Try.func11, Try.ntmps11
        go_upto_region 1 with (fail)
        obtain ⟨Bl, hBl⟩ : ∃ b, w.heap.size = b := ⟨_, rfl⟩
        rw [hBl] at c0 hz0
        simp only [hBl]
        generalize w.alloc (.cells #[.int .i64 len] 3) = W0 at *
        go_wp2_with (go_at_call 27; (with_reducible refine (span_containsFunc _ L _ _ _ _ (spanBad len) _ ent_spanBad (by omega) (Nat.le_refl _) (HS.out.grow hW0) (asks_spanBad Bl len _ _ hz0 c0)).mono ?_); rintro e w2 ⟨rfl, hb2⟩; rw [HAN.out])
        go_ret2
        have hfin := hW0.trans (hb2.mono hW0.size)
        exact ⟨rfl, by first | exact hfin | (rw [← hBl]; exact hfin)⟩
theorem spots_any {H : Type} (len : Int) (a : Option Addr) (L : List (Int × Int)) (cap : Nat) (w : World) (hl : L.length ≤ 1000000) (h : Spans w.heap.size w a L) :
    Calls Try.prog 11 #[.int .i64 len, .slice a L.length cap] w fun e w' => Hid (∃ v, e = .returned (.tuple #[v, .int .i64 (spotsE len L)]) ∧ (spotsE len L = 0 → w'.ownsRow w.heap.size 57 2 v (spotsP len L).length (oflat (spotsP len L))) ∧ (¬ spotsE len L = 0 → v = .slice none 0 0)) ∧ Below w.heap.size w w' := by
  by_cases he : spotsE len L = 0
  · refine (spots_good (H := H) len a L cap w h he).mono ?_
    rintro e w' ⟨hv, hb⟩
    obtain ⟨v, rfl, hr⟩ := hv.out
    exact ⟨Lib.hid ⟨v, by rw [he], fun _ => hr, fun q => absurd he q⟩, hb⟩
  · refine (spots_bad len a L cap w hl h he).mono ?_
    rintro e w' ⟨rfl, hb⟩
    exact ⟨Lib.hid ⟨_, rfl, fun q => absurd q he, fun _ => rfl⟩, hb⟩
end Go.Proofs.Ythldfijlcoobgaa
namespace Go.Proofs.Ythldfijlcoobgaa
open Go.RowKit Go.Shelf
def wM : List Int := [0, 500, 500, 200, 800]
def wS : List (Int × Int) := [(0, 300), (200, 1000)]
def wO : List (Int × Int) := [(0, 1), (200, 2), (300, 1)]
theorem wear46 : wearP (exL 5) wM = (4200, 0) := by decide +kernel
theorem places46 : placesE wM = 0 := by decide +kernel
theorem turns46 : turnsP wM = 2 := by decide +kernel
theorem spotsE46 : spotsE 1000 wS = 0 := by decide +kernel
theorem spots46 : spotsP 1000 wS = wO := by decide +kernel
theorem left46 : leftOK 3 10 := by decide +kernel
theorem nums_new (w : World) (n : Nat) (L : List Int) (h : n = L.length) (hl : n ≤ 1000) : Nums (w.alloc (.cells (nflat L).toArray 3)).heap.size (w.alloc (.cells (nflat L).toArray 3)) (some ⟨w.heap.size, 0, none⟩) L := by
  subst h
  obtain ⟨a, cap, e, _, _, _, hc⟩ := num_of_row (World.ownsRow_lit (base := 0) (e := 3) (size := 1) w (nflat L).toArray L.length (Nat.zero_le _) (by unfold maxLen; omega) (by simp [num_len]))
  cases e
  exact hc
theorem spans_new (w : World) (n : Nat) (L : List (Int × Int)) (h : n = L.length) (hl : n ≤ 1000) : Spans (w.alloc (.cells (sflat L).toArray 52)).heap.size (w.alloc (.cells (sflat L).toArray 52)) (some ⟨w.heap.size, 0, none⟩) L := by
  subst h
  obtain ⟨a, cap, e, _, _, _, hc⟩ := span_of_row (World.ownsRow_lit (base := 0) (e := 52) (size := 2) w (sflat L).toArray L.length (Nat.zero_le _) (by unfold maxLen; omega) (by simp [span_len]))
  cases e
  exact hc
theorem loads_new (w : World) (n : Nat) (L : List (Int × Int)) (h : n = L.length) (hl : n ≤ 1000) : Loads (w.alloc (.cells (oflat L).toArray 57)).heap.size (w.alloc (.cells (oflat L).toArray 57)) (some ⟨w.heap.size, 0, none⟩) L := by
  subst h
  obtain ⟨a, cap, e, _, _, _, hc⟩ := load_of_row (World.ownsRow_lit (base := 0) (e := 57) (size := 2) w (oflat L).toArray L.length (Nat.zero_le _) (by unfold maxLen; omega) (by simp [load_len]))
  cases e
  exact hc
theorem wear_ex (a a2 : Option Addr) (cap : Nat) (w : World) (h : Holds w.heap.size w a (exL 5)) (h2 : Nums w.heap.size w a2 wM) :
    Calls Try.prog 8 #[.agg #[.string ⟨#[114]⟩, .slice a 5 cap, .bool false], .slice a2 5 5] w fun e w' => e = .returned (.tuple #[.int .i64 4200, .int .i64 0]) ∧ Below w.heap.size w w' := by
  have h := wear_any ⟨#[114]⟩ a (exL 5) cap false a2 wM 5 w (by decide) (by decide) h h2
  rw [wear46] at h
  exact h
theorem turns_ex (a2 : Option Addr) (w : World) (h2 : Nums w.heap.size w a2 wM) :
    Calls Try.prog 10 #[.slice a2 5 5] w fun e w' => e = .returned (.tuple #[.int .i64 2, .int .i64 0]) ∧ Below w.heap.size w w' := by
  have h := turns_any a2 wM 5 w (by decide) h2
  rw [places46, turns46, if_pos rfl] at h
  exact h
theorem spots_ex (a2 : Option Addr) (w : World) (h2 : Spans w.heap.size w a2 wS) :
    Calls Try.prog 11 #[.int .i64 1000, .slice a2 2 2] w fun e w' => Hid (∃ a c, e = .returned (.tuple #[.slice a 3 c, .int .i64 0]) ∧ Loads w'.heap.size w' a wO) ∧ Below w.heap.size w w' := by
  refine (spots_any (H := Unit) 1000 a2 wS 2 w (by decide) h2).mono fun e w' ⟨h, hb⟩ => ⟨?_, hb⟩
  obtain ⟨v, he, h1, _⟩ := h.out
  rw [spotsE46, spots46] at h1
  obtain ⟨a, c, rfl, _, _, _, hL⟩ := load_of_row (h1 rfl)
  rw [spotsE46] at he
  exact Lib.hid ⟨a, c, he, hL⟩
theorem left_ex (w : World) :
    Calls Try.prog 12 #[.int .i64 3, .int .i64 10] w fun e w' => e = .returned (.tuple #[.int .i64 7, .int .i64 0]) ∧ Below w.heap.size w w' := by
  have h := left_any 3 10 w
  rw [if_pos left46, if_pos left46] at h
  exact h
theorem eq_ex (a1 a2 : Option Addr) (c1 : Nat) (w : World) (h1 : Loads w.heap.size w a1 wO) (h2 : Loads w.heap.size w a2 wO) :
    Calls Try.prog 13 #[.slice a1 3 c1, .slice a2 3 3] w fun e w' => e = .returned (.bool true) ∧ Below w.heap.size w w' :=
  (load_equal a1 a2 wO wO c1 3 w (by decide) h1 h2 (by decide)).mono fun e w' h => by rw [decide_eq_true rfl] at h; exact h
set_option maxRecDepth 100000 in
set_option maxHeartbeats 8000000 in
theorem awake_any (w : World) : Calls Try.prog 4 #[] w fun e w' => e = .returned (.bool true) ∧ Below w.heap.size w w' := by
  have HM : Hid (∀ w : World, Nums (w.alloc (.cells #[.int .i64 0, .int .i64 500, .int .i64 500, .int .i64 200, .int .i64 800] 3)).heap.size (w.alloc (.cells #[.int .i64 0, .int .i64 500, .int .i64 500, .int .i64 200, .int .i64 800] 3)) (some ⟨w.heap.size, 0, none⟩) wM) := Lib.hid fun w => nums_new w 5 wM rfl (by decide)
  have HS : Hid (∀ w : World, Spans (w.alloc (.cells #[.int .i64 0, .int .i64 300, .int .i64 200, .int .i64 1000] 52)).heap.size (w.alloc (.cells #[.int .i64 0, .int .i64 300, .int .i64 200, .int .i64 1000] 52)) (some ⟨w.heap.size, 0, none⟩) wS) := Lib.hid fun w => spans_new w 2 wS rfl (by decide)
  have HO : Hid (∀ w : World, Loads (w.alloc (.cells #[.int .i64 0, .int .i64 1, .int .i64 200, .int .i64 2, .int .i64 300, .int .i64 1] 57)).heap.size (w.alloc (.cells #[.int .i64 0, .int .i64 1, .int .i64 200, .int .i64 2, .int .i64 300, .int .i64 1] 57)) (some ⟨w.heap.size, 0, none⟩) wO) := Lib.hid fun w => loads_new w 3 wO rfl (by decide)
  go_enter Try.func4, Try.ntmps4
  go_wp2_with (first
    | (go_at_call 9; (with_reducible refine (example_any _).mono ?_); rintro e w1 ⟨hx, hb1⟩; obtain ⟨ra, rc, rfl, hR⟩ := hx.out; have HB1 := Lib.hid hb1; have HR := Lib.hid hR; clear hx hb1 hR)
    | (go_at_call 8; (with_reducible refine (wear_ex _ _ _ _ (HR.out.grow (below_new _ _)) (HM.out _)).mono ?_); rintro e w2 ⟨rfl, hb2⟩; have HB2 := Lib.hid (HB1.out.trans ((mono_in _ hb2).mono HB1.out.size)); clear hb2)
    | (go_at_call 10; (with_reducible refine (turns_ex _ _ (HM.out _)).mono ?_); rintro e w3 ⟨rfl, hb3⟩; have HB3 := Lib.hid (HB2.out.trans ((mono_in _ hb3).mono HB2.out.size)); clear hb3)
    | (go_at_call 11; (with_reducible refine (spots_ex _ _ (HS.out _)).mono ?_); rintro e w4 ⟨hx, hb4⟩; obtain ⟨sa, sc, rfl, hS⟩ := hx.out; have HS4 := Lib.hid hS; have HB4 := Lib.hid (HB3.out.trans ((mono_in _ hb4).mono HB3.out.size)); clear hx hS hb4)
    | (go_at_call 12; (with_reducible refine (left_ex _).mono ?_); rintro e w5 ⟨rfl, hb5⟩; have HS5 := Lib.hid (HS4.out.grow hb5); have HB5 := Lib.hid (HB4.out.trans (hb5.mono HB4.out.size)); clear hb5)
    | (go_at_call 13; (with_reducible refine (eq_ex _ _ _ _ (HS5.out.grow (below_new _ _)) (HO.out _)).mono ?_); rintro e w6 ⟨rfl, hb6⟩; have HB6 := Lib.hid (HB5.out.trans ((mono_in _ hb6).mono HB5.out.size)); clear hb6))
  go_ret
  exact ⟨rfl, HB6.out⟩
end Go.Proofs.Ythldfijlcoobgaa
namespace Go.Proofs.Ythldfijlcoobgaa
open Go.RowKit Go.Shelf
attribute [local go_sem] Oper.semAt_some
theorem sheetAt_new (w : World) (s : SheetR) (t : TypeId) (n : Nat) (hn : w.heap.size = n) : SheetAt (w.alloc (.cells #[.slice s.ca s.cues.length s.cc, .slice s.pa s.pairs.length s.pc] t)) n s := by subst hn; unfold SheetAt; simp
theorem cg_app (C D : List CueR) (i : Nat) (h : i < (C ++ D).length) : (i < C.length ∧ cg (C ++ D) i = cg C i) ∨ (C.length ≤ i ∧ i - C.length < D.length ∧ cg (C ++ D) i = cg D (i - C.length)) := by
  rw [List.length_append] at h
  rcases Nat.lt_or_ge i C.length with l | l
  · exact .inl ⟨l, by unfold cg; rw [List.getElem?_append_left l]⟩
  · exact .inr ⟨l, by omega, by unfold cg; rw [List.getElem?_append_right l]⟩
theorem sheets_both {w : World} {c d : SheetR} {a : Option Addr} {cap : Nat} (hc : SheetIn0 w c) (hd : SheetIn0 w d) (h : Cues w.heap.size w a (c.cues ++ d.cues)) (k1 : (c.cues ++ d.cues).length ≤ cap) (k2 : a = none → cap = 0) : SheetIn0 w ⟨a, c.cues ++ d.cues, cap, none, [], 0⟩ := by
  refine ⟨h, fun i hi => ?_, Pairs.nil, k1, k2, fun i hi => ?_, fun i hi => ?_, Nat.le_refl _, fun _ => rfl⟩
  · show Movs _ _ (cg (c.cues ++ d.cues) i).ma (cg (c.cues ++ d.cues) i).moves
    rcases cg_app _ _ i hi with ⟨l, e⟩ | ⟨_, l, e⟩
    · rw [e]; exact hc.each i l
    · rw [e]; exact hd.each _ l
  · show (cg (c.cues ++ d.cues) i).moves.length ≤ (cg (c.cues ++ d.cues) i).mc
    rcases cg_app _ _ i hi with ⟨l, e⟩ | ⟨_, l, e⟩
    · rw [e]; exact hc.mcap i l
    · rw [e]; exact hd.mcap _ l
  · show (cg (c.cues ++ d.cues) i).ma = none → (cg (c.cues ++ d.cues) i).mc = 0
    rcases cg_app _ _ i hi with ⟨l, e⟩ | ⟨_, l, e⟩
    · rw [e]; exact hc.mnil i l
    · rw [e]; exact hd.mnil _ l
theorem moves_both {C D : List CueR} (hc : ∀ i, i < C.length → (cg C i).moves.length ≤ 1000) (hd : ∀ i, i < D.length → (cg D i).moves.length ≤ 1000) (i : Nat) (hi : i < (C ++ D).length) : (cg (C ++ D) i).moves.length ≤ 1000 := by
  rcases cg_app _ _ i hi with ⟨l, e⟩ | ⟨_, l, e⟩
  · rw [e]; exact hc i l
  · rw [e]; exact hd _ l
set_option maxRecDepth 100000 in
set_option maxHeartbeats 16000000 in
theorem sheets_law (h : HouseR) (c d : SheetR) (w : World) (hh : HouseIn0 w h) (hc : SheetIn0 w c) (hd : SheetIn0 w d) :
    Calls Try.prog 3 #[.agg #[.string h.name, .int .i64 h.height, .slice h.sa h.sets.length h.sc, .slice h.ra h.roofs.length h.rc], .agg #[.slice c.ca c.cues.length c.cc, .slice c.pa c.pairs.length c.pc], .agg #[.slice d.ca d.cues.length d.cc, .slice d.pa d.pairs.length d.pc]] w fun e w' => e = .returned (.bool true) ∧ Below w.heap.size w w' := by
  have hb0 : Below w.heap.size w (((w.alloc (.cells #[.string h.name, .int .i64 h.height, .slice h.sa h.sets.length h.sc, .slice h.ra h.roofs.length h.rc] 25)).alloc (.cells #[.slice c.ca c.cues.length c.cc, .slice c.pa c.pairs.length c.pc] 29)).alloc (.cells #[.slice d.ca d.cues.length d.cc, .slice d.pa d.pairs.length d.pc] 29)) := ((below_new w _).alloc (by simp) _).alloc (by simp; omega) _
  have HX : Hid (∀ w', Below (((w.alloc (.cells #[.string h.name, .int .i64 h.height, .slice h.sa h.sets.length h.sc, .slice h.ra h.roofs.length h.rc] 25)).alloc (.cells #[.slice c.ca c.cues.length c.cc, .slice c.pa c.pairs.length c.pc] 29)).alloc (.cells #[.slice d.ca d.cues.length d.cc, .slice d.pa d.pairs.length d.pc] 29)).heap.size (((w.alloc (.cells #[.string h.name, .int .i64 h.height, .slice h.sa h.sets.length h.sc, .slice h.ra h.roofs.length h.rc] 25)).alloc (.cells #[.slice c.ca c.cues.length c.cc, .slice c.pa c.pairs.length c.pc] 29)).alloc (.cells #[.slice d.ca d.cues.length d.cc, .slice d.pa d.pairs.length d.pc] 29)) w' → HouseAt w' w.heap.size h ∧ SheetAt w' (w.heap.size + 1) c ∧ SheetAt w' (w.heap.size + 2) d ∧ HouseIn0 w' h ∧ SheetIn0 w' c ∧ SheetIn0 w' d) := Lib.hid fun w' q =>
    ⟨((((HouseAt.new w h _).carry (below_new _ _)).carry (below_new _ _)).carry q), (((sheetAt_new (w.alloc _) c _ _ (by simp)).carry (below_new _ _)).carry q), ((sheetAt_new ((w.alloc _).alloc _) d _ _ (by simp)).carry q), (hh.grow hb0).grow q, (hc.grow hb0).grow q, (hd.grow hb0).grow q⟩
  have HW : Hid (∀ w', Below (((w.alloc (.cells #[.string h.name, .int .i64 h.height, .slice h.sa h.sets.length h.sc, .slice h.ra h.roofs.length h.rc] 25)).alloc (.cells #[.slice c.ca c.cues.length c.cc, .slice c.pa c.pairs.length c.pc] 29)).alloc (.cells #[.slice d.ca d.cues.length d.cc, .slice d.pa d.pairs.length d.pc] 29)).heap.size (((w.alloc (.cells #[.string h.name, .int .i64 h.height, .slice h.sa h.sets.length h.sc, .slice h.ra h.roofs.length h.rc] 25)).alloc (.cells #[.slice c.ca c.cues.length c.cc, .slice c.pa c.pairs.length c.pc] 29)).alloc (.cells #[.slice d.ca d.cues.length d.cc, .slice d.pa d.pairs.length d.pc] 29)) w' → Below w.heap.size w w') := Lib.hid fun w' q => hb0.trans (q.mono hb0.size)
  have hsz := hb0.size
  clear hh hc hd hb0
  cases hbc : bigB h c
  case true =>
    have HBC := Lib.hid hbc
    clear hbc
    go_enter Try.func3, Try.ntmps3
    go_upto_region 1 with (fail)
    obtain ⟨W0, hW0⟩ : ∃ W0 : World, ((w.alloc (.cells #[.string h.name, .int .i64 h.height, .slice h.sa h.sets.length h.sc, .slice h.ra h.roofs.length h.rc] 25)).alloc (.cells #[.slice c.ca c.cues.length c.cc, .slice c.pa c.pairs.length c.pc] 29)).alloc (.cells #[.slice d.ca d.cues.length d.cc, .slice d.pa d.pairs.length d.pc] 29) = W0 := ⟨_, rfl⟩
    simp only [hW0] at HX HW hsz ⊢
    clear hW0
    obtain ⟨B1, hB1⟩ : ∃ b, w.heap.size = b := ⟨_, rfl⟩
    obtain ⟨B2, hB2⟩ : ∃ b, w.heap.size + 1 = b := ⟨_, rfl⟩
    obtain ⟨B3, hB3⟩ : ∃ b, w.heap.size + 2 = b := ⟨_, rfl⟩
    rw [hB3, hB2] at HX ⊢
    rw [hB1] at HX ⊢
    clear hB1 hB2 hB3
    go_wp2_with (first
      | (go_at_call 4; (with_reducible refine (awake_any _).mono ?_); rintro e w1 ⟨rfl, hb1⟩; obtain ⟨⟨a0, a1, a2, a3⟩, ⟨s0, s1⟩, ⟨t0, t1⟩, -, -, -⟩ := HX.out _ hb1)
      | (go_at_call 5; (with_reducible refine (big_any h c _ (HX.out _ hb1).2.2.2.1 (HX.out _ hb1).2.2.2.2.1).mono ?_); rintro e w2 ⟨rfl, hb2⟩; rw [HBC.out]; have hq2 := hb1.trans (hb2.mono hb1.size)))
    go_ret
    exact ⟨rfl, HW.out _ hq2⟩
  have HBC := Lib.hid hbc
  clear hbc
  cases hbd : bigB h d
  case true =>
    have HBD := Lib.hid hbd
    clear hbd
    go_enter Try.func3, Try.ntmps3
    go_upto_region 1 with (fail)
    obtain ⟨W0, hW0⟩ : ∃ W0 : World, ((w.alloc (.cells #[.string h.name, .int .i64 h.height, .slice h.sa h.sets.length h.sc, .slice h.ra h.roofs.length h.rc] 25)).alloc (.cells #[.slice c.ca c.cues.length c.cc, .slice c.pa c.pairs.length c.pc] 29)).alloc (.cells #[.slice d.ca d.cues.length d.cc, .slice d.pa d.pairs.length d.pc] 29) = W0 := ⟨_, rfl⟩
    simp only [hW0] at HX HW hsz ⊢
    clear hW0
    obtain ⟨B1, hB1⟩ : ∃ b, w.heap.size = b := ⟨_, rfl⟩
    obtain ⟨B2, hB2⟩ : ∃ b, w.heap.size + 1 = b := ⟨_, rfl⟩
    obtain ⟨B3, hB3⟩ : ∃ b, w.heap.size + 2 = b := ⟨_, rfl⟩
    rw [hB3, hB2] at HX ⊢
    rw [hB1] at HX ⊢
    clear hB1 hB2 hB3
    go_upto_region 3 with (go_at_call 4; (with_reducible refine (awake_any _).mono ?_); rintro e w1 ⟨rfl, hb1⟩; obtain ⟨⟨a0, a1, a2, a3⟩, ⟨s0, s1⟩, ⟨t0, t1⟩, -, -, -⟩ := HX.out _ hb1)
    go_wp2_with (first
      | (go_at_call 5; (with_reducible refine (big_any h c _ (HX.out _ hb1).2.2.2.1 (HX.out _ hb1).2.2.2.2.1).mono ?_); rintro e w2 ⟨rfl, hb2⟩; rw [HBC.out]; have hq2 := hb1.trans (hb2.mono hb1.size); obtain ⟨⟨x0, x1, x2, x3⟩, -, ⟨z0, z1⟩, -, -, -⟩ := HX.out _ hq2)
      | (go_at_call 5; (with_reducible refine (big_any h d _ (HX.out _ hq2).2.2.2.1 (HX.out _ hq2).2.2.2.2.2).mono ?_); rintro e w3 ⟨rfl, hb3⟩; rw [HBD.out]; have hq3 := hq2.trans (hb3.mono hq2.size)))
    go_ret
    exact ⟨rfl, HW.out _ hq3⟩
  have HBD := Lib.hid hbd
  clear hbd
  obtain ⟨sm, lc, mc⟩ := big_no HBC.out
  obtain ⟨_, ld, md⟩ := big_no HBD.out
  have HXR : Hid (∀ w', Below (((w.alloc (.cells #[.string h.name, .int .i64 h.height, .slice h.sa h.sets.length h.sc, .slice h.ra h.roofs.length h.rc] 25)).alloc (.cells #[.slice c.ca c.cues.length c.cc, .slice c.pa c.pairs.length c.pc] 29)).alloc (.cells #[.slice d.ca d.cues.length d.cc, .slice d.pa d.pairs.length d.pc] 29)).heap.size (((w.alloc (.cells #[.string h.name, .int .i64 h.height, .slice h.sa h.sets.length h.sc, .slice h.ra h.roofs.length h.rc] 25)).alloc (.cells #[.slice c.ca c.cues.length c.cc, .slice c.pa c.pairs.length c.pc] 29)).alloc (.cells #[.slice d.ca d.cues.length d.cc, .slice d.pa d.pairs.length d.pc] 29)) w' → HouseIn w' h) := Lib.hid fun w' q => smallH_in (by omega) (HX.out w' q).2.2.2.1 sm
  have HMC : Hid (∀ i, i < c.cues.length → (cg c.cues i).moves.length ≤ 1000) := Lib.hid fun i hi => by have := (mc i hi).1; omega
  have HMD : Hid (∀ i, i < d.cues.length → (cg d.cues i).moves.length ≤ 1000) := Lib.hid fun i hi => by have := (md i hi).1; omega
  have hsl : h.sets.length ≤ 1000 := by have := sm.1; omega
  clear sm mc md
  by_cases hE : runsE h c.cues = 0
  case neg =>
    obtain ⟨E, hEE⟩ : ∃ E, runsE h c.cues = E := ⟨_, rfl⟩
    rw [hEE] at hE
    have HE := Lib.hid hEE
    have g1 : (E != 0) = true := bne_iff_ne.2 hE
    clear hEE hE
    go_enter Try.func3, Try.ntmps3
    go_upto_region 1 with (fail)
    obtain ⟨W0, hW0⟩ : ∃ W0 : World, ((w.alloc (.cells #[.string h.name, .int .i64 h.height, .slice h.sa h.sets.length h.sc, .slice h.ra h.roofs.length h.rc] 25)).alloc (.cells #[.slice c.ca c.cues.length c.cc, .slice c.pa c.pairs.length c.pc] 29)).alloc (.cells #[.slice d.ca d.cues.length d.cc, .slice d.pa d.pairs.length d.pc] 29) = W0 := ⟨_, rfl⟩
    simp only [hW0] at HX HXR HW hsz ⊢
    clear hW0
    obtain ⟨B1, hB1⟩ : ∃ b, w.heap.size = b := ⟨_, rfl⟩
    obtain ⟨B2, hB2⟩ : ∃ b, w.heap.size + 1 = b := ⟨_, rfl⟩
    obtain ⟨B3, hB3⟩ : ∃ b, w.heap.size + 2 = b := ⟨_, rfl⟩
    rw [hB3, hB2] at HX ⊢
    rw [hB1] at HX ⊢
    clear hB1 hB2 hB3
    go_upto_region 3 with (go_at_call 4; (with_reducible refine (awake_any _).mono ?_); rintro e w1 ⟨rfl, hb1⟩; obtain ⟨⟨a0, a1, a2, a3⟩, ⟨s0, s1⟩, ⟨t0, t1⟩, -, -, -⟩ := HX.out _ hb1)
    go_upto_region 5 with (first
      | (go_at_call 5; (with_reducible refine (big_any h c _ (HX.out _ hb1).2.2.2.1 (HX.out _ hb1).2.2.2.2.1).mono ?_); rintro e w2 ⟨rfl, hb2⟩; rw [HBC.out]; have hq2 := hb1.trans (hb2.mono hb1.size); obtain ⟨⟨x0, x1, x2, x3⟩, -, ⟨z0, z1⟩, -, -, -⟩ := HX.out _ hq2)
      | (go_at_call 5; (with_reducible refine (big_any h d _ (HX.out _ hq2).2.2.2.1 (HX.out _ hq2).2.2.2.2.2).mono ?_); rintro e w3 ⟨rfl, hb3⟩; rw [HBD.out]; have hq3 := hq2.trans (hb3.mono hq2.size); obtain ⟨⟨y0, y1, y2, y3⟩, ⟨s0', s1'⟩, ⟨t0', t1'⟩, -, -, -⟩ := HX.out _ hq3))
    go_upto_region 7 with (first
      | (go_at_call 6; (with_reducible refine (runs_any h c _ (HXR.out _ hq3) (HX.out _ hq3).2.2.2.2.1 (by omega) HMC.out).mono ?_); rintro e w4 ⟨hx4, hb4⟩; rw [HE.out] at hx4; obtain ⟨v4, c4, rfl, hv4⟩ := hx4.out; have HV4 := Lib.hid hv4; clear hv4 hx4; have hq4 := hq3.trans (hb4.mono hq3.size); obtain ⟨⟨p0, p1, p2, p3⟩, -, ⟨q0, q1⟩, -, -, -⟩ := HX.out _ hq4)
      | (go_at_call 6; (with_reducible refine (runs_any h d _ (HXR.out _ hq4) (HX.out _ hq4).2.2.2.2.2 (by omega) HMD.out).mono ?_); rintro e w5 ⟨hx5, hb5⟩; obtain ⟨v5, c5, rfl, hv5⟩ := hx5.out; have HV5 := Lib.hid hv5; clear hv5 hx5; have hq5 := hq4.trans (hb5.mono hq4.size)))
    go_wp2_with fail
    go_ret
    exact ⟨rfl, HW.out _ hq5⟩
  by_cases hF : runsE h d.cues = 0
  case neg =>
    have HE := Lib.hid hE
    obtain ⟨F, hFF⟩ : ∃ F, runsE h d.cues = F := ⟨_, rfl⟩
    rw [hFF] at hF
    have HF := Lib.hid hFF
    have g1 : (F != 0) = true := bne_iff_ne.2 hF
    clear hFF hF hE
    go_enter Try.func3, Try.ntmps3
    go_upto_region 1 with (fail)
    obtain ⟨W0, hW0⟩ : ∃ W0 : World, ((w.alloc (.cells #[.string h.name, .int .i64 h.height, .slice h.sa h.sets.length h.sc, .slice h.ra h.roofs.length h.rc] 25)).alloc (.cells #[.slice c.ca c.cues.length c.cc, .slice c.pa c.pairs.length c.pc] 29)).alloc (.cells #[.slice d.ca d.cues.length d.cc, .slice d.pa d.pairs.length d.pc] 29) = W0 := ⟨_, rfl⟩
    simp only [hW0] at HX HXR HW hsz ⊢
    clear hW0
    obtain ⟨B1, hB1⟩ : ∃ b, w.heap.size = b := ⟨_, rfl⟩
    obtain ⟨B2, hB2⟩ : ∃ b, w.heap.size + 1 = b := ⟨_, rfl⟩
    obtain ⟨B3, hB3⟩ : ∃ b, w.heap.size + 2 = b := ⟨_, rfl⟩
    rw [hB3, hB2] at HX ⊢
    rw [hB1] at HX ⊢
    clear hB1 hB2 hB3
    go_upto_region 3 with (go_at_call 4; (with_reducible refine (awake_any _).mono ?_); rintro e w1 ⟨rfl, hb1⟩; obtain ⟨⟨a0, a1, a2, a3⟩, ⟨s0, s1⟩, ⟨t0, t1⟩, -, -, -⟩ := HX.out _ hb1)
    go_upto_region 5 with (first
      | (go_at_call 5; (with_reducible refine (big_any h c _ (HX.out _ hb1).2.2.2.1 (HX.out _ hb1).2.2.2.2.1).mono ?_); rintro e w2 ⟨rfl, hb2⟩; rw [HBC.out]; have hq2 := hb1.trans (hb2.mono hb1.size); obtain ⟨⟨x0, x1, x2, x3⟩, -, ⟨z0, z1⟩, -, -, -⟩ := HX.out _ hq2)
      | (go_at_call 5; (with_reducible refine (big_any h d _ (HX.out _ hq2).2.2.2.1 (HX.out _ hq2).2.2.2.2.2).mono ?_); rintro e w3 ⟨rfl, hb3⟩; rw [HBD.out]; have hq3 := hq2.trans (hb3.mono hq2.size); obtain ⟨⟨y0, y1, y2, y3⟩, ⟨s0', s1'⟩, ⟨t0', t1'⟩, -, -, -⟩ := HX.out _ hq3))
    go_upto_region 7 with (first
      | (go_at_call 6; (with_reducible refine (runs_any h c _ (HXR.out _ hq3) (HX.out _ hq3).2.2.2.2.1 (by omega) HMC.out).mono ?_); rintro e w4 ⟨hx4, hb4⟩; rw [HE.out] at hx4; obtain ⟨v4, c4, rfl, hv4⟩ := hx4.out; have HV4 := Lib.hid hv4; clear hv4 hx4; have hq4 := hq3.trans (hb4.mono hq3.size); obtain ⟨⟨p0, p1, p2, p3⟩, -, ⟨q0, q1⟩, -, -, -⟩ := HX.out _ hq4)
      | (go_at_call 6; (with_reducible refine (runs_any h d _ (HXR.out _ hq4) (HX.out _ hq4).2.2.2.2.2 (by omega) HMD.out).mono ?_); rintro e w5 ⟨hx5, hb5⟩; rw [HF.out] at hx5; obtain ⟨v5, c5, rfl, hv5⟩ := hx5.out; have HV5 := Lib.hid hv5; clear hv5 hx5; have hq5 := hq4.trans (hb5.mono hq4.size)))
    go_wp2_with fail
    go_ret
    exact ⟨rfl, HW.out _ hq5⟩
  have HE := Lib.hid hE
  have HF := Lib.hid hF
  clear hE hF
  go_enter Try.func3, Try.ntmps3
  go_upto_region 1 with (fail)
  obtain ⟨W0, hW0⟩ : ∃ W0 : World, ((w.alloc (.cells #[.string h.name, .int .i64 h.height, .slice h.sa h.sets.length h.sc, .slice h.ra h.roofs.length h.rc] 25)).alloc (.cells #[.slice c.ca c.cues.length c.cc, .slice c.pa c.pairs.length c.pc] 29)).alloc (.cells #[.slice d.ca d.cues.length d.cc, .slice d.pa d.pairs.length d.pc] 29) = W0 := ⟨_, rfl⟩
  simp only [hW0] at HX HXR HW hsz ⊢
  clear hW0
  obtain ⟨B1, hB1⟩ : ∃ b, w.heap.size = b := ⟨_, rfl⟩
  obtain ⟨B2, hB2⟩ : ∃ b, w.heap.size + 1 = b := ⟨_, rfl⟩
  obtain ⟨B3, hB3⟩ : ∃ b, w.heap.size + 2 = b := ⟨_, rfl⟩
  rw [hB3, hB2] at HX ⊢
  rw [hB1] at HX ⊢
  clear hB1 hB2 hB3
  go_upto_region 3 with (go_at_call 4; (with_reducible refine (awake_any _).mono ?_); rintro e w1 ⟨rfl, hb1⟩; obtain ⟨⟨a0, a1, a2, a3⟩, ⟨s0, s1⟩, ⟨t0, t1⟩, -, -, -⟩ := HX.out _ hb1)
  go_upto_region 5 with (first
      | (go_at_call 5; (with_reducible refine (big_any h c _ (HX.out _ hb1).2.2.2.1 (HX.out _ hb1).2.2.2.2.1).mono ?_); rintro e w2 ⟨rfl, hb2⟩; rw [HBC.out]; have hq2 := hb1.trans (hb2.mono hb1.size); obtain ⟨⟨x0, x1, x2, x3⟩, -, ⟨z0, z1⟩, -, -, -⟩ := HX.out _ hq2)
      | (go_at_call 5; (with_reducible refine (big_any h d _ (HX.out _ hq2).2.2.2.1 (HX.out _ hq2).2.2.2.2.2).mono ?_); rintro e w3 ⟨rfl, hb3⟩; rw [HBD.out]; have hq3 := hq2.trans (hb3.mono hq2.size); obtain ⟨⟨y0, y1, y2, y3⟩, ⟨s0', s1'⟩, ⟨t0', t1'⟩, -, -, -⟩ := HX.out _ hq3))
  go_upto_region 9 with (first
      | (go_at_call 6; (with_reducible refine (runs_any h c _ (HXR.out _ hq3) (HX.out _ hq3).2.2.2.2.1 (by omega) HMC.out).mono ?_); rintro e w4 ⟨hx4, hb4⟩; rw [HE.out] at hx4; obtain ⟨v4, c4, rfl, hv4⟩ := hx4.out; have HV4 := Lib.hid hv4; clear hv4 hx4; have hq4 := hq3.trans (hb4.mono hq3.size); obtain ⟨⟨p0, p1, p2, p3⟩, -, ⟨q0, q1⟩, -, -, -⟩ := HX.out _ hq4)
      | (go_at_call 6; (with_reducible refine (runs_any h d _ (HXR.out _ hq4) (HX.out _ hq4).2.2.2.2.2 (by omega) HMD.out).mono ?_); rintro e w5 ⟨hx5, hb5⟩; rw [HF.out] at hx5; obtain ⟨v5, c5, rfl, hv5⟩ := hx5.out; have HV5 := Lib.hid hv5; clear hv5 hx5; have hq5 := hq4.trans (hb5.mono hq4.size)))
  obtain ⟨⟨r0, r1, r2, r3⟩, ⟨i0, i1⟩, ⟨j0, j1⟩, -, -, -⟩ := HX.out _ hq5
  clear a0 a1 a2 a3 s0 s1 t0 t1 x0 x1 x2 x3 z0 z1 y0 y1 y2 y3 s0' s1' t0' t1' p0 p1 p2 p3 q0 q1 hb1 hb2 hb3 hb4 hq2 hq3
  clear r0 r1 r2 r3 i1 j1
  have hbA := below_new w5 (.cells #[.slice c.ca c.cues.length c.cc, .slice d.ca d.cues.length d.cc] 26)
  have HQ := Lib.hid (concat_cue w5.heap.size c.ca d.ca c.cues d.cues c.cc d.cc _ ((HX.out _ hq5).2.2.2.2.1.lies.grow hbA) ((HX.out _ hq5).2.2.2.2.2.lies.grow hbA) (by omega) (by omega) (HX.out _ hq5).2.2.2.2.1.cnil (HX.out _ hq5).2.2.2.2.2.cnil (by simp) (by simp))
  obtain ⟨C, hC⟩ : ∃ C, c.cues ++ d.cues = C := ⟨_, rfl⟩
  rw [hC] at HQ
  have HC := Lib.hid hC
  clear hC
  have HQB : Hid (∀ w', Below (w5.alloc (.cells #[.slice c.ca c.cues.length c.cc, .slice d.ca d.cues.length d.cc] 26)).heap.size (w5.alloc (.cells #[.slice c.ca c.cues.length c.cc, .slice d.ca d.cues.length d.cc] 26)) w' → Below w5.heap.size w5 w') := Lib.hid fun w' q => hbA.trans (q.mono hbA.size)
  clear hbA
  go_upto_region 10 with (go_at_call 7; (with_reducible refine HQ.out.mono ?_); rintro e w6 ⟨hx6, hb6⟩; obtain ⟨v6, rfl, hr6⟩ := hx6.out; obtain ⟨a6, cap6, rfl, k61, -, k63, hl6⟩ := cue_of_row hr6; have HL6 := Lib.hid hl6; have HN6 := Lib.hid k63; have hb56 := HQB.out _ hb6; clear hx6 hr6 hl6 k63 hb6 i0 j0)
  have hb67 := below_new w6 (.cells #[.slice a6 C.length cap6, .slice none 0 0] 29)
  have hat7 : SheetAt (w6.alloc (.cells #[.slice a6 C.length cap6, .slice none 0 0] 29)) w6.heap.size ⟨a6, C, cap6, none, [], 0⟩ := by unfold SheetAt; simp
  generalize w6.alloc (.cells #[.slice a6 C.length cap6, .slice none 0 0] 29) = w7 at *
  have hq6 := hq5.trans (hb56.mono hq5.size)
  have hq7 := hq6.trans (hb67.mono hq6.size)
  have hb57 := hb56.trans (hb67.mono hb56.size)
  rw [← HC.out] at HL6 k61 hat7
  have HS7 : Hid (SheetIn0 w7 ⟨a6, c.cues ++ d.cues, cap6, none, [], 0⟩) := Lib.hid (sheets_both (HX.out _ hq7).2.2.2.2.1 (HX.out _ hq7).2.2.2.2.2 (HL6.out.grow hb67) k61 HN6.out)
  have HM7 : Hid (∀ i, i < (c.cues ++ d.cues).length → (cg (c.cues ++ d.cues) i).moves.length ≤ 1000) := Lib.hid (moves_both HMC.out HMD.out)
  have hl7 : (c.cues ++ d.cues).length ≤ 130 := by rw [List.length_append]; omega
  have HRB := Lib.hid (runs_both HE.out HF.out)
  have HA := Lib.hid (runs_zero HE.out).2.2.2
  have HD := Lib.hid (runs_zero HF.out).2.2.2
  have HML : Hid ((movesOf (c.cues ++ d.cues)).length = (idxs h.sets (movesOf c.cues) ++ idxs h.sets (movesOf d.cues)).length) := Lib.hid (by rw [← idxs_append, ← movesOf_append]; unfold idxs; rw [List.length_map])
  have HAL : Hid (∀ k ∈ idxs h.sets (movesOf c.cues) ++ idxs h.sets (movesOf d.cues), 0 ≤ k ∧ k < h.sets.length) := Lib.hid fun k hk => by
    rcases List.mem_append.1 hk with q | q
    · exact idxs_in HA.out.1 k q
    · exact idxs_in HD.out.1 k q
  rw [HA.out.2] at HV4
  rw [HD.out.2] at HV5
  rw [HA.out.2, HD.out.2]
  obtain ⟨J, hJ⟩ : ∃ J, idxs h.sets (movesOf c.cues) = J := ⟨_, rfl⟩
  obtain ⟨K, hK⟩ : ∃ K, idxs h.sets (movesOf d.cues) = K := ⟨_, rfl⟩
  have hJl : J.length ≤ 100 := by rw [← hJ]; unfold idxs; rw [List.length_map]; exact (runs_zero HE.out).2.2.1
  have hKl : K.length ≤ 100 := by rw [← hK]; unfold idxs; rw [List.length_map]; exact (runs_zero HF.out).2.2.1
  rw [hJ, hK] at HML HAL HRB
  rw [hJ] at HV4 ⊢
  rw [hK] at HV5 ⊢
  rw [HC.out] at HL6 HS7 HM7 hl7 HRB HML hat7
  obtain ⟨B7, hB7⟩ : ∃ b, w6.heap.size = b := ⟨_, rfl⟩
  rw [hB7] at hat7 ⊢
  have HV4' := Lib.hid ((HV4.out.grow hb5).grow hb57)
  have HV5' := Lib.hid (HV5.out.grow hb57)
  have HAT7 := Lib.hid hat7
  clear hb67 hb56 hb57 hq6 hq5 hq4 HQ HQB HE HF HA HD hJ hK HC hB7 hat7 HV4 HV5 HL6 HN6 k61 hb5
  obtain ⟨⟨a0, a1, a2, a3⟩, -, -, -, -, -⟩ := HX.out _ hq7
  obtain ⟨s0, s1⟩ := HAT7.out
  have HQ8 : Hid (Calls Try.prog 6 #[.agg #[.string h.name, .int .i64 h.height, .slice h.sa h.sets.length h.sc, .slice h.ra h.roofs.length h.rc], .agg #[.slice a6 C.length cap6, .slice none 0 0]] w7 fun e w' => Hid (∃ v k, e = .returned (.tuple #[.slice v (runsX h C).length k, .int .i64 (runsE h C)]) ∧ Nums w'.heap.size w' v (runsX h C)) ∧ Below w7.heap.size w7 w') := Lib.hid (runs_any h ⟨a6, C, cap6, none, [], 0⟩ _ (HXR.out _ hq7) HS7.out (show C.length ≤ 1000 by omega) HM7.out)
  rcases HRB.out with h4 | ⟨h0, hX⟩
  · have H4 := Lib.hid h4
    clear h4
    go_wp2_with (go_at_call 6; (with_reducible refine HQ8.out.mono ?_); rintro e w8 ⟨hx8, hb8⟩; rw [H4.out] at hx8; obtain ⟨v8, c8, rfl, -⟩ := hx8.out; clear hx8)
    go_ret
    exact ⟨rfl, HW.out _ (hq7.trans (hb8.mono hq7.size))⟩
  have H0 := Lib.hid h0
  have HXX := Lib.hid hX
  clear h0 hX
  rw [countTo_len, countTo_len]
  go_upto_region 16 with (go_at_call 6; (with_reducible refine HQ8.out.mono ?_); rintro e w8 ⟨hx8, hb8⟩; rw [H0.out, HXX.out, countTo_len] at hx8; obtain ⟨v8, c8, rfl, hv8⟩ := hx8.out; have HV8 := Lib.hid hv8; clear hx8 hv8; obtain ⟨⟨x0, x1, x2, x3⟩, -, -, -, -, -⟩ := HX.out _ (hq7.trans (hb8.mono hq7.size)); obtain ⟨s0', s1'⟩ := HAT7.out.carry hb8)
  have HS8 := Lib.hid (HS7.out.grow hb8)
  have HQW : Hid (∀ w', Below w8.heap.size w8 w' → Below w.heap.size w w') := Lib.hid fun w' q => HW.out _ (hq7.trans ((hb8.trans (q.mono hb8.size)).mono hq7.size))
  have HVX := Lib.hid (HV4'.out.grow hb8)
  have HVY := Lib.hid (HV5'.out.grow hb8)
  clear a0 a1 a2 a3 s0 s1 x0 x1 x2 x3 hq7 hb8 HS7 HV4' HV5' HAT7 HQ8 HRB H0 HXX HX HXR HW
  go_upto_region 17 with (fail)
  clear s0' s1'
  obtain ⟨M, hM⟩ : ∃ M, (J ++ K).length = M := ⟨_, rfl⟩
  have hM2 : M ≤ 200 := by rw [← hM, List.length_append]; omega
  rw [hM] at HML
  have HMJ := Lib.hid hM
  clear hM
  go_loopw [14, 86] (fun ov iv wr => ∃ k : Nat, ov = .int .i64 ((movesOf (C.take k)).length : Int) ∧ iv = .int .i64 k ∧ k ≤ C.length ∧ (movesOf (C.take k)).length ≤ 1000 * k ∧ Below w8.heap.size w8 wr) (fun _ iv _ => C.length - (intOf iv).toNat)
  case atStart => exact ⟨0, rfl, rfl, Nat.zero_le _, by simp [movesOf], Below.refl _ _⟩
  case round =>
    obtain ⟨k, rfl, rfl, hk, hml, hB⟩ := hrel
    by_cases hlt : k < C.length
    · obtain ⟨cb, co, hca, hcb, hcc⟩ := HS8.out.lies (show 0 < C.length by omega)
      obtain ⟨e0, e1, e2, e3, e4, e5, e6⟩ := hcc k hlt
      have d0 := (hB.cell (p := ⟨cb, _, none⟩) hcb).trans e0
      have d1 := (hB.cell (p := ⟨cb, _, none⟩) hcb).trans e1
      have d2 := (hB.cell (p := ⟨cb, _, none⟩) hcb).trans e2
      have d3 := (hB.cell (p := ⟨cb, _, none⟩) hcb).trans e3
      have d4 := (hB.cell (p := ⟨cb, _, none⟩) hcb).trans e4
      have d5 := (hB.cell (p := ⟨cb, _, none⟩) hcb).trans e5
      have d6 := (hB.cell (p := ⟨cb, _, none⟩) hcb).trans e6
      have HN : Hid ((movesOf (C.take (k + 1))).length = (movesOf (C.take k)).length + (cg C k).moves.length) := Lib.hid (by rw [movesOf_next _ hlt, List.length_append])
      have hmk := HM7.out k hlt
      rw [show a6 = some ⟨cb, co, none⟩ from hca]
      dsimp only at d0 d1 d2 d3 d4 d5 d6
      obtain ⟨q, hq⟩ : ∃ q, cg C k = q := ⟨_, rfl⟩
      rw [hq] at d0 d1 d2 d3 d4 d5 d6 HN hmk
      obtain ⟨mt, hmt⟩ : ∃ m : Nat, (movesOf (C.take k)).length = m := ⟨_, rfl⟩
      rw [hmt] at HN hml ⊢
      clear e0 e1 e2 e3 e4 e5 e6 hcc hq hmt hca
      go_wp2_with fail
      go_roundw
      case rel => exact ⟨k + 1, by rw [HN.out]; go_num, by go_num, by omega, by rw [HN.out]; omega, hB.alloc hB.size _⟩
      case measure => simp [intOf]; omega
    · obtain rfl : k = C.length := by omega
      rw [List.take_length, HML.out]
      clear hml hlt hk
      have HLS := Lib.hid (leftM_start M (countTo h.sets.length (J ++ K)))
      have HVX2 := Lib.hid (HVX.out.below hB)
      have HVY2 := Lib.hid (HVY.out.below hB)
      have HVZ2 := Lib.hid (HV8.out.below hB)
      obtain ⟨wo, rfl⟩ : ∃ wo : World, wo = wr := ⟨_, rfl⟩
      go_upto_region 22 with (fail)
      go_loopw [14, 17, 98] (fun ov uv iv wr => ∃ k : Nat, ov = .int .i64 (leftM M (countTo h.sets.length (J ++ K)) k) ∧ iv = .int .i64 k ∧ k ≤ h.sets.length ∧ Below w8.heap.size w8 wr) (fun _ _ iv _ => h.sets.length - (intOf iv).toNat)
      case atStart => exact ⟨0, by rw [HLS.out], rfl, Nat.zero_le _, hB⟩
      case round =>
        clear hB
        obtain ⟨k, rfl, rfl, hk, hB⟩ := hrel
        have hbd := leftM_bd (n := h.sets.length) M (J ++ K) k hk
        have hkb : (k : Int) * ((J ++ K).length : Int) ≤ 1000 * 200 := Int.mul_le_mul (by omega) (by rw [HMJ.out]; omega) (by omega) (by omega)
        by_cases hlt : k < h.sets.length
        · obtain ⟨xb, xo, hxa, hxb, hxc⟩ := HVX.out (by rw [countTo_len]; omega)
          obtain ⟨yb, yo, hya, hyb, hyc⟩ := HVY.out (by rw [countTo_len]; omega)
          obtain ⟨zb, zo, hza, hzb, hzc⟩ := HV8.out (by rw [countTo_len]; omega)
          have x0 := (hB.cell (p := ⟨xb, _, none⟩) hxb).trans (hxc k (by rw [countTo_len]; omega))
          have y0 := (hB.cell (p := ⟨yb, _, none⟩) hyb).trans (hyc k (by rw [countTo_len]; omega))
          have z0 := (hB.cell (p := ⟨zb, _, none⟩) hzb).trans (hzc k (by rw [countTo_len]; omega))
          have xd := cntTo_bd h.sets.length J hlt
          have yd := cntTo_bd h.sets.length K hlt
          have HADD := countTo_add h.sets.length J K hlt
          have HN := Lib.hid (leftM_next (M := M) (X := countTo h.sets.length (J ++ K)) (k := k) (by rw [countTo_len]; omega))
          rw [hxa, hya, hza]
          rw [HADD] at z0 HN
          obtain ⟨x, hx⟩ : ∃ x, ig (countTo h.sets.length J) k = x := ⟨_, rfl⟩
          obtain ⟨y, hy⟩ : ∃ y, ig (countTo h.sets.length K) k = y := ⟨_, rfl⟩
          obtain ⟨L, hL⟩ : ∃ L, leftM M (countTo h.sets.length (J ++ K)) k = L := ⟨_, rfl⟩
          rw [hx] at x0 xd z0 HN
          rw [hy] at y0 yd z0 HN
          rw [hL] at hbd HN ⊢
          clear hx hy hL HADD hxc hyc hzc hxa hya hza
          go_upto_region 24 with (fail)
          have i0 : 0 ≤ (k : Int) := by omega
          have i1 : (k : Int) < (h.sets.length : Int) := by omega
          have s1 : IntKind.i64.wrap (x + y) = x + y := IntWalk.i64_in _ (by omega)
          go_quiet (fail)
          clear s1
          have s2 : IntKind.i64.wrap (L - (x + y)) = L - (x + y) := IntWalk.i64_in _ (by omega)
          go_wp2_with fail
          go_roundw
          case rel => exact ⟨k + 1, by rw [HN.out], by go_num, by omega, below_drewN hB _⟩
          case measure => simp [intOf]; omega
        · obtain rfl : k = h.sets.length := by omega
          rw [leftM_end HMJ.out.symm HAL.out]
          go_wp2_with fail
          go_ret
          exact ⟨rfl, HQW.out _ hB⟩
end Go.Proofs.Ythldfijlcoobgaa
namespace Go.Proofs.Ythldfijlcoobgaa
open Go.ChangeShapes Go.WideShapes Go.ChangeAt Go.WideMaps Go.WideElems Go.RowKit

theorem own : ownKnob Try.prog.godebug = none := by kernel_rfl
theorem laidOut : laidOutB Try.prog = true := by kernel_rfl

section
variable {H : Type} {enc : TypeId × Value → H} {P : Program}
theorem post_of_below {f : Func} {s : ChangeSpec} {apart fresh handsOn again : Bool} {W W' : World} {args : Array Value} {v : Value} {ds gs : List (DataW H)} {before pa pv : List MemPlace}
    (hW : DataW.Whole enc P f.params.toList s.vars apart W args.toList ds gs before)
    (hres : ∀ (b : Nat) (sp : Nat → Bool) (hd : Bool), DataW.TrodAll enc P W' b sp hd f.resultTypes.toList (v.resultList f.resultTypes.size) (s.fn H (ds ++ gs)).results [])
    (hargs : ∀ sp : Nat → Bool, (∀ p ∈ before, sp p.block = true) → DataW.TrodAll enc P W' 0 sp true f.params.toList args.toList (s.fn H (ds ++ gs)).args pa)
    (hvars : ∀ sp : Nat → Bool, (∀ p ∈ before, sp p.block = true) → DataW.TrodVars enc P W' sp s.vars (s.fn H (ds ++ gs)).vars pv)
    (hps : before = pa ++ pv) (hb : Below W.heap.size W W')
    (hok : ∀ (j : Nat) (t : TypeId) (r : Value), f.resultTypes[j]? = some t → (v.resultList f.resultTypes.size)[j]? = some r → Value.okWide P W' .any 0 t r) :
    s.post enc P f apart fresh handsOn again W args v W' := by
  have hlt : ∀ p ∈ before, p.block < W.heap.size := fun p hp => hW.lt p hp
  have hold : ∀ p ∈ before, (fun b => decide (b < W.heap.size)) p.block = true := fun p hp => by simpa using hlt p hp
  refine ⟨ds, gs, before, [], pa, pv, hW, hres _ _ _, hargs _ hold, hvars _ hold, World.keptBut_mono (fun p hp => ⟨hp, ?_⟩) (hb.frame (· ∈ before)), fun _ => ?_⟩
  · rw [hps, List.mem_append] at hp
    exact Or.inr hp
  · obtain ⟨_, _, _, _, _, hz, hn⟩ := hW
    refine ⟨hok, _, _, ([] ++ pa) ++ pv, ⟨[] ++ pa, pv, trodAll_append (hargs _ (fun _ _ => rfl)) (hres _ _ _), hvars _ (fun _ _ => rfl), rfl, ?_, ?_⟩, ?_⟩
    · intro b off hp
      have hin : MemPlace.cell b off ∈ before := by rw [hps]; simpa using hp
      rw [hb.frozen (hlt _ hin)]
      exact hz b off hin
    · intro ha
      have := hn ha
      rw [hps] at this
      simpa using this
    · intro p hp _
      rw [hps]
      simpa using hp

theorem trodAll_below (hl : laidOutB P = true) {W W' : World} (hb : Below W.heap.size W W') (sp : Nat → Bool) :
    ∀ {ts : List TypeId} {vs : List Value} {ds : List (DataW H)} {ps : List MemPlace}, (ts.all fun t => P.readableRec t && decide (t < P.types.size)) = true → DataW.TrodAll enc P W 0 (fun _ => true) true ts vs ds ps →
      (∀ x ∈ ps, x.block < W.heap.size) → (∀ x ∈ ps, sp x.block = true) → DataW.TrodAll enc P W' 0 sp true ts vs ds ps
  | [], [], [], _, _, h, _, _ => h
  | t :: ts, v :: vs, d :: ds, _, ht, ⟨p, q, h0, h1, rfl⟩, hlt, hsp => by
    simp only [List.all_cons, Bool.and_eq_true, decide_eq_true_eq] at ht
    exact ⟨p, q, WideElems.Trod_stays hl ht.1.1 ht.1.2 h0 (fun x hx => hb.same (hlt x (List.mem_append.2 (.inl hx)))) (fun x hx => hsp x (List.mem_append.2 (.inl hx))),
      trodAll_below hl hb sp (by simpa using ht.2) h1 (fun x hx => hlt x (List.mem_append.2 (.inr hx))) (fun x hx => hsp x (List.mem_append.2 (.inr hx))), rfl⟩
  | [], [], _ :: _, _, _, h, _, _ => h.elim
  | [], _ :: _, _, _, _, h, _, _ => h.elim
  | _ :: _, [], _, _, _, h, _, _ => h.elim
  | _ :: _, _ :: _, [], _, _, h, _, _ => h.elim

theorem law_post {f : Func} {s : ChangeSpec} {apart fresh handsOn again : Bool} {W W' : World} {args : Array Value} {ds gs : List (DataW H)} {before : List MemPlace} {tb : TypeId}
    (hl : laidOutB P = true) (hr : (f.params.toList.all fun t => P.readableRec t && decide (t < P.types.size)) = true) (hW : DataW.Whole enc P f.params.toList s.vars apart W args.toList ds gs before)
    (hv : s.vars = []) (hfn : s.fn H (ds ++ gs) = { results := [.lit (.bool true)], args := ds }) (ht : f.resultTypes = #[tb]) (hu : P.underlying tb = some .bool) (hb : Below W.heap.size W W') :
    s.post enc P f apart fresh handsOn again W args (.bool true) W' := by
  have hlt : ∀ p ∈ before, p.block < W.heap.size := fun p hp => hW.lt p hp
  have hW2 := hW
  obtain ⟨p, q, hA, hV, hpq, _, _⟩ := hW
  have hV' := hV
  rw [hv] at hV'
  obtain ⟨rfl, rfl⟩ := trodVars_none hV'
  have hpp : before = p := by rw [hpq, List.append_nil]
  refine post_of_below (pa := before) (pv := []) hW2 ?_ ?_ ?_ (by simp) hb ?_
  · intro b sp hd
    rw [hfn, ht]
    exact trodAll_mk1 (shut_bool hu _)
  · intro sp hsp
    rw [hfn]
    exact trodAll_below hl hb sp hr (by rw [hpp]; exact hA) hlt hsp
  · intro sp hsp
    rw [hfn, hv]
    rfl
  · intro j t r hj hrr
    rw [ht] at hj hrr
    exact ok_one ht rfl (okWide_bool_mk hu _) j t r (by rw [ht]; exact hj) (by rw [ht]; exact hrr)
end
end Go.Proofs.Ythldfijlcoobgaa
namespace Go.Proofs.Ythldfijlcoobgaa
open Go.ChangeShapes Go.WideShapes Go.ChangeAt Go.WideMaps Go.WideElems Go.RowKit Go.Deep

theorem flatMap_get {X : Type} (cells : X → List Value) (size : Nat) (hlen : ∀ r, (cells r).length = size) : ∀ (L : List X) (j : Nat) (u : Value), (L.flatMap cells)[j]? = some u → ∃ i k r, j = i * size + k ∧ L[i]? = some r ∧ (cells r)[k]? = some u
  | [], j, u, h => by simp at h
  | x :: l, j, u, h => by
    rw [List.flatMap_cons, List.getElem?_append] at h
    split at h
    · exact ⟨0, j, x, by omega, rfl, h⟩
    · next hj =>
      rw [hlen] at h hj
      obtain ⟨i, k, r, e, h1, h2⟩ := flatMap_get cells size hlen l _ u h
      exact ⟨i + 1, k, r, by rw [Nat.add_mul]; omega, h1, h2⟩

section
variable {H : Type} {enc : TypeId × Value → H} {P : Program} {w : World} {base : Nat} {spare : Nat → Bool} {held : Bool}
theorem open_rows {X : Type} [Inhabited X] (cells : X → List Value) (size : Nat) (Fit : X → Prop) (hsize : 0 < size) (hlen : ∀ r, (cells r).length = size) {t e : TypeId} (ht : P.underlying t = some (.slice e)) (hC : P.cellsOf e = size)
    (hel : ∀ n cs' y, cs'.length = size → DataW.trod enc P w base spare held n e cs' = some y → ∃ r, cs' = cells r ∧ Fit r) {fuel : Nat} {v : Value} {x : DataW H × List MemPlace} (h : DataW.trod enc P w base spare held fuel t [v] = some x) :
    ∃ (a : Option Addr) (cap : Nat) (L : List X), v = .slice a L.length cap ∧ L.length ≤ cap ∧ cap ≤ maxLen ∧ (a = none → cap = 0) ∧ (∀ r ∈ L, Fit r) ∧
      (0 < L.length → ∃ b off, a = some ⟨b, off, none⟩ ∧ b < w.heap.size ∧ ∀ j u, (L.flatMap cells)[j]? = some u → w.cell? ⟨b, off + j, none⟩ = some u) := by
  rcases open_slice ht h with ⟨hcs, _⟩ | ⟨a, len, cap, m, n, D, Pl, hcs, _, hl, hm, hmm, _, hi⟩
  · simp only [List.cons.injEq, and_true] at hcs
    subst hcs
    exact ⟨none, 0, [], rfl, Nat.le_refl _, by unfold maxLen; omega, fun _ => rfl, (fun _ h => by cases h), fun h => absurd h (Nat.not_lt_zero _)⟩
  · simp only [List.cons.injEq, and_true] at hcs
    subst hcs
    have hlm : len ≤ m := by rw [hmm]; split <;> omega
    have hex : ∀ i, ∃ r : X, i < len → Fit r ∧ ∀ k u, (cells r)[k]? = some u → w.cell? (a.add (i * size + k)) = some u := fun i => by
      by_cases h : i < len
      · obtain ⟨cs', hc, ht'⟩ := hi i (by omega)
        rw [hC] at hc
        obtain ⟨_, hcl, hat⟩ := World.cells?_some hc
        obtain ⟨r, e, hf⟩ := hel n cs' _ hcl ht'
        refine ⟨r, fun _ => ⟨hf, fun k u hu => ?_⟩⟩
        rw [← e] at hu
        have hk : k < size := by
          have := (List.getElem?_eq_some_iff.1 hu).1
          omega
        rw [← Go.Deep.add_add, hat k hk, hu]
      · exact ⟨default, fun h' => absurd h' h⟩
    obtain ⟨f, hf⟩ := Classical.axiomOfChoice hex
    refine ⟨some a, cap, (List.range len).map f, by simp, by simpa using hl, hm, (fun e => by cases e), ?_, ?_⟩
    · intro r hr
      obtain ⟨i, hi', rfl⟩ := List.mem_map.1 hr
      exact (hf i (by simpa using hi')).1
    · intro hpos
      have hpos' : 0 < len := by simpa using hpos
      have hcell : ∀ i k u, i < len → (cells (f i))[k]? = some u → w.cell? (a.add (i * size + k)) = some u := fun i k u h hu => (hf i h).2 k u hu
      have h0 : ∃ u, (cells (f 0))[0]? = some u := ⟨_, List.getElem?_eq_getElem (by rw [hlen]; exact hsize)⟩
      obtain ⟨u0, hu0⟩ := h0
      have hc0 := hcell 0 0 u0 hpos' hu0
      obtain ⟨b, off, spot⟩ := a
      have hspot : spot = none := by simpa [Addr.add] using World.cell?_spot hc0
      subst hspot
      refine ⟨b, off, rfl, ?_, fun j u hj => ?_⟩
      · rw [Go.WideShapes.add_plain] at hc0
        exact World.block_lt_of_cell? w _ hc0
      · obtain ⟨i, k, r, e, h1, h2⟩ := flatMap_get cells size hlen _ j u hj
        rw [List.getElem?_map] at h1
        have hil : i < len := by
          rcases Nat.lt_or_ge i len with l | l
          · exact l
          · rw [List.getElem?_eq_none (by simpa using l)] at h1; cases h1
        rw [List.getElem?_range hil] at h1
        obtain rfl : f i = r := by simpa using h1
        have := hcell i k u hil h2
        rw [Go.WideShapes.add_plain] at this
        rw [e]
        exact this
/-- An element that is a struct of one-cell fields. -/
theorem elem_fields {e : TypeId} {fs : Array Field} {n : Nat} {cs' : List Value} {y : DataW H × List MemPlace} (he : P.underlying e = some (.struct fs)) (hone : oneCellFields P fs = true) (hl : cs'.length = fs.size) (h : DataW.trod enc P w base spare held n e cs' = some y) :
    ∃ m, ∀ (j : Nat) (f : Field), fs[j]? = some f → ∃ (v : Value) (z : DataW H × List MemPlace), cs'[j]? = some v ∧ DataW.trod enc P w base spare held m f.type [v] = some z := by
  obtain ⟨ys, n', hn', hy, hlen, hyl, hf⟩ := DataW.trod_struct he h
  refine ⟨n', fun j f hj => ?_⟩
  obtain ⟨ho, hk⟩ := hone_of hone j f hj
  have hjl : j < fs.size := (Array.getElem?_eq_some_iff.1 hj).1
  have hv : cs'[j]? = some (cs'[j]'(by omega)) := List.getElem?_eq_getElem (by omega)
  have h1 := hf j f hj
  rw [ho, hk] at h1
  have hone' : (cs'.drop j).take 1 = [cs'[j]'(by omega)] := by
    rw [List.drop_eq_getElem_cons (by omega)]
    rfl
  rw [hone'] at h1
  exact ⟨_, ys[j]'(by omega), hv, h1.trans (List.getElem?_eq_getElem (by omega))⟩
/-- A field that is a slice of whatever. -/
theorem field_slice {t e : TypeId} {n : Nat} {v : Value} {y : DataW H × List MemPlace} (ht : P.underlying t = some (.slice e)) (h : DataW.trod enc P w base spare held n t [v] = some y) : ∃ a l c, v = .slice a l c := by
  rcases open_slice ht h with ⟨hcs, _⟩ | ⟨a, len, cap, m, n, D, Pl, hcs, _⟩
  · simp only [List.cons.injEq, and_true] at hcs
    exact ⟨_, _, _, hcs⟩
  · simp only [List.cons.injEq, and_true] at hcs
    exact ⟨_, _, _, hcs⟩
end
end Go.Proofs.Ythldfijlcoobgaa
namespace Go.Proofs.Ythldfijlcoobgaa
open Go.ChangeShapes Go.WideShapes Go.ChangeAt Go.WideMaps Go.WideElems Go.RowKit Go.Deep Go.Joins

theorem num_of_flat {n₀ : Nat} {w : World} {a : Option Addr} {L : List (Int)} (h : 0 < L.length → ∃ b off, a = some ⟨b, off, none⟩ ∧ b < n₀ ∧ ∀ j u, (nflat L)[j]? = some u → w.cell? ⟨b, off + j, none⟩ = some u) : Nums n₀ w a L := fun hl => by
  obtain ⟨b, off, e, hb, hc⟩ := h hl
  refine ⟨b, off, e, hb, fun i hi => ?_⟩
  have f0 := nflat_at L i hi
  have c0 := hc _ _ f0
  try simp only [← Nat.add_assoc] at c0
  exact c0

theorem span_of_flat {n₀ : Nat} {w : World} {a : Option Addr} {L : List (Int × Int)} (h : 0 < L.length → ∃ b off, a = some ⟨b, off, none⟩ ∧ b < n₀ ∧ ∀ j u, (sflat L)[j]? = some u → w.cell? ⟨b, off + j, none⟩ = some u) : Spans n₀ w a L := fun hl => by
  obtain ⟨b, off, e, hb, hc⟩ := h hl
  refine ⟨b, off, e, hb, fun i hi => ?_⟩
  obtain ⟨f0, f1⟩ := sflat_at L i hi
  have c0 := hc _ _ f0
  have c1 := hc _ _ f1
  try simp only [← Nat.add_assoc] at c0 c1
  exact ⟨c0, c1⟩

theorem hold_of_flat {n₀ : Nat} {w : World} {a : Option Addr} {L : List (HoldR)} (h : 0 < L.length → ∃ b off, a = some ⟨b, off, none⟩ ∧ b < n₀ ∧ ∀ j u, (hflat L)[j]? = some u → w.cell? ⟨b, off + j, none⟩ = some u) : Holds n₀ w a L := fun hl => by
  obtain ⟨b, off, e, hb, hc⟩ := h hl
  refine ⟨b, off, e, hb, fun i hi => ?_⟩
  obtain ⟨f0, f1, f2, f3⟩ := hflat_at L i hi
  have c0 := hc _ _ f0
  have c1 := hc _ _ f1
  have c2 := hc _ _ f2
  have c3 := hc _ _ f3
  try simp only [← Nat.add_assoc] at c0 c1 c2 c3
  exact ⟨c0, c1, c2, c3⟩

instance : Inhabited HoldR := ⟨⟨⟨#[]⟩, 0, 0, 0⟩⟩
section
variable {H : Type} {enc : TypeId × Value → H} {w : World} {base : Nat} {spare : Nat → Bool} {held : Bool}
theorem open_nums {fuel : Nat} {v : Value} {x : DataW H × List MemPlace} (h : DataW.trod enc Try.prog w base spare held fuel 32 [v] = some x) :
    ∃ (a : Option Addr) (cap : Nat) (L : List Int), v = .slice a L.length cap ∧ L.length ≤ cap ∧ cap ≤ maxLen ∧ (a = none → cap = 0) ∧ (∀ r ∈ L, (Lit.int .i64 r).wf = true) ∧ Nums w.heap.size w a L := by
  obtain ⟨a, cap, L, h1, h2, h3, h4, h5, h6⟩ := open_rows (P := Try.prog) (fun r : Int => [Value.int .i64 r]) 1 (fun r => (Lit.int .i64 r).wf = true) (by decide) (fun _ => rfl) Try.underlying32 (by kernel_rfl) (fun n cs' y hl ht => by
    obtain ⟨m, e, _, hw⟩ := DataW.trod_int Try.underlying3 ht
    exact ⟨m, e, hw⟩) h
  exact ⟨a, cap, L, h1, h2, h3, h4, h5, num_of_flat h6⟩
theorem open_spans {fuel : Nat} {v : Value} {x : DataW H × List MemPlace} (h : DataW.trod enc Try.prog w base spare held fuel 53 [v] = some x) :
    ∃ (a : Option Addr) (cap : Nat) (L : List (Int × Int)), v = .slice a L.length cap ∧ L.length ≤ cap ∧ cap ≤ maxLen ∧ (a = none → cap = 0) ∧ Spans w.heap.size w a L := by
  obtain ⟨a, cap, L, h1, h2, h3, h4, _, h6⟩ := open_rows (P := Try.prog) (fun r : Int × Int => [.int .i64 r.1, .int .i64 r.2]) 2 (fun _ => True) (by decide) (fun _ => rfl) Try.underlying53 (by kernel_rfl) (fun n cs' y hl ht => by
    obtain ⟨m, hf⟩ := elem_fields Try.underlying52 (by kernel_rfl) (by rw [hl]; rfl) ht
    obtain ⟨v0, z0, c0, t0⟩ := hf 0 _ rfl
    obtain ⟨v1, z1, c1, t1⟩ := hf 1 _ rfl
    obtain ⟨n0, e0, _, w0⟩ := DataW.trod_int Try.underlying3 t0
    obtain ⟨n1, e1, _, w1⟩ := DataW.trod_int Try.underlying3 t1
    simp only [List.cons.injEq, and_true] at e0 e1
    subst e0 e1
    match cs', hl with
    | [x0, x1], _ =>
      simp only [List.getElem?_cons_zero, List.getElem?_cons_succ, Option.some.injEq] at c0 c1
      subst c0 c1
      exact ⟨(n0, n1), rfl, trivial⟩) h
  exact ⟨a, cap, L, h1, h2, h3, h4, span_of_flat h6⟩
set_option maxRecDepth 100000 in
theorem open_frac {fuel : Nat} {cs : List Value} {x : DataW H × List MemPlace} (hl : cs.length = 2) (h : DataW.trod enc Try.prog w base spare held fuel 76 cs = some x) : ∃ n d : Int, cs = [.int .i64 n, .int .i64 d] := by
  obtain ⟨m, hf⟩ := elem_fields Try.underlying76 (by kernel_rfl) (by rw [hl]; rfl) h
  obtain ⟨v0, z0, c0, t0⟩ := hf 0 _ rfl
  obtain ⟨v1, z1, c1, t1⟩ := hf 1 _ rfl
  obtain ⟨n0, e0, _, w0⟩ := DataW.trod_int Try.underlying3 t0
  obtain ⟨n1, e1, _, w1⟩ := DataW.trod_int Try.underlying3 t1
  simp only [List.cons.injEq, and_true] at e0 e1
  subst e0 e1
  match cs, hl with
  | [x0, x1], _ =>
    simp only [List.getElem?_cons_zero, List.getElem?_cons_succ, Option.some.injEq] at c0 c1
    subst c0 c1
    exact ⟨n0, n1, rfl⟩
set_option maxRecDepth 100000 in
theorem open_holds {fuel : Nat} {v : Value} {x : DataW H × List MemPlace} (h : DataW.trod enc Try.prog w base spare held fuel 43 [v] = some x) :
    ∃ (a : Option Addr) (cap : Nat) (L : List HoldR), v = .slice a L.length cap ∧ L.length ≤ cap ∧ cap ≤ maxLen ∧ (a = none → cap = 0) ∧ Holds w.heap.size w a L := by
  obtain ⟨a, cap, L, h1, h2, h3, h4, _, h6⟩ := open_rows (P := Try.prog) (fun r : HoldR => [.string r.block, .int .i64 r.pulls, .int .i64 r.ln, .int .i64 r.ld]) 4 (fun _ => True) (by decide) (fun _ => rfl) Try.underlying43 (by kernel_rfl) (fun n cs' y hl ht => by
    obtain ⟨ys, m, _, _, _, hyl, hf⟩ := DataW.trod_struct Try.underlying79 ht
    have f0 : DataW.trod enc Try.prog w base spare held m 9 ((cs'.drop 0).take (Try.prog.cellsOf 9)) = ys[0]? := hf 0 _ rfl
    have f1 : DataW.trod enc Try.prog w base spare held m 3 ((cs'.drop 1).take (Try.prog.cellsOf 3)) = ys[1]? := hf 1 _ rfl
    have f2 : DataW.trod enc Try.prog w base spare held m 76 ((cs'.drop 2).take (Try.prog.cellsOf 76)) = ys[2]? := hf 2 _ rfl
    have C0 : Try.prog.cellsOf 9 = 1 := by kernel_rfl
    have C1 : Try.prog.cellsOf 3 = 1 := by kernel_rfl
    have C2 : Try.prog.cellsOf 76 = 2 := by kernel_rfl
    rw [C0] at f0
    rw [C1] at f1
    rw [C2] at f2
    match cs', hl, ys, hyl with
    | [x0, x1, x2, x3], _, [y0, y1, y2], _ =>
      obtain ⟨n0, e0, _, _⟩ := DataW.trod_string Try.underlying9 (cs := [x0]) (x := y0) f0
      obtain ⟨n1, e1, _, _⟩ := DataW.trod_int Try.underlying3 (cs := [x1]) (x := y1) f1
      obtain ⟨n2, n3, e2⟩ := open_frac (cs := [x2, x3]) (x := y2) rfl f2
      simp only [List.cons.injEq, and_true] at e0 e1 e2
      obtain ⟨e2, e3⟩ := e2
      subst e0 e1 e2 e3
      exact ⟨⟨n0, n1, n2, n3⟩, rfl, trivial⟩) h
  exact ⟨a, cap, L, h1, h2, h3, h4, hold_of_flat h6⟩
end
section
variable {H : Type} {enc : TypeId × Value → H} {W : World} {base : Nat}
set_option maxRecDepth 100000 in
theorem open_numsA {v : Value} {d : DataW H} {p : List MemPlace} (hv : Value.okWide Try.prog W .any base 32 v) (h : DataW.Trod enc Try.prog W 0 (fun _ => true) true 32 v d p) :
    ∃ (a : Option Addr) (cap : Nat) (L : List Int), v = .slice a L.length cap ∧ L.length ≤ cap ∧ cap ≤ maxLen ∧ (a = none → cap = 0) ∧ (∀ r ∈ L, (Lit.int .i64 r).wf = true) ∧ Nums W.heap.size W a L := by
  obtain ⟨a0, len0, cap0, rfl⟩ := okWide_slice Try.underlying32 hv
  obtain ⟨fuel, hf⟩ := h
  exact open_nums (v := .slice a0 len0 cap0) hf
set_option maxRecDepth 100000 in
theorem open_spansA {v : Value} {d : DataW H} {p : List MemPlace} (hv : Value.okWide Try.prog W .any base 53 v) (h : DataW.Trod enc Try.prog W 0 (fun _ => true) true 53 v d p) :
    ∃ (a : Option Addr) (cap : Nat) (L : List (Int × Int)), v = .slice a L.length cap ∧ L.length ≤ cap ∧ cap ≤ maxLen ∧ (a = none → cap = 0) ∧ Spans W.heap.size W a L := by
  obtain ⟨a0, len0, cap0, rfl⟩ := okWide_slice Try.underlying53 hv
  obtain ⟨fuel, hf⟩ := h
  exact open_spans (v := .slice a0 len0 cap0) hf
set_option maxRecDepth 100000 in
theorem open_rope {v : Value} {d : DataW H} {p : List MemPlace} (hv : Value.okWide Try.prog W .any base 45 v) (h : DataW.Trod enc Try.prog W 0 (fun _ => true) true 45 v d p) :
    ∃ (nm : ByteArray) (a : Option Addr) (cap : Nat) (L : List HoldR) (hd : Bool), v = .agg #[.string nm, .slice a L.length cap, .bool hd] ∧ L.length ≤ cap ∧ cap ≤ maxLen ∧ (a = none → cap = 0) ∧ Holds W.heap.size W a L := by
  obtain ⟨v0, v1, v2, y0, y1, y2, n, rfl, _, _, h0, h1, h2⟩ := open_agg3 Try.underlying45 (by kernel_rfl) (by kernel_rfl) hv h
  obtain ⟨nm, e0, _, _⟩ := DataW.trod_string Try.underlying9 h0
  obtain ⟨a, cap, L, rfl, c1, c2, c3, c4⟩ := open_holds h1
  obtain ⟨hd, e2, _⟩ := DataW.trod_bool Try.underlying4 h2
  simp only [List.cons.injEq, and_true] at e0 e2
  subst e0 e2
  exact ⟨nm, a, cap, L, hd, rfl, c1, c2, c3, c4⟩
end
end Go.Proofs.Ythldfijlcoobgaa
namespace Go.Proofs.Ythldfijlcoobgaa
open Go.ChangeShapes Go.WideShapes Go.ChangeAt Go.WideMaps Go.WideElems Go.RowKit Go.Deep Go.Joins

theorem brick_of_flat {n₀ : Nat} {w : World} {a : Option Addr} {L : List (BrickR)} (h : 0 < L.length → ∃ b off, a = some ⟨b, off, none⟩ ∧ b < n₀ ∧ ∀ j u, (kflat L)[j]? = some u → w.cell? ⟨b, off + j, none⟩ = some u) : Bricks n₀ w a L := fun hl => by
  obtain ⟨b, off, e, hb, hc⟩ := h hl
  refine ⟨b, off, e, hb, fun i hi => ?_⟩
  obtain ⟨f0, f1, f2⟩ := kflat_at L i hi
  have c0 := hc _ _ f0
  have c1 := hc _ _ f1
  have c2 := hc _ _ f2
  try simp only [← Nat.add_assoc] at c0 c1 c2
  exact ⟨c0, c1, c2⟩
instance : Inhabited BrickR := ⟨⟨⟨#[]⟩, 0, 0⟩⟩
section
variable {H : Type} {enc : TypeId × Value → H} {w : World} {base : Nat} {spare : Nat → Bool} {held : Bool}
set_option maxRecDepth 100000 in
theorem open_bricks {fuel : Nat} {v : Value} {x : DataW H × List MemPlace} (h : DataW.trod enc Try.prog w base spare held fuel 68 [v] = some x) :
    ∃ (a : Option Addr) (cap : Nat) (L : List BrickR), v = .slice a L.length cap ∧ L.length ≤ cap ∧ cap ≤ maxLen ∧ (a = none → cap = 0) ∧ Bricks w.heap.size w a L := by
  obtain ⟨a, cap, L, h1, h2, h3, h4, _, h6⟩ := open_rows (P := Try.prog) (fun r : BrickR => [.string r.name, .int .i64 r.weight, .int .i64 r.count]) 3 (fun _ => True) (by decide) (fun _ => rfl) Try.underlying68 (by kernel_rfl) (fun n cs' y hl ht => by
    obtain ⟨m, hf⟩ := elem_fields Try.underlying105 (by kernel_rfl) (by rw [hl]; rfl) ht
    obtain ⟨v0, z0, c0, t0⟩ := hf 0 _ rfl
    obtain ⟨v1, z1, c1, t1⟩ := hf 1 _ rfl
    obtain ⟨v2, z2, c2, t2⟩ := hf 2 _ rfl
    obtain ⟨n0, e0, _, _⟩ := DataW.trod_string Try.underlying9 t0
    obtain ⟨n1, e1, _, w1⟩ := DataW.trod_int Try.underlying3 t1
    obtain ⟨n2, e2, _, w2⟩ := DataW.trod_int Try.underlying3 t2
    simp only [List.cons.injEq, and_true] at e0 e1 e2
    subst e0 e1 e2
    match cs', hl with
    | [x0, x1, x2], _ =>
      simp only [List.getElem?_cons_zero, List.getElem?_cons_succ, Option.some.injEq] at c0 c1 c2
      subst c0 c1 c2
      exact ⟨⟨n0, n1, n2⟩, rfl, trivial⟩) h
  exact ⟨a, cap, L, h1, h2, h3, h4, brick_of_flat h6⟩
end
section
variable {H : Type} {enc : TypeId × Value → H} {W : World} {base : Nat}
set_option maxRecDepth 100000 in
theorem open_bricksA {v : Value} {d : DataW H} {p : List MemPlace} (hv : Value.okWide Try.prog W .any base 68 v) (h : DataW.Trod enc Try.prog W 0 (fun _ => true) true 68 v d p) :
    ∃ (a : Option Addr) (cap : Nat) (L : List BrickR), v = .slice a L.length cap ∧ L.length ≤ cap ∧ cap ≤ maxLen ∧ (a = none → cap = 0) ∧ Bricks W.heap.size W a L := by
  obtain ⟨a0, len0, cap0, rfl⟩ := okWide_slice Try.underlying68 hv
  obtain ⟨fuel, hf⟩ := h
  exact open_bricks (v := .slice a0 len0 cap0) hf
end
end Go.Proofs.Ythldfijlcoobgaa
namespace Go.Proofs.Ythldfijlcoobgaa
open Go.ChangeShapes Go.WideShapes Go.ChangeAt Go.WideMaps Go.WideElems Go.RowKit Go.Deep Go.Joins
theorem item_of_flat {n₀ : Nat} {w : World} {a : Option Addr} {L : List ItemR} (h : 0 < L.length → ∃ b off, a = some ⟨b, off, none⟩ ∧ b < n₀ ∧ ∀ j u, (tflat L)[j]? = some u → w.cell? ⟨b, off + j, none⟩ = some u) : Items n₀ w a L := fun hl => by
  obtain ⟨b, off, e, hb, hc⟩ := h hl
  refine ⟨b, off, e, hb, fun i hi => ?_⟩
  obtain ⟨f0, f1, f2, f3, f4, f5, f6⟩ := tflat_at L i hi
  have c0 := hc _ _ f0
  have c1 := hc _ _ f1
  have c2 := hc _ _ f2
  have c3 := hc _ _ f3
  have c4 := hc _ _ f4
  have c5 := hc _ _ f5
  have c6 := hc _ _ f6
  try simp only [← Nat.add_assoc] at c0 c1 c2 c3 c4 c5 c6
  exact ⟨c0, c1, c2, c3, c4, c5, c6⟩
instance : Inhabited ItemR := ⟨⟨⟨#[]⟩, 0, 0, 0, 0, 0, 0⟩⟩
section
variable {H : Type} {enc : TypeId × Value → H} {w : World} {base : Nat} {spare : Nat → Bool} {held : Bool}
set_option maxRecDepth 100000 in
theorem open_items {fuel : Nat} {v : Value} {x : DataW H × List MemPlace} (h : DataW.trod enc Try.prog w base spare held fuel 67 [v] = some x) :
    ∃ (a : Option Addr) (cap : Nat) (L : List ItemR), v = .slice a L.length cap ∧ L.length ≤ cap ∧ cap ≤ maxLen ∧ (a = none → cap = 0) ∧ Items w.heap.size w a L := by
  obtain ⟨a, cap, L, h1, h2, h3, h4, _, h6⟩ := open_rows (P := Try.prog) (fun r : ItemR => [.string r.name, .int .i64 r.pos, .int .i64 r.width, .int .i64 r.weight, .int .i64 r.hang, .int .i64 r.front, .int .i64 r.back]) 7 (fun _ => True) (by decide) (fun _ => rfl) Try.underlying67 (by kernel_rfl) (fun n cs' y hl ht => by
    obtain ⟨m, hf⟩ := elem_fields Try.underlying103 (by kernel_rfl) (by rw [hl]; rfl) ht
    obtain ⟨v0, z0, c0, t0⟩ := hf 0 _ rfl
    obtain ⟨v1, z1, c1, t1⟩ := hf 1 _ rfl
    obtain ⟨v2, z2, c2, t2⟩ := hf 2 _ rfl
    obtain ⟨v3, z3, c3, t3⟩ := hf 3 _ rfl
    obtain ⟨v4, z4, c4, t4⟩ := hf 4 _ rfl
    obtain ⟨v5, z5, c5, t5⟩ := hf 5 _ rfl
    obtain ⟨v6, z6, c6, t6⟩ := hf 6 _ rfl
    obtain ⟨n0, e0, _, _⟩ := DataW.trod_string Try.underlying9 t0
    obtain ⟨n1, e1, _, w1⟩ := DataW.trod_int Try.underlying3 t1
    obtain ⟨n2, e2, _, w2⟩ := DataW.trod_int Try.underlying3 t2
    obtain ⟨n3, e3, _, w3⟩ := DataW.trod_int Try.underlying3 t3
    obtain ⟨n4, e4, _, w4⟩ := DataW.trod_int Try.underlying3 t4
    obtain ⟨n5, e5, _, w5⟩ := DataW.trod_int Try.underlying3 t5
    obtain ⟨n6, e6, _, w6⟩ := DataW.trod_int Try.underlying3 t6
    simp only [List.cons.injEq, and_true] at e0 e1 e2 e3 e4 e5 e6
    subst e0 e1 e2 e3 e4 e5 e6
    match cs', hl with
    | [x0, x1, x2, x3, x4, x5, x6], _ =>
      simp only [List.getElem?_cons_zero, List.getElem?_cons_succ, Option.some.injEq] at c0 c1 c2 c3 c4 c5 c6
      subst c0 c1 c2 c3 c4 c5 c6
      exact ⟨⟨n0, n1, n2, n3, n4, n5, n6⟩, rfl, trivial⟩) h
  exact ⟨a, cap, L, h1, h2, h3, h4, item_of_flat h6⟩
end
section
variable {H : Type} {enc : TypeId × Value → H} {W : World} {base : Nat}
set_option maxRecDepth 100000 in
theorem open_set {v : Value} {d : DataW H} {p : List MemPlace} (hv : Value.okWide Try.prog W .any base 70 v) (h : DataW.Trod enc Try.prog W 0 (fun _ => true) true 70 v d p) :
    ∃ r : SetR, v = .agg #[.string r.name, .int .i64 r.depth, .int .i64 r.low, .int .i64 r.high, .int .i64 r.length, .slice r.la r.lines.length r.lc, .int .i64 r.pipe, .int .i64 r.arbor, .int .i64 r.purchase, .int .i64 r.most, .int .i64 r.brake, .slice r.ia r.items.length r.ic, .slice r.ba r.bricks.length r.bc] ∧ SetIn0 W r := by
  obtain ⟨cs, rfl, hsz⟩ := okWide_struct Try.underlying70 hv
  obtain ⟨l⟩ := cs
  match l, hsz.trans (show Try.prog.cellsOf 70 = 13 by kernel_rfl) with
  | [x0, x1, x2, x3, x4, x5, x6, x7, x8, x9, x10, x11, x12], _ =>
    obtain ⟨fuel, hf0⟩ := h
    obtain ⟨m, hf⟩ := elem_fields (cs' := [x0, x1, x2, x3, x4, x5, x6, x7, x8, x9, x10, x11, x12]) Try.underlying70 (by kernel_rfl) rfl (by simpa [Value.cells] using hf0)
    obtain ⟨v0, z0, c0, t0⟩ := hf 0 _ rfl
    obtain ⟨v1, z1, c1, t1⟩ := hf 1 _ rfl
    obtain ⟨v2, z2, c2, t2⟩ := hf 2 _ rfl
    obtain ⟨v3, z3, c3, t3⟩ := hf 3 _ rfl
    obtain ⟨v4, z4, c4, t4⟩ := hf 4 _ rfl
    obtain ⟨v5, z5, c5, t5⟩ := hf 5 _ rfl
    obtain ⟨v6, z6, c6, t6⟩ := hf 6 _ rfl
    obtain ⟨v7, z7, c7, t7⟩ := hf 7 _ rfl
    obtain ⟨v8, z8, c8, t8⟩ := hf 8 _ rfl
    obtain ⟨v9, z9, c9, t9⟩ := hf 9 _ rfl
    obtain ⟨v10, z10, c10, t10⟩ := hf 10 _ rfl
    obtain ⟨v11, z11, c11, t11⟩ := hf 11 _ rfl
    obtain ⟨v12, z12, c12, t12⟩ := hf 12 _ rfl
    simp only [List.getElem?_cons_zero, List.getElem?_cons_succ, Option.some.injEq] at c0 c1 c2 c3 c4 c5 c6 c7 c8 c9 c10 c11 c12
    subst c0 c1 c2 c3 c4 c5 c6 c7 c8 c9 c10 c11 c12
    obtain ⟨n0, e0, _, _⟩ := DataW.trod_string Try.underlying9 t0
    obtain ⟨n1, e1, _, w1⟩ := DataW.trod_int Try.underlying3 t1
    obtain ⟨n2, e2, _, w2⟩ := DataW.trod_int Try.underlying3 t2
    obtain ⟨n3, e3, _, w3⟩ := DataW.trod_int Try.underlying3 t3
    obtain ⟨n4, e4, _, w4⟩ := DataW.trod_int Try.underlying3 t4
    obtain ⟨n6, e6, _, w6⟩ := DataW.trod_int Try.underlying3 t6
    obtain ⟨n7, e7, _, w7⟩ := DataW.trod_int Try.underlying3 t7
    obtain ⟨n8, e8, _, w8⟩ := DataW.trod_int Try.underlying3 t8
    obtain ⟨n9, e9, _, w9⟩ := DataW.trod_int Try.underlying3 t9
    obtain ⟨n10, e10, _, w10⟩ := DataW.trod_int Try.underlying3 t10
    obtain ⟨la, lc, L, rfl, l1, l2, l3, _, l4⟩ := open_nums t5
    obtain ⟨ia, ic, I, rfl, i1, i2, i3, i4⟩ := open_items t11
    obtain ⟨ba, bc, B, rfl, b1, b2, b3, b4⟩ := open_bricks t12
    simp only [List.cons.injEq, and_true] at e0 e1 e2 e3 e4 e6 e7 e8 e9 e10
    subst e0 e1 e2 e3 e4 e6 e7 e8 e9 e10
    exact ⟨⟨n0, n1, n2, n3, n4, la, L, lc, n6, n7, n8, n9, n10, ia, I, ic, ba, B, bc⟩, rfl, ⟨l4, i4, b4, l1, i1, b1, l3, i3, b3⟩⟩
end
end Go.Proofs.Ythldfijlcoobgaa
namespace Go.Proofs.Ythldfijlcoobgaa
open Go.ChangeShapes Go.WideShapes Go.ChangeAt Go.WideMaps Go.WideElems Go.RowKit Go.Deep Go.Joins
instance : Inhabited RoofR := ⟨⟨⟨#[]⟩, 0, 0, 0⟩⟩
instance : Inhabited SetR := ⟨⟨⟨#[]⟩, 0, 0, 0, 0, none, [], 0, 0, 0, 0, 0, 0, none, [], 0, none, [], 0⟩⟩
theorem roof_of_flat {n₀ : Nat} {w : World} {a : Option Addr} {L : List RoofR} (h : 0 < L.length → ∃ b off, a = some ⟨b, off, none⟩ ∧ b < n₀ ∧ ∀ j u, (rflat L)[j]? = some u → w.cell? ⟨b, off + j, none⟩ = some u) : Roofs n₀ w a L := fun hl => by
  obtain ⟨b, off, e, hb, hc⟩ := h hl
  refine ⟨b, off, e, hb, fun i hi => ?_⟩
  obtain ⟨f0, f1, f2, f3⟩ := rflat_at L i hi
  have c0 := hc _ _ f0
  have c1 := hc _ _ f1
  have c2 := hc _ _ f2
  have c3 := hc _ _ f3
  try simp only [← Nat.add_assoc] at c0 c1 c2 c3
  exact ⟨c0, c1, c2, c3⟩
theorem set_of_flat {n₀ : Nat} {w : World} {a : Option Addr} {L : List SetR} (h : 0 < L.length → ∃ b off, a = some ⟨b, off, none⟩ ∧ b < n₀ ∧ ∀ j u, (hsflat L)[j]? = some u → w.cell? ⟨b, off + j, none⟩ = some u) : SetRows n₀ w a L := fun hl => by
  obtain ⟨b, off, e, hb, hc⟩ := h hl
  refine ⟨b, off, e, hb, fun i hi => ?_⟩
  obtain ⟨f0, f1, f2, f3, f4, f5, f6, f7, f8, f9, f10, f11, f12⟩ := hsflat_at L i hi
  have c0 := hc _ _ f0
  have c1 := hc _ _ f1
  have c2 := hc _ _ f2
  have c3 := hc _ _ f3
  have c4 := hc _ _ f4
  have c5 := hc _ _ f5
  have c6 := hc _ _ f6
  have c7 := hc _ _ f7
  have c8 := hc _ _ f8
  have c9 := hc _ _ f9
  have c10 := hc _ _ f10
  have c11 := hc _ _ f11
  have c12 := hc _ _ f12
  try simp only [← Nat.add_assoc] at c0 c1 c2 c3 c4 c5 c6 c7 c8 c9 c10 c11 c12
  exact ⟨c0, c1, c2, c3, c4, c5, c6, c7, c8, c9, c10, c11, c12⟩
section
variable {H : Type} {enc : TypeId × Value → H} {w : World} {base : Nat} {spare : Nat → Bool} {held : Bool}
set_option maxRecDepth 100000 in
theorem open_roofs {fuel : Nat} {v : Value} {x : DataW H × List MemPlace} (h : DataW.trod enc Try.prog w base spare held fuel 23 [v] = some x) :
    ∃ (a : Option Addr) (cap : Nat) (L : List RoofR), v = .slice a L.length cap ∧ L.length ≤ cap ∧ cap ≤ maxLen ∧ (a = none → cap = 0) ∧ Roofs w.heap.size w a L := by
  obtain ⟨a, cap, L, h1, h2, h3, h4, _, h6⟩ := open_rows (P := Try.prog) (fun r : RoofR => [.string r.name, .int .i64 r.lo, .int .i64 r.hi, .int .i64 r.most]) 4 (fun _ => True) (by decide) (fun _ => rfl) Try.underlying23 (by kernel_rfl) (fun n cs' y hl ht => by
    obtain ⟨m, hf⟩ := elem_fields Try.underlying87 (by kernel_rfl) (by rw [hl]; rfl) ht
    obtain ⟨v0, z0, c0, t0⟩ := hf 0 _ rfl
    obtain ⟨v1, z1, c1, t1⟩ := hf 1 _ rfl
    obtain ⟨v2, z2, c2, t2⟩ := hf 2 _ rfl
    obtain ⟨v3, z3, c3, t3⟩ := hf 3 _ rfl
    obtain ⟨n0, e0, _, _⟩ := DataW.trod_string Try.underlying9 t0
    obtain ⟨n1, e1, _, w1⟩ := DataW.trod_int Try.underlying3 t1
    obtain ⟨n2, e2, _, w2⟩ := DataW.trod_int Try.underlying3 t2
    obtain ⟨n3, e3, _, w3⟩ := DataW.trod_int Try.underlying3 t3
    simp only [List.cons.injEq, and_true] at e0 e1 e2 e3
    subst e0 e1 e2 e3
    match cs', hl with
    | [x0, x1, x2, x3], _ =>
      simp only [List.getElem?_cons_zero, List.getElem?_cons_succ, Option.some.injEq] at c0 c1 c2 c3
      subst c0 c1 c2 c3
      exact ⟨⟨n0, n1, n2, n3⟩, rfl, trivial⟩) h
  exact ⟨a, cap, L, h1, h2, h3, h4, roof_of_flat h6⟩
set_option maxRecDepth 100000 in
theorem open_sets {fuel : Nat} {v : Value} {x : DataW H × List MemPlace} (h : DataW.trod enc Try.prog w base spare held fuel 22 [v] = some x) :
    ∃ (a : Option Addr) (cap : Nat) (L : List SetR), v = .slice a L.length cap ∧ L.length ≤ cap ∧ cap ≤ maxLen ∧ (a = none → cap = 0) ∧ (∀ r ∈ L, SetIn0 w r) ∧ SetRows w.heap.size w a L := by
  obtain ⟨a, cap, L, h1, h2, h3, h4, h5, h6⟩ := open_rows (P := Try.prog) (fun r : SetR => [.string r.name, .int .i64 r.depth, .int .i64 r.low, .int .i64 r.high, .int .i64 r.length, .slice r.la r.lines.length r.lc, .int .i64 r.pipe, .int .i64 r.arbor, .int .i64 r.purchase, .int .i64 r.most, .int .i64 r.brake, .slice r.ia r.items.length r.ic, .slice r.ba r.bricks.length r.bc]) 13 (fun r => SetIn0 w r) (by decide) (fun _ => rfl) Try.underlying22 (by kernel_rfl) (fun n cs' y hl ht => by
    obtain ⟨m, hf⟩ := elem_fields Try.underlying70 (by kernel_rfl) (by rw [hl]; rfl) ht
    obtain ⟨v0, z0, c0, t0⟩ := hf 0 _ rfl
    obtain ⟨v1, z1, c1, t1⟩ := hf 1 _ rfl
    obtain ⟨v2, z2, c2, t2⟩ := hf 2 _ rfl
    obtain ⟨v3, z3, c3, t3⟩ := hf 3 _ rfl
    obtain ⟨v4, z4, c4, t4⟩ := hf 4 _ rfl
    obtain ⟨v5, z5, c5, t5⟩ := hf 5 _ rfl
    obtain ⟨v6, z6, c6, t6⟩ := hf 6 _ rfl
    obtain ⟨v7, z7, c7, t7⟩ := hf 7 _ rfl
    obtain ⟨v8, z8, c8, t8⟩ := hf 8 _ rfl
    obtain ⟨v9, z9, c9, t9⟩ := hf 9 _ rfl
    obtain ⟨v10, z10, c10, t10⟩ := hf 10 _ rfl
    obtain ⟨v11, z11, c11, t11⟩ := hf 11 _ rfl
    obtain ⟨v12, z12, c12, t12⟩ := hf 12 _ rfl
    obtain ⟨n0, e0, _, _⟩ := DataW.trod_string Try.underlying9 t0
    obtain ⟨n1, e1, _, w1⟩ := DataW.trod_int Try.underlying3 t1
    obtain ⟨n2, e2, _, w2⟩ := DataW.trod_int Try.underlying3 t2
    obtain ⟨n3, e3, _, w3⟩ := DataW.trod_int Try.underlying3 t3
    obtain ⟨n4, e4, _, w4⟩ := DataW.trod_int Try.underlying3 t4
    obtain ⟨n6, e6, _, w6⟩ := DataW.trod_int Try.underlying3 t6
    obtain ⟨n7, e7, _, w7⟩ := DataW.trod_int Try.underlying3 t7
    obtain ⟨n8, e8, _, w8⟩ := DataW.trod_int Try.underlying3 t8
    obtain ⟨n9, e9, _, w9⟩ := DataW.trod_int Try.underlying3 t9
    obtain ⟨n10, e10, _, w10⟩ := DataW.trod_int Try.underlying3 t10
    obtain ⟨la, lc, L, rfl, l1, l2, l3, _, l4⟩ := open_nums t5
    obtain ⟨ia, ic, I, rfl, i1, i2, i3, i4⟩ := open_items t11
    obtain ⟨ba, bc, B, rfl, b1, b2, b3, b4⟩ := open_bricks t12
    simp only [List.cons.injEq, and_true] at e0 e1 e2 e3 e4 e6 e7 e8 e9 e10
    subst e0 e1 e2 e3 e4 e6 e7 e8 e9 e10
    match cs', hl with
    | [x0, x1, x2, x3, x4, x5, x6, x7, x8, x9, x10, x11, x12], _ =>
      simp only [List.getElem?_cons_zero, List.getElem?_cons_succ, Option.some.injEq] at c0 c1 c2 c3 c4 c5 c6 c7 c8 c9 c10 c11 c12
      subst c0 c1 c2 c3 c4 c5 c6 c7 c8 c9 c10 c11 c12
      exact ⟨⟨n0, n1, n2, n3, n4, la, L, lc, n6, n7, n8, n9, n10, ia, I, ic, ba, B, bc⟩, rfl, ⟨l4, i4, b4, l1, i1, b1, l3, i3, b3⟩⟩) h
  exact ⟨a, cap, L, h1, h2, h3, h4, h5, set_of_flat h6⟩
end
section
variable {H : Type} {enc : TypeId × Value → H} {W : World} {base : Nat}
set_option maxRecDepth 100000 in
theorem open_house {v : Value} {d : DataW H} {p : List MemPlace} (hv : Value.okWide Try.prog W .any base 25 v) (h : DataW.Trod enc Try.prog W 0 (fun _ => true) true 25 v d p) :
    ∃ r : HouseR, v = .agg #[.string r.name, .int .i64 r.height, .slice r.sa r.sets.length r.sc, .slice r.ra r.roofs.length r.rc] ∧ HouseIn0 W r := by
  obtain ⟨cs, rfl, hsz⟩ := okWide_struct Try.underlying25 hv
  obtain ⟨l⟩ := cs
  match l, hsz.trans (show Try.prog.cellsOf 25 = 4 by kernel_rfl) with
  | [x0, x1, x2, x3], _ =>
    obtain ⟨fuel, hf0⟩ := h
    obtain ⟨m, hf⟩ := elem_fields (cs' := [x0, x1, x2, x3]) Try.underlying25 (by kernel_rfl) rfl (by simpa [Value.cells] using hf0)
    obtain ⟨v0, z0, c0, t0⟩ := hf 0 _ rfl
    obtain ⟨v1, z1, c1, t1⟩ := hf 1 _ rfl
    obtain ⟨v2, z2, c2, t2⟩ := hf 2 _ rfl
    obtain ⟨v3, z3, c3, t3⟩ := hf 3 _ rfl
    simp only [List.getElem?_cons_zero, List.getElem?_cons_succ, Option.some.injEq] at c0 c1 c2 c3
    subst c0 c1 c2 c3
    obtain ⟨n0, e0, _, _⟩ := DataW.trod_string Try.underlying9 t0
    obtain ⟨n1, e1, _, w1⟩ := DataW.trod_int Try.underlying3 t1
    obtain ⟨sa, sc, S, rfl, s1, s2, s3, s4, s5⟩ := open_sets t2
    obtain ⟨ra, rc, R, rfl, r1, r2, r3, r4⟩ := open_roofs t3
    simp only [List.cons.injEq, and_true] at e0 e1
    subst e0 e1
    exact ⟨⟨n0, n1, sa, S, sc, ra, R, rc⟩, rfl, ⟨s5, r4, fun i hi => s4 _ (by rw [hsg_eq S i hi]; exact List.getElem_mem hi), s1, r1, s3, r3⟩⟩
end
end Go.Proofs.Ythldfijlcoobgaa
namespace Go.Proofs.Ythldfijlcoobgaa
open Go.ChangeShapes Go.WideShapes Go.ChangeAt Go.WideMaps Go.WideElems Go.RowKit Go.Deep Go.Joins
instance : Inhabited MovR := ⟨⟨⟨#[]⟩, 0, 0, 0, 0⟩⟩
instance : Inhabited CueR := ⟨⟨⟨#[]⟩, ⟨#[]⟩, 0, 0, none, [], 0, 0, 0⟩⟩
theorem mov_of_flat {n₀ : Nat} {w : World} {a : Option Addr} {L : List MovR} (h : 0 < L.length → ∃ b off, a = some ⟨b, off, none⟩ ∧ b < n₀ ∧ ∀ j u, (mflat L)[j]? = some u → w.cell? ⟨b, off + j, none⟩ = some u) : Movs n₀ w a L := fun hl => by
  obtain ⟨b, off, e, hb, hc⟩ := h hl
  refine ⟨b, off, e, hb, fun i hi => ?_⟩
  obtain ⟨f0, f1, f2, f3, f4⟩ := mflat_at L i hi
  have c0 := hc _ _ f0
  have c1 := hc _ _ f1
  have c2 := hc _ _ f2
  have c3 := hc _ _ f3
  have c4 := hc _ _ f4
  try simp only [← Nat.add_assoc] at c0 c1 c2 c3 c4
  exact ⟨c0, c1, c2, c3, c4⟩
theorem pair_of_flat {n₀ : Nat} {w : World} {a : Option Addr} {L : List (ByteArray × ByteArray)} (h : 0 < L.length → ∃ b off, a = some ⟨b, off, none⟩ ∧ b < n₀ ∧ ∀ j u, (pflat L)[j]? = some u → w.cell? ⟨b, off + j, none⟩ = some u) : Pairs n₀ w a L := fun hl => by
  obtain ⟨b, off, e, hb, hc⟩ := h hl
  refine ⟨b, off, e, hb, fun i hi => ?_⟩
  obtain ⟨f0, f1⟩ := pflat_at L i hi
  have c0 := hc _ _ f0
  have c1 := hc _ _ f1
  try simp only [← Nat.add_assoc] at c0 c1
  exact ⟨c0, c1⟩

theorem cue_of_flat {n₀ : Nat} {w : World} {a : Option Addr} {L : List (CueR)} (h : 0 < L.length → ∃ b off, a = some ⟨b, off, none⟩ ∧ b < n₀ ∧ ∀ j u, (cflat L)[j]? = some u → w.cell? ⟨b, off + j, none⟩ = some u) : Cues n₀ w a L := fun hl => by
  obtain ⟨b, off, e, hb, hc⟩ := h hl
  refine ⟨b, off, e, hb, fun i hi => ?_⟩
  obtain ⟨f0, f1, f2, f3, f4, f5, f6⟩ := cflat_at L i hi
  have c0 := hc _ _ f0
  have c1 := hc _ _ f1
  have c2 := hc _ _ f2
  have c3 := hc _ _ f3
  have c4 := hc _ _ f4
  have c5 := hc _ _ f5
  have c6 := hc _ _ f6
  try simp only [← Nat.add_assoc] at c0 c1 c2 c3 c4 c5 c6
  exact ⟨c0, c1, c2, c3, c4, c5, c6⟩

section
variable {H : Type} {enc : TypeId × Value → H} {w : World} {base : Nat} {spare : Nat → Bool} {held : Bool}
set_option maxRecDepth 100000 in
theorem open_movs {fuel : Nat} {v : Value} {x : DataW H × List MemPlace} (h : DataW.trod enc Try.prog w base spare held fuel 37 [v] = some x) :
    ∃ (a : Option Addr) (cap : Nat) (L : List MovR), v = .slice a L.length cap ∧ L.length ≤ cap ∧ cap ≤ maxLen ∧ (a = none → cap = 0) ∧ Movs w.heap.size w a L := by
  obtain ⟨a, cap, L, h1, h2, h3, h4, _, h6⟩ := open_rows (P := Try.prog) (fun r : MovR => [.string r.set, .int .i64 r.dest, .int .i64 r.speed, .int .i64 r.rise, .int .i64 r.fall]) 5 (fun _ => True) (by decide) (fun _ => rfl) Try.underlying37 (by kernel_rfl) (fun n cs' y hl ht => by
    obtain ⟨m, hf⟩ := elem_fields Try.underlying62 (by kernel_rfl) (by rw [hl]; rfl) ht
    obtain ⟨v0, z0, c0, t0⟩ := hf 0 _ rfl
    obtain ⟨v1, z1, c1, t1⟩ := hf 1 _ rfl
    obtain ⟨v2, z2, c2, t2⟩ := hf 2 _ rfl
    obtain ⟨v3, z3, c3, t3⟩ := hf 3 _ rfl
    obtain ⟨v4, z4, c4, t4⟩ := hf 4 _ rfl
    obtain ⟨n0, e0, _, _⟩ := DataW.trod_string Try.underlying9 t0
    obtain ⟨n1, e1, _, w1⟩ := DataW.trod_int Try.underlying3 t1
    obtain ⟨n2, e2, _, w2⟩ := DataW.trod_int Try.underlying3 t2
    obtain ⟨n3, e3, _, w3⟩ := DataW.trod_int Try.underlying3 t3
    obtain ⟨n4, e4, _, w4⟩ := DataW.trod_int Try.underlying3 t4
    simp only [List.cons.injEq, and_true] at e0 e1 e2 e3 e4
    subst e0 e1 e2 e3 e4
    match cs', hl with
    | [x0, x1, x2, x3, x4], _ =>
      simp only [List.getElem?_cons_zero, List.getElem?_cons_succ, Option.some.injEq] at c0 c1 c2 c3 c4
      subst c0 c1 c2 c3 c4
      exact ⟨⟨n0, n1, n2, n3, n4⟩, rfl, trivial⟩) h
  exact ⟨a, cap, L, h1, h2, h3, h4, mov_of_flat h6⟩
set_option maxRecDepth 100000 in
theorem open_pairs {fuel : Nat} {v : Value} {x : DataW H × List MemPlace} (h : DataW.trod enc Try.prog w base spare held fuel 27 [v] = some x) :
    ∃ (a : Option Addr) (cap : Nat) (L : List (ByteArray × ByteArray)), v = .slice a L.length cap ∧ L.length ≤ cap ∧ cap ≤ maxLen ∧ (a = none → cap = 0) ∧ Pairs w.heap.size w a L := by
  obtain ⟨a, cap, L, h1, h2, h3, h4, _, h6⟩ := open_rows (P := Try.prog) (fun r : ByteArray × ByteArray => [Value.string r.1, Value.string r.2]) 2 (fun _ => True) (by decide) (fun _ => rfl) Try.underlying27 (by kernel_rfl) (fun n cs' y hl ht => by
    obtain ⟨xs, m, _, _, _, hxl, hel⟩ := DataW.trod_array Try.underlying176 ht
    match cs', hl with
    | [c0, c1], _ =>
      have e0 := hel 0 (by decide)
      have e1 := hel 1 (by decide)
      have hC : Try.prog.cellsOf 9 = 1 := by kernel_rfl
      rw [hC] at e0 e1
      match xs, hxl with
      | [y0, y1], _ =>
        obtain ⟨s0, r0, _⟩ := DataW.trod_string Try.underlying9 (cs := [c0]) (x := y0) e0
        obtain ⟨s1, r1, _⟩ := DataW.trod_string Try.underlying9 (cs := [c1]) (x := y1) e1
        simp only [List.cons.injEq, and_true] at r0 r1
        subst r0 r1
        exact ⟨(s0, s1), rfl, trivial⟩) h
  exact ⟨a, cap, L, h1, h2, h3, h4, pair_of_flat h6⟩
/-- What lies behind one cue. -/
def CueIn0 (w : World) (r : CueR) : Prop := Movs w.heap.size w r.ma r.moves ∧ r.moves.length ≤ r.mc ∧ (r.ma = none → r.mc = 0)
set_option maxRecDepth 100000 in
theorem open_cues {fuel : Nat} {v : Value} {x : DataW H × List MemPlace} (h : DataW.trod enc Try.prog w base spare held fuel 26 [v] = some x) :
    ∃ (a : Option Addr) (cap : Nat) (L : List CueR), v = .slice a L.length cap ∧ L.length ≤ cap ∧ cap ≤ maxLen ∧ (a = none → cap = 0) ∧ (∀ r ∈ L, CueIn0 w r) ∧ Cues w.heap.size w a L := by
  obtain ⟨a, cap, L, h1, h2, h3, h4, h5, h6⟩ := open_rows (P := Try.prog) (fun r : CueR => [.string r.name, .string r.after, .int .i64 r.link, .int .i64 r.delay, .slice r.ma r.moves.length r.mc, .int .i64 r.crew, .int .i64 r.power]) 7 (fun r => CueIn0 w r) (by decide) (fun _ => rfl) Try.underlying26 (by kernel_rfl) (fun n cs' y hl ht => by
    obtain ⟨m, hf⟩ := elem_fields Try.underlying39 (by kernel_rfl) (by rw [hl]; rfl) ht
    obtain ⟨v0, z0, c0, t0⟩ := hf 0 _ rfl
    obtain ⟨v1, z1, c1, t1⟩ := hf 1 _ rfl
    obtain ⟨v2, z2, c2, t2⟩ := hf 2 _ rfl
    obtain ⟨v3, z3, c3, t3⟩ := hf 3 _ rfl
    obtain ⟨v4, z4, c4, t4⟩ := hf 4 _ rfl
    obtain ⟨v5, z5, c5, t5⟩ := hf 5 _ rfl
    obtain ⟨v6, z6, c6, t6⟩ := hf 6 _ rfl
    obtain ⟨n0, e0, _, w0⟩ := DataW.trod_string Try.underlying9 t0
    obtain ⟨n1, e1, _, w1⟩ := DataW.trod_string Try.underlying9 t1
    obtain ⟨n2, e2, _, w2⟩ := DataW.trod_int Try.underlying3 t2
    obtain ⟨n3, e3, _, w3⟩ := DataW.trod_int Try.underlying3 t3
    obtain ⟨n5, e5, _, w5⟩ := DataW.trod_int Try.underlying3 t5
    obtain ⟨n6, e6, _, w6⟩ := DataW.trod_int Try.underlying3 t6
    obtain ⟨a4, k4, M, rfl, m1, m2, m3, m4⟩ := open_movs t4
    simp only [List.cons.injEq, and_true] at e0 e1 e2 e3 e5 e6
    subst e0 e1 e2 e3 e5 e6
    match cs', hl with
    | [x0, x1, x2, x3, x4, x5, x6], _ =>
      simp only [List.getElem?_cons_zero, List.getElem?_cons_succ, Option.some.injEq] at c0 c1 c2 c3 c4 c5 c6
      subst c0 c1 c2 c3 c4 c5 c6
      exact ⟨⟨n0, n1, n2, n3, a4, M, k4, n5, n6⟩, rfl, ⟨m4, m1, m3⟩⟩) h
  exact ⟨a, cap, L, h1, h2, h3, h4, h5, cue_of_flat h6⟩
end
section
variable {H : Type} {enc : TypeId × Value → H} {W : World} {base : Nat}
set_option maxRecDepth 100000 in
theorem open_sheet {v : Value} {d : DataW H} {p : List MemPlace} (hv : Value.okWide Try.prog W .any base 29 v) (h : DataW.Trod enc Try.prog W 0 (fun _ => true) true 29 v d p) :
    ∃ s : SheetR, v = .agg #[.slice s.ca s.cues.length s.cc, .slice s.pa s.pairs.length s.pc] ∧ SheetIn0 W s := by
  obtain ⟨v0, v1, y0, y1, n, rfl, _, _, h0, h1⟩ := open_agg2 Try.underlying29 (by kernel_rfl) (by kernel_rfl) hv h
  obtain ⟨ca, cc, L, rfl, c1, c2, c3, c4, c5⟩ := open_cues h0
  obtain ⟨pa, pc, A, rfl, p1, p2, p3, p4⟩ := open_pairs h1
  have hm : ∀ i, i < L.length → CueIn0 W (cg L i) := fun i hi => c4 _ (by rw [cg_eq L i hi]; exact List.getElem_mem hi)
  exact ⟨⟨ca, L, cc, pa, A, pc⟩, rfl, ⟨c5, fun i hi => (hm i hi).1, p4, c1, c3, fun i hi => (hm i hi).2.1, fun i hi => (hm i hi).2.2, p1, p3⟩⟩
end
end Go.Proofs.Ythldfijlcoobgaa
