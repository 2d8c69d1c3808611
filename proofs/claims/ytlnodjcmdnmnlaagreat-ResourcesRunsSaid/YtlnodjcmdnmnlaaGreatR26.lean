/-
  THE WALKS of timeline.made, whole, and timeline.Ends.
  HOW BEGINNINGS LIE IN MEMORY.
  THE WALK of timeline.Begins.
  THE WALK of timeline.Busy at a time that is allowed.
  HOW SLICES LIE IN MEMORY (loads, uses, parts, tasks, numbers).
-/
import Derived.Deep.AppendLies
import Derived.Test.YtlnodjcmdnmnlaaGreatRows
import Derived.WalkKit
import Derived.WalkSpells
import Derived.WalkLawsBesides
import Derived.Deep.QuietTactic
import Derived.BigQuiet
import Derived.Lib.Hide
import Derived.Maps.AppendAt
import Derived.Shelf.Abstract
import Derived.Deep.RegionLaw
import Derived.Deep.RegionLawGrows
import Derived.Test.YtlnodjcmdnmnlaaGreatR25
import Derived.Test.YtlnodjcmdnmnlaaGreatR2
import Derived.Test.YtlnodjcmdnmnlaaGreatR1
import Derived.Test.YtlnodjcmdnmnlaaGreatR24
namespace Go.Proofs.YtlnodjcmdnmnlaaGreat
open Go.RowKit Go.Shelf
attribute [local go_sem] Oper.semAt_some
noncomputable def planN (h : HouseR) (s : SheetR) : List Int := lensL h s.cues s.cues.length
noncomputable def planE (h : HouseR) (s : SheetR) (G : List Int) : Int := if sheetB h s = true then (startsP s.cues s.pairs (planN h s) G).2 else 1
noncomputable def planS (h : HouseR) (s : SheetR) (G : List Int) : List Int := (startsP s.cues s.pairs (planN h s) G).1
theorem plan_sheet {h : HouseR} {s : SheetR} {G : List Int} (e : planE h s G = 0) : SheetOK h s ∧ PlanOK s.cues s.pairs (planN h s) G (planS h s G) := by
 unfold planE at e
 by_cases c : sheetB h s = true
 ·rw [if_pos c] at e
  have ok := sheetB_iff.1 c
  exact ⟨ok, plan_ok e ok.cues⟩
 ·rw [if_neg c] at e; cases e
def PlanAt (w : World) (h : HouseR) (s : SheetR) (G : List Int) (sa na : Option Addr) (sn nn : Nat) : Prop := sn = s.cues.length ∧ nn = s.cues.length ∧ Nums w.heap.size w sa (planS h s G) ∧ Nums w.heap.size w na (planN h s)
set_option maxHeartbeats 4000000 in
theorem made_any (h : HouseR) (s : SheetR) (ga : Option Addr) (G : List Int) (gc : Nat) (w : World) (hh : HouseIn w h) (hs : SheetIn w s) (hG : Nums w.heap.size w ga G) (hgl : G.length ≤ 1000) :
  Calls Tryz.prog 25 #[.agg #[.string h.name, .int .i64 h.height, .slice h.sa h.sets.length h.sc, .slice h.ra h.roofs.length h.rc], .agg #[.slice s.ca s.cues.length s.cc, .slice s.pa s.pairs.length s.pc], .slice ga G.length gc] w fun e w' => Hid (∃ (ta : Option Addr) (tn tc : Nat) (sa : Option Addr) (sn sc : Nat) (na : Option Addr) (nn nc : Nat), e = .returned (.tuple #[.agg #[.slice ta tn tc, .slice sa sn sc, .slice na nn nc], .int .i64 (planE h s G)]) ∧ (planE h s G = 0 → PlanAt w' h s G sa na sn nn)) ∧ Below w.heap.size w w' := by
 cases hv : sheetB h s
 ·refine (made_no h s ga G gc w hh hs hG hv).mono fun e w' z => ⟨Lib.hid ⟨none, 0, 0, none, 0, 0, none, 0, 0, z.1.trans ?_, ?_⟩, z.2⟩
  ·unfold planE; rw [hv]; rfl
  ·intro q; unfold planE at q; rw [hv] at q; cases q
 ·refine (made_yes h s ga G gc w hh hs hG hgl hv).mono fun e w' z => ⟨?_, z.2⟩
  obtain ⟨ta, tc, na, nc, sv, he, hn, ho⟩ := z.1.out
  obtain ⟨sa, sc, hsv, -, -, -, hsn⟩ := num_of_row ho
  subst hsv
  refine Lib.hid ⟨ta, _, tc, sa, _, sc, na, _, nc, he.trans (by unfold planE; rw [if_pos hv]; rfl), fun q => ?_⟩
  have po := plan_sheet q
  exact ⟨po.2.lenS, rfl, hsn, hn⟩
noncomputable def endsL (h : HouseR) (s : SheetR) (G : List Int) (n : Nat) : List Int := (List.range n).map fun i => ig (planS h s G) i + ig (planN h s) i
theorem endsL_snoc (h : HouseR) (s : SheetR) (G : List Int) (n : Nat) : endsL h s G (n + 1) = endsL h s G n ++ [ig (planS h s G) n + ig (planN h s) n] := by
 unfold endsL
 rw [List.range_succ, List.map_append]
 rfl
theorem endsL_len (h : HouseR) (s : SheetR) (G : List Int) (n : Nat) : (endsL h s G n).length = n := by unfold endsL; rw [List.length_map, List.length_range]
noncomputable def endsP (h : HouseR) (s : SheetR) (G : List Int) : List Int := if planE h s G = 0 then endsL h s G s.cues.length else []
set_option maxRecDepth 100000 in
set_option maxHeartbeats 16000000 in
theorem ends_any (h : HouseR) (s : SheetR) (ga : Option Addr) (G : List Int) (gc : Nat) (w : World) (hh : HouseIn w h) (hs : SheetIn w s) (hG : Nums w.heap.size w ga G) (hgl : G.length ≤ 1000) :
  Calls Tryz.prog 35 #[.agg #[.string h.name, .int .i64 h.height, .slice h.sa h.sets.length h.sc, .slice h.ra h.roofs.length h.rc], .agg #[.slice s.ca s.cues.length s.cc, .slice s.pa s.pairs.length s.pc], .slice ga G.length gc] w fun e w' => Hid (∃ v, e = .returned (.tuple #[v, .int .i64 (planE h s G)]) ∧ w'.ownsRow w.heap.size 3 1 v (endsP h s G).length (nflat (endsP h s G))) ∧ Below w.heap.size w w' := by
 have hb0 : Below w.heap.size w ((w.alloc (.cells #[.string h.name, .int .i64 h.height, .slice h.sa h.sets.length h.sc, .slice h.ra h.roofs.length h.rc] 25)).alloc (.cells #[.slice s.ca s.cues.length s.cc, .slice s.pa s.pairs.length s.pc] 29)) := (below_new w _).alloc (by simp) _
 have HX : Hid (∀ w', Below ((w.alloc (.cells #[.string h.name, .int .i64 h.height, .slice h.sa h.sets.length h.sc, .slice h.ra h.roofs.length h.rc] 25)).alloc (.cells #[.slice s.ca s.cues.length s.cc, .slice s.pa s.pairs.length s.pc] 29)).heap.size ((w.alloc (.cells #[.string h.name, .int .i64 h.height, .slice h.sa h.sets.length h.sc, .slice h.ra h.roofs.length h.rc] 25)).alloc (.cells #[.slice s.ca s.cues.length s.cc, .slice s.pa s.pairs.length s.pc] 29)) w' → HouseAt w' w.heap.size h ∧ SheetAt w' (w.heap.size + 1) s ∧ HouseIn w' h ∧ SheetIn w' s ∧ Nums w'.heap.size w' ga G) := Lib.hid fun w' z =>
  ⟨((HouseAt.new w h _).carry (below_new _ _)).carry z, (show SheetAt ((w.alloc (.cells #[.string h.name, .int .i64 h.height, .slice h.sa h.sets.length h.sc, .slice h.ra h.roofs.length h.rc] 25)).alloc (.cells #[.slice s.ca s.cues.length s.cc, .slice s.pa s.pairs.length s.pc] 29)) (w.heap.size + 1) s by unfold SheetAt; simp).carry z, (hh.grow hb0).grow z, (hs.grow hb0).grow z, (hG.grow hb0).grow z⟩
 have HW : Hid (∀ w', Below ((w.alloc (.cells #[.string h.name, .int .i64 h.height, .slice h.sa h.sets.length h.sc, .slice h.ra h.roofs.length h.rc] 25)).alloc (.cells #[.slice s.ca s.cues.length s.cc, .slice s.pa s.pairs.length s.pc] 29)).heap.size ((w.alloc (.cells #[.string h.name, .int .i64 h.height, .slice h.sa h.sets.length h.sc, .slice h.ra h.roofs.length h.rc] 25)).alloc (.cells #[.slice s.ca s.cues.length s.cc, .slice s.pa s.pairs.length s.pc] 29)) w' → Below w.heap.size w w') := Lib.hid fun w' z => hb0.trans (z.mono hb0.size)
 have HP := Lib.hid fun (q : planE h s G = 0) => plan_sheet q
 have hcl := hs.clen
 clear hh hs hG hb0
 obtain ⟨E, hE⟩ : ∃ E, planE h s G = E := ⟨_, rfl⟩
 by_cases hz : E = 0
 case neg =>
  have HE := Lib.hid hE
  have HEP : Hid (endsP h s G = []) := Lib.hid (by unfold endsP; rw [hE, if_neg hz])
  have g0 : (E != 0) = true := bne_iff_ne.2 hz
  clear hz hE
  go_enter Tryz.func35, Tryz.ntmps35
  go_upto_region 1 with (fail)
  obtain ⟨W0, hW0⟩ : ∃ W0 : World, ((w.alloc (.cells #[.string h.name, .int .i64 h.height, .slice h.sa h.sets.length h.sc, .slice h.ra h.roofs.length h.rc] 25)).alloc (.cells #[.slice s.ca s.cues.length s.cc, .slice s.pa s.pairs.length s.pc] 29)) = W0 := ⟨_, rfl⟩
  simp only [hW0] at HX HW ⊢
  clear hW0
  obtain ⟨B1, hB1⟩ : ∃ b, w.heap.size = b := ⟨_, rfl⟩
  obtain ⟨B2, hB2⟩ : ∃ b, w.heap.size + 1 = b := ⟨_, rfl⟩
  rw [hB2] at HX ⊢
  rw [hB1] at HX ⊢
  have HBB : Hid (w.heap.size = B1) := Lib.hid hB1
  clear hB1 hB2
  obtain ⟨⟨a0, a1, a2, a3⟩, ⟨s0, s1⟩, -, -, -⟩ := HX.out _ (Below.refl _ _)
  have HMD := Lib.hid (made_any h s ga G gc _ (HX.out _ (Below.refl _ _)).2.2.1 (HX.out _ (Below.refl _ _)).2.2.2.1 (HX.out _ (Below.refl _ _)).2.2.2.2 hgl)
  go_wp2_with (go_at_call 25; (with_reducible refine HMD.out.mono ?_); rintro e w1 ⟨hx1, hb1⟩; obtain ⟨ta, tn, tc, sa, sn, sc, na, nn, nc, rfl, hp1⟩ := hx1.out; have HP1 := Lib.hid hp1; clear hx1 hp1; rw [HE.out])
  go_ret2
  exact ⟨Lib.hid ⟨.slice none 0 0, by first | rfl | (rw [HE.out]; rfl), by rw [HEP.out]; exact World.ownsRow_nil _ _ _ _⟩, (HW.out _ hb1).alloc (by have := (HW.out _ hb1).size; omega) _⟩
 case pos =>
  subst hz
  have HE := Lib.hid hE
  have HEP : Hid (endsP h s G = endsL h s G s.cues.length) := Lib.hid (by unfold endsP; rw [hE, if_pos rfl])
  have HQ := Lib.hid (HP.out hE)
  clear hE HP
  go_enter Tryz.func35, Tryz.ntmps35
  go_upto_region 1 with (fail)
  obtain ⟨W0, hW0⟩ : ∃ W0 : World, ((w.alloc (.cells #[.string h.name, .int .i64 h.height, .slice h.sa h.sets.length h.sc, .slice h.ra h.roofs.length h.rc] 25)).alloc (.cells #[.slice s.ca s.cues.length s.cc, .slice s.pa s.pairs.length s.pc] 29)) = W0 := ⟨_, rfl⟩
  simp only [hW0] at HX HW ⊢
  clear hW0
  obtain ⟨B1, hB1⟩ : ∃ b, w.heap.size = b := ⟨_, rfl⟩
  obtain ⟨B2, hB2⟩ : ∃ b, w.heap.size + 1 = b := ⟨_, rfl⟩
  rw [hB2] at HX ⊢
  rw [hB1] at HX ⊢
  have HBB : Hid (w.heap.size = B1) := Lib.hid hB1
  clear hB1 hB2
  obtain ⟨⟨a0, a1, a2, a3⟩, ⟨s0, s1⟩, -, -, -⟩ := HX.out _ (Below.refl _ _)
  have HMD := Lib.hid (made_any h s ga G gc _ (HX.out _ (Below.refl _ _)).2.2.1 (HX.out _ (Below.refl _ _)).2.2.2.1 (HX.out _ (Below.refl _ _)).2.2.2.2 hgl)
  go_upto_region 5 with (go_at_call 25; (with_reducible refine HMD.out.mono ?_); rintro e w1 ⟨hx1, hb1⟩; obtain ⟨ta, tn, tc, sa, sn, sc, na, nn, nc, rfl, hp1⟩ := hx1.out; have HP1 := Lib.hid hp1; clear hx1 hp1; rw [HE.out])
  obtain ⟨e1, e2, hS1, hN1⟩ := HP1.out HE.out
  subst e1
  subst e2
  have hbx := below_new w1 (.cells #[.slice ta tn tc, .slice sa s.cues.length sc, .slice na s.cues.length nc] 73)
  have hP2 := PC.put w1 (.slice ta tn tc) (.slice sa s.cues.length sc) (.slice na s.cues.length nc) 73
  have hW2 := (HW.out _ hb1).alloc (by have := (HW.out _ hb1).size; omega) (.cells #[.slice ta tn tc, .slice sa s.cues.length sc, .slice na s.cues.length nc] 73)
  have hX2 : Hid (Below W0.heap.size W0 (w1.alloc (.cells #[.slice ta tn tc, .slice sa s.cues.length sc, .slice na s.cues.length nc] 73))) := Lib.hid (hb1.alloc hb1.size _)
  replace hS1 := hS1.grow hbx
  replace hN1 := hN1.grow hbx
  clear hbx HP1 HMD a0 a1 a2 a3 s0 s1
  generalize w1.alloc (.cells #[.slice ta tn tc, .slice sa s.cues.length sc, .slice na s.cues.length nc] 73) = W2 at *
  obtain ⟨B8, hB8⟩ : ∃ b, w1.heap.size = b := ⟨_, rfl⟩
  rw [hB8] at hP2 ⊢
  clear hB8
  have HXX : Hid (∀ w', Below W2.heap.size W2 w' → Below w.heap.size w w' ∧ PC w' B8 (.slice ta tn tc) (.slice sa s.cues.length sc) (.slice na s.cues.length nc) ∧ Nums w'.heap.size w' sa (planS h s G) ∧ Nums w'.heap.size w' na (planN h s) ∧ SheetAt w' B2 s ∧ SheetIn w' s) := Lib.hid fun w' z => by
   have y := hX2.out.trans (z.mono hX2.out.size)
   obtain ⟨-, y2, -, y4, -⟩ := HX.out w' y
   exact ⟨hW2.trans (z.mono hW2.size), hP2.carry z, hS1.grow z, hN1.grow z, y2, y4⟩
  clear HX hW2 hS1 hN1 hP2 HW hX2 hb1
  obtain ⟨n₂, hn2⟩ : ∃ n, W2.heap.size = n := ⟨_, rfl⟩
  rw [hn2] at HXX
  have hB2 : Below n₂ W2 W2 := by rw [← hn2]; exact Below.refl _ _
  have hnn : n₂ ≤ W2.heap.size := by omega
  have HBN : Hid (w.heap.size ≤ n₂) := Lib.hid (by have := (HXX.out _ hB2).1.size; omega)
  clear hn2
  obtain ⟨-, ⟨p0, p1, p2, p3, p4, p5, p6⟩, -, -, -, -⟩ := HXX.out _ hB2
  go_upto_region 6 with (fail)
  clear p0 p1 p2 p3 p4 p5 p6
  go_loopw [10, 11, 12, 26] (fun v10 _ _ iv wr => ∃ (k : Nat), iv = .int .i64 k ∧ k ≤ s.cues.length ∧ Below n₂ W2 wr ∧ n₂ ≤ wr.heap.size ∧ Hid (wr.ownsRow n₂ 3 1 v10 k (nflat (endsL h s G k)))) (fun _ _ _ iv _ => s.cues.length - (intOf iv).toNat)
  case atStart => exact ⟨0, rfl, Nat.zero_le _, hB2, hnn, Lib.hid (World.ownsRow_nil _ _ _ _)⟩
  case round =>
   clear hB2 hnn
   obtain ⟨k, rfl, hk, hB, hnw, HR⟩ := hrel
   by_cases hlt : k < s.cues.length
   ·obtain ⟨-, ⟨p0, p1, p2, p3, p4, p5, p6⟩, hS, hN, -, -⟩ := HXX.out _ hB
    have hls : k < (planS h s G).length := by rw [HQ.out.2.lenS]; exact hlt
    have hln : k < (planN h s).length := by rw [HQ.out.2.lenN]; exact hlt
    obtain ⟨sb, so, hsa, hsb, hsx⟩ := hS (by omega)
    subst hsa
    obtain ⟨nb, no, hna, hnb, hnx⟩ := hN (by omega)
    subst hna
    have e0 := hsx k hls
    have e1 := hnx k hln
    have HSN := Lib.hid (endsL_snoc h s G k)
    have q1 := HQ.out.2.lens k hlt
    have q2 := HQ.out.2.starts k hlt
    obtain ⟨x, hx⟩ : ∃ x, ig (planS h s G) k = x := ⟨_, rfl⟩
    obtain ⟨y, hy⟩ : ∃ x, ig (planN h s) k = x := ⟨_, rfl⟩
    rw [hx] at e0 HSN q2
    rw [hy] at e1 HSN q1
    have hsum : IntKind.i64.wrap (x + y) = x + y := by simp only [IntKind.wrap_i64]; omega
    clear hS hN hsx hnx hx hy q1 q2 hls hln
    have HKL : Hid ((endsL h s G k).length = k) := Lib.hid (endsL_len _ _ _ _)
    have hbx := below_new wr (.cells #[.int .i64 (x + y)] 3)
    have HO8 : Hid ((wr.alloc (.cells #[.int .i64 (x + y)] 3)).ownsRow n₂ 3 1 u10 (endsL h s G k).length (nflat (endsL h s G k))) := Lib.hid (by rw [HKL.out]; exact ownsRow_below HR.out hbx)
    have hB8 := hB.alloc hnw (.cells #[.int .i64 (x + y)] 3)
    have hn8 : n₂ ≤ (wr.alloc (.cells #[.int .i64 (x + y)] 3)).heap.size := by simp; omega
    have hkl : (endsL h s G k).length ≤ 1000000 := by rw [HKL.out]; omega
    have hc8 : (wr.alloc (.cells #[.int .i64 (x + y)] 3)).cell? ⟨wr.heap.size, 0, none⟩ = some (.int .i64 (x + y)) := by simp
    clear hbx
    go_wp2_with (at_builtin; refine num_append rfl _ _ rfl n₂ _ (endsL h s G k) rfl HO8.out _ (x + y) rfl (by first | exact hc8 | (rw [hsum]; exact hc8)) hkl hn8 ?_; intro v2 w8 hown8 hg8; have HO9 := Lib.hid hown8; have hB9 := hB8.grown hg8 (by omega) (fun j hj => (HO8.out.lt _ hj).1); have hn9 := Nat.le_trans hn8 hg8.size; clear hown8 hg8)
    go_roundw
    case rel => exact ⟨k + 1, by go_num, by omega, hB9, hn9, Lib.hid (by have := HO9.out; rw [List.length_append, HKL.out] at this; rw [HSN.out]; exact this)⟩
    case measure => simp [intOf]; omega
   ·obtain rfl : k = s.cues.length := by omega
    go_wp2_with fail
    go_ret2
    exact ⟨Lib.hid ⟨_, by first | rfl | (rw [HE.out]; rfl), by rw [HEP.out, endsL_len]; exact ownsRow_base HR.out HBN.out⟩, (HXX.out _ hB).1⟩
end Go.Proofs.YtlnodjcmdnmnlaaGreat
namespace Go.Proofs.YtlnodjcmdnmnlaaGreat
open Go.RowKit Go.Shelf
/-! ### Slices of api.Begin -/

def beg (L : List (ByteArray × Int)) (i : Nat) : ByteArray × Int := (L[i]?).getD (⟨#[]⟩, 0)
theorem beg_eq (L : List (ByteArray × Int)) (i : Nat) (h : i < L.length) : beg L i = L[i] := by unfold beg; rw [List.getElem?_eq_getElem h]; rfl
def begflat (L : List (ByteArray × Int)) : List Value := L.flatMap fun r => [.string r.1, .int .i64 r.2]
theorem begflat_at (L : List (ByteArray × Int)) (i : Nat) (hi : i < L.length) : (begflat L)[i * 2]? = some (.string (beg L i).1) ∧ (begflat L)[i * 2 + 1]? = some (.int .i64 (beg L i).2) := by
 induction L generalizing i with
 | nil => simp at hi
 | cons x r ih =>
  match i with
  | 0 => exact ⟨rfl, rfl⟩
  | i + 1 =>
   have := ih i (by simpa using hi)
   have e : begflat (x :: r) = .string x.1 :: .int .i64 x.2 :: begflat r := rfl
   rw [e, show (i + 1) * 2 = i * 2 + 1 + 1 by omega]
   simpa [beg] using this
theorem begflat_snoc (L : List (ByteArray × Int)) (r : ByteArray × Int) : begflat (L ++ [r]) = begflat L ++ [.string r.1, .int .i64 r.2] := by simp [begflat]
def Begs (n₀ : Nat) (w : World) (a : Option Addr) (L : List (ByteArray × Int)) : Prop :=
 0 < L.length → ∃ b off, a = some ⟨b, off, none⟩ ∧ b < n₀ ∧ ∀ i, i < L.length → w.cell? ⟨b, off + i * 2, none⟩ = some (.string (beg L i).1) ∧ w.cell? ⟨b, off + i * 2 + 1, none⟩ = some (.int .i64 (beg L i).2)
theorem Begs.below {n₀ : Nat} {w w' : World} {a : Option Addr} {L : List (ByteArray × Int)} (h : Begs n₀ w a L) (hb : Below n₀ w w') : Begs n₀ w' a L := fun hl => by
 obtain ⟨b, off, rfl, hlt, hc⟩ := h hl
 refine ⟨b, off, rfl, hlt, fun i hi => ?_⟩
 obtain ⟨c0, c1⟩ := hc i hi
 exact ⟨(hb.cell (p := ⟨b, _, none⟩) hlt).trans c0, (hb.cell (p := ⟨b, _, none⟩) hlt).trans c1⟩
theorem Begs.mono {n₀ n₁ : Nat} {w : World} {a : Option Addr} {L : List (ByteArray × Int)} (h : Begs n₀ w a L) (hn : n₀ ≤ n₁) : Begs n₁ w a L := fun hl => by
 obtain ⟨b, off, rfl, hlt, hc⟩ := h hl
 exact ⟨b, off, rfl, by omega, hc⟩
theorem Begs.grow {w w' : World} {a : Option Addr} {L : List (ByteArray × Int)} (h : Begs w.heap.size w a L) (hb : Below w.heap.size w w') : Begs w'.heap.size w' a L := (h.below hb).mono hb.size
theorem Begs.nil {n₀ : Nat} {w : World} {a : Option Addr} : Begs n₀ w a [] := fun h => absurd h (Nat.not_lt_zero _)
theorem Begs.take {n₀ : Nat} {w : World} {a : Option Addr} {L : List (ByteArray × Int)} (h : Begs n₀ w a L) (n : Nat) : Begs n₀ w a (L.take n) := fun hl => by
 have hl' : 0 < L.length := by rw [List.length_take] at hl; omega
 obtain ⟨b, off, rfl, hlt, hc⟩ := h hl'
 refine ⟨b, off, rfl, hlt, fun i hi => ?_⟩
 rw [List.length_take] at hi
 have e : beg (L.take n) i = beg L i := by unfold beg; rw [List.getElem?_take, if_pos (by omega)]
 rw [e]
 exact hc i (by omega)
theorem beg_of_row {w : World} {base : Nat} {v : Value} {L : List (ByteArray × Int)} (h : w.ownsRow base 101 2 v L.length (begflat L)) : ∃ a cap, v = .slice a L.length cap ∧ L.length ≤ cap ∧ cap ≤ maxLen ∧ (a = none → cap = 0) ∧ Begs w.heap.size w a L := by
 rcases h.2 with ⟨rfl, h0⟩ | ⟨g, cap, cur, rfl, hb, hg, h1, h2, _⟩
 ·exact ⟨none, 0, by rw [h0], by omega, by unfold maxLen; omega, fun _ => rfl, fun hl => by omega⟩
 ·refine ⟨_, cap, rfl, h1, h2, (fun e => by cases e), fun _ => ⟨g, 0, rfl, (Array.getElem?_eq_some_iff.1 hg).1, fun i hi => ?_⟩⟩
  obtain ⟨f0, f1⟩ := begflat_at L i hi
  have c0 := h.cellAt (i * 2) (by omega)
  have c1 := h.cellAt (i * 2 + 1) (by omega)
  rw [f0] at c0
  rw [f1] at c1
  rw [Nat.zero_add]
  exact ⟨c0, c1⟩
theorem beg_info : (Tryz.prog.info? 101).map (fun i => (i.zero, i.size, i.bytes)) = some (some (.agg #[.string ⟨#[]⟩, .int .i64 0]), 2, 24) := by kernel_rfl

end Go.Proofs.YtlnodjcmdnmnlaaGreat
namespace Go.Proofs.YtlnodjcmdnmnlaaGreat
open Go.RowKit Go.Shelf
attribute [local go_sem] Oper.semAt_some
noncomputable def begsL (h : HouseR) (s : SheetR) (G : List Int) (n : Nat) : List (ByteArray × Int) := (List.range n).map fun i => ((cg s.cues i).name, ig (planS h s G) i)
theorem begsL_snoc (h : HouseR) (s : SheetR) (G : List Int) (n : Nat) : begsL h s G (n + 1) = begsL h s G n ++ [((cg s.cues n).name, ig (planS h s G) n)] := by
 unfold begsL
 rw [List.range_succ, List.map_append]
 rfl
theorem begsL_len (h : HouseR) (s : SheetR) (G : List Int) (n : Nat) : (begsL h s G n).length = n := by unfold begsL; rw [List.length_map, List.length_range]
noncomputable def begsP (h : HouseR) (s : SheetR) (G : List Int) : List (ByteArray × Int) := if planE h s G = 0 then begsL h s G s.cues.length else []
theorem cell_two_drew (w : World) (a b : Value) (t : TypeId) : ∀ j u, [a, b][j]? = some u → (w.alloc (.cells #[a, b] t)).cell? ((⟨w.heap.size, 0, none⟩ : Addr).add j) = some u := fun j u h => by
 rw [Go.WideShapes.add_plain, Nat.zero_add]
 match j, h with
 | 0, h => simp at h; subst h; simp
 | 1, h => simp at h; subst h; simp
theorem cueAt_grown {w w' : World} {B : Nat} {q : CueR} {row : Option Nat} (h : CueAt w B q) (hg : w.grownBy w' row) (hne : some B ≠ row) : CueAt w' B q := by
 have hlt : B < w.heap.size := World.block_lt_of_cell? _ _ h.1
 obtain ⟨a0, a1, a2, a3, a4, a5, a6⟩ := h
 exact ⟨(hg.cell_far ⟨B, 0, none⟩ hlt hne).trans a0, (hg.cell_far ⟨B, 1, none⟩ hlt hne).trans a1, (hg.cell_far ⟨B, 2, none⟩ hlt hne).trans a2, (hg.cell_far ⟨B, 3, none⟩ hlt hne).trans a3, (hg.cell_far ⟨B, 4, none⟩ hlt hne).trans a4, (hg.cell_far ⟨B, 5, none⟩ hlt hne).trans a5, (hg.cell_far ⟨B, 6, none⟩ hlt hne).trans a6⟩
set_option maxRecDepth 100000 in
set_option maxHeartbeats 16000000 in
theorem begins_any (h : HouseR) (s : SheetR) (ga : Option Addr) (G : List Int) (gc : Nat) (w : World) (hh : HouseIn w h) (hs : SheetIn w s) (hG : Nums w.heap.size w ga G) (hgl : G.length ≤ 1000) :
  Calls Tryz.prog 34 #[.agg #[.string h.name, .int .i64 h.height, .slice h.sa h.sets.length h.sc, .slice h.ra h.roofs.length h.rc], .agg #[.slice s.ca s.cues.length s.cc, .slice s.pa s.pairs.length s.pc], .slice ga G.length gc] w fun e w' => Hid (∃ v, e = .returned (.tuple #[v, .int .i64 (planE h s G)]) ∧ w'.ownsRow w.heap.size 101 2 v (begsP h s G).length (begflat (begsP h s G))) ∧ Below w.heap.size w w' := by
 have hb0 : Below w.heap.size w ((w.alloc (.cells #[.string h.name, .int .i64 h.height, .slice h.sa h.sets.length h.sc, .slice h.ra h.roofs.length h.rc] 25)).alloc (.cells #[.slice s.ca s.cues.length s.cc, .slice s.pa s.pairs.length s.pc] 29)) := (below_new w _).alloc (by simp) _
 have HX : Hid (∀ w', Below ((w.alloc (.cells #[.string h.name, .int .i64 h.height, .slice h.sa h.sets.length h.sc, .slice h.ra h.roofs.length h.rc] 25)).alloc (.cells #[.slice s.ca s.cues.length s.cc, .slice s.pa s.pairs.length s.pc] 29)).heap.size ((w.alloc (.cells #[.string h.name, .int .i64 h.height, .slice h.sa h.sets.length h.sc, .slice h.ra h.roofs.length h.rc] 25)).alloc (.cells #[.slice s.ca s.cues.length s.cc, .slice s.pa s.pairs.length s.pc] 29)) w' → HouseAt w' w.heap.size h ∧ SheetAt w' (w.heap.size + 1) s ∧ HouseIn w' h ∧ SheetIn w' s ∧ Nums w'.heap.size w' ga G) := Lib.hid fun w' z =>
  ⟨((HouseAt.new w h _).carry (below_new _ _)).carry z, (show SheetAt ((w.alloc (.cells #[.string h.name, .int .i64 h.height, .slice h.sa h.sets.length h.sc, .slice h.ra h.roofs.length h.rc] 25)).alloc (.cells #[.slice s.ca s.cues.length s.cc, .slice s.pa s.pairs.length s.pc] 29)) (w.heap.size + 1) s by unfold SheetAt; simp).carry z, (hh.grow hb0).grow z, (hs.grow hb0).grow z, (hG.grow hb0).grow z⟩
 have HW : Hid (∀ w', Below ((w.alloc (.cells #[.string h.name, .int .i64 h.height, .slice h.sa h.sets.length h.sc, .slice h.ra h.roofs.length h.rc] 25)).alloc (.cells #[.slice s.ca s.cues.length s.cc, .slice s.pa s.pairs.length s.pc] 29)).heap.size ((w.alloc (.cells #[.string h.name, .int .i64 h.height, .slice h.sa h.sets.length h.sc, .slice h.ra h.roofs.length h.rc] 25)).alloc (.cells #[.slice s.ca s.cues.length s.cc, .slice s.pa s.pairs.length s.pc] 29)) w' → Below w.heap.size w w') := Lib.hid fun w' z => hb0.trans (z.mono hb0.size)
 have HP := Lib.hid fun (q : planE h s G = 0) => plan_sheet q
 have hcl := hs.clen
 clear hh hs hG hb0
 obtain ⟨E, hE⟩ : ∃ E, planE h s G = E := ⟨_, rfl⟩
 by_cases hz : E = 0
 case neg =>
  have HE := Lib.hid hE
  have HEP : Hid (begsP h s G = []) := Lib.hid (by unfold begsP; rw [hE, if_neg hz])
  have g0 : (E != 0) = true := bne_iff_ne.2 hz
  clear hz hE
  go_enter Tryz.func34, Tryz.ntmps34
  go_upto_region 1 with (fail)
  obtain ⟨W0, hW0⟩ : ∃ W0 : World, ((w.alloc (.cells #[.string h.name, .int .i64 h.height, .slice h.sa h.sets.length h.sc, .slice h.ra h.roofs.length h.rc] 25)).alloc (.cells #[.slice s.ca s.cues.length s.cc, .slice s.pa s.pairs.length s.pc] 29)) = W0 := ⟨_, rfl⟩
  simp only [hW0] at HX HW ⊢
  clear hW0
  obtain ⟨B1, hB1⟩ : ∃ b, w.heap.size = b := ⟨_, rfl⟩
  obtain ⟨B2, hB2⟩ : ∃ b, w.heap.size + 1 = b := ⟨_, rfl⟩
  rw [hB2] at HX ⊢
  rw [hB1] at HX ⊢
  have HBB : Hid (w.heap.size = B1) := Lib.hid hB1
  clear hB1 hB2
  obtain ⟨⟨a0, a1, a2, a3⟩, ⟨s0, s1⟩, -, -, -⟩ := HX.out _ (Below.refl _ _)
  have HMD := Lib.hid (made_any h s ga G gc _ (HX.out _ (Below.refl _ _)).2.2.1 (HX.out _ (Below.refl _ _)).2.2.2.1 (HX.out _ (Below.refl _ _)).2.2.2.2 hgl)
  go_wp2_with (go_at_call 25; (with_reducible refine HMD.out.mono ?_); rintro e w1 ⟨hx1, hb1⟩; obtain ⟨ta, tn, tc, sa, sn, sc, na, nn, nc, rfl, hp1⟩ := hx1.out; have HP1 := Lib.hid hp1; clear hx1 hp1; rw [HE.out])
  go_ret2
  exact ⟨Lib.hid ⟨.slice none 0 0, by first | rfl | (rw [HE.out]; rfl), by rw [HEP.out]; exact World.ownsRow_nil _ _ _ _⟩, (HW.out _ hb1).alloc (by have := (HW.out _ hb1).size; omega) _⟩
 case pos =>
  subst hz
  have HE := Lib.hid hE
  have HEP : Hid (begsP h s G = begsL h s G s.cues.length) := Lib.hid (by unfold begsP; rw [hE, if_pos rfl])
  have HQ := Lib.hid (HP.out hE)
  clear hE HP
  obtain ⟨i0, hi, hz0, hz1, hz2⟩ := info_parts beg_info
  have HI := Lib.hid (And.intro hi (And.intro hz0 (And.intro hz1 hz2)))
  clear hi hz0 hz1 hz2
  go_enter Tryz.func34, Tryz.ntmps34
  go_upto_region 1 with (fail)
  obtain ⟨W0, hW0⟩ : ∃ W0 : World, ((w.alloc (.cells #[.string h.name, .int .i64 h.height, .slice h.sa h.sets.length h.sc, .slice h.ra h.roofs.length h.rc] 25)).alloc (.cells #[.slice s.ca s.cues.length s.cc, .slice s.pa s.pairs.length s.pc] 29)) = W0 := ⟨_, rfl⟩
  simp only [hW0] at HX HW ⊢
  clear hW0
  obtain ⟨B1, hB1⟩ : ∃ b, w.heap.size = b := ⟨_, rfl⟩
  obtain ⟨B2, hB2⟩ : ∃ b, w.heap.size + 1 = b := ⟨_, rfl⟩
  rw [hB2] at HX ⊢
  rw [hB1] at HX ⊢
  have HBB : Hid (w.heap.size = B1) := Lib.hid hB1
  clear hB1 hB2
  obtain ⟨⟨a0, a1, a2, a3⟩, ⟨s0, s1⟩, -, -, -⟩ := HX.out _ (Below.refl _ _)
  have HMD := Lib.hid (made_any h s ga G gc _ (HX.out _ (Below.refl _ _)).2.2.1 (HX.out _ (Below.refl _ _)).2.2.2.1 (HX.out _ (Below.refl _ _)).2.2.2.2 hgl)
  obtain ⟨ca, hca⟩ : ∃ a, s.ca = a := ⟨_, rfl⟩
  have HCA := Lib.hid hca
  rw [hca] at s0 HMD ⊢
  clear hca
  go_upto_region 5 with (go_at_call 25; (with_reducible refine HMD.out.mono ?_); rintro e w1 ⟨hx1, hb1⟩; obtain ⟨ta, tn, tc, sa, sn, sc, na, nn, nc, rfl, hp1⟩ := hx1.out; have HP1 := Lib.hid hp1; clear hx1 hp1; rw [HE.out])
  obtain ⟨e1, e2, hS1, hN1⟩ := HP1.out HE.out
  subst e1
  subst e2
  have hbx := below_new w1 (.cells #[.slice ta tn tc, .slice sa s.cues.length sc, .slice na s.cues.length nc] 73)
  have hP2 := PC.put w1 (.slice ta tn tc) (.slice sa s.cues.length sc) (.slice na s.cues.length nc) 73
  have hW2 := (HW.out _ hb1).alloc (by have := (HW.out _ hb1).size; omega) (.cells #[.slice ta tn tc, .slice sa s.cues.length sc, .slice na s.cues.length nc] 73)
  have hX2 : Hid (Below W0.heap.size W0 (w1.alloc (.cells #[.slice ta tn tc, .slice sa s.cues.length sc, .slice na s.cues.length nc] 73))) := Lib.hid (hb1.alloc hb1.size _)
  replace hS1 := hS1.grow hbx
  replace hN1 := hN1.grow hbx
  clear hbx HP1 HMD a0 a1 a2 a3 s0 s1
  generalize w1.alloc (.cells #[.slice ta tn tc, .slice sa s.cues.length sc, .slice na s.cues.length nc] 73) = W2 at *
  obtain ⟨B8, hB8⟩ : ∃ b, w1.heap.size = b := ⟨_, rfl⟩
  rw [hB8] at hP2 ⊢
  clear hB8
  have HXX : Hid (∀ w', Below W2.heap.size W2 w' → Below w.heap.size w w' ∧ PC w' B8 (.slice ta tn tc) (.slice sa s.cues.length sc) (.slice na s.cues.length nc) ∧ Nums w'.heap.size w' sa (planS h s G) ∧ Nums w'.heap.size w' na (planN h s) ∧ SheetAt w' B2 s ∧ SheetIn w' s) := Lib.hid fun w' z => by
   have y := hX2.out.trans (z.mono hX2.out.size)
   obtain ⟨-, y2, -, y4, -⟩ := HX.out w' y
   exact ⟨hW2.trans (z.mono hW2.size), hP2.carry z, hS1.grow z, hN1.grow z, y2, y4⟩
  clear HX hW2 hS1 hN1 hP2 HW hX2 hb1
  obtain ⟨n₂, hn2⟩ : ∃ n, W2.heap.size = n := ⟨_, rfl⟩
  rw [hn2] at HXX
  have hB2 : Below n₂ W2 W2 := by rw [← hn2]; exact Below.refl _ _
  have hnn : n₂ ≤ W2.heap.size := by omega
  have HBN : Hid (w.heap.size ≤ n₂) := Lib.hid (by have := (HXX.out _ hB2).1.size; omega)
  clear hn2
  obtain ⟨-, -, -, -, ⟨s0, s1⟩, -⟩ := HXX.out _ hB2
  rw [HCA.out] at s0
  go_upto_region 6 with (fail)
  clear s0 s1
  go_loopw [10, 11, 12, 26] (fun v10 _ _ iv wr => ∃ (k : Nat), iv = .int .i64 k ∧ k ≤ s.cues.length ∧ Below n₂ W2 wr ∧ n₂ ≤ wr.heap.size ∧ Hid (wr.ownsRow n₂ 101 2 v10 k (begflat (begsL h s G k)))) (fun _ _ _ iv _ => s.cues.length - (intOf iv).toNat)
  case atStart => exact ⟨0, rfl, Nat.zero_le _, hB2, hnn, Lib.hid (World.ownsRow_nil _ _ _ _)⟩
  case round =>
   clear hB2 hnn
   obtain ⟨k, rfl, hk, hB, hnw, HR⟩ := hrel
   by_cases hlt : k < s.cues.length
   ·obtain ⟨-, -, hS, -, -, hsi⟩ := HXX.out _ hB
    obtain ⟨b, off, ha, hb, hc⟩ := hsi.lies (by omega)
    rw [HCA.out] at ha
    subst ha
    obtain ⟨d0, d1, d2, d3, d4, d5, d6⟩ := hc k hlt
    have hls : k < (planS h s G).length := by rw [HQ.out.2.lenS]; exact hlt
    obtain ⟨sb, so, hsa, hsb, hsx⟩ := hS (by omega)
    subst hsa
    have HSN := Lib.hid (begsL_snoc h s G k)
    obtain ⟨q, hq⟩ : ∃ q, cg s.cues k = q := ⟨_, rfl⟩
    rw [hq] at d0 d1 d2 d3 d4 d5 d6 HSN
    obtain ⟨x, hx⟩ : ∃ x, ig (planS h s G) k = x := ⟨_, rfl⟩
    rw [hx] at HSN
    have HX5 := Lib.hid hx
    clear hS hsi hc hsx hq hx
    have HKL : Hid ((begsL h s G k).length = k) := Lib.hid (begsL_len _ _ _ _)
    have hB3 := hB.alloc hnw (.cells #[.string q.name, .string q.after, .int .i64 q.link, .int .i64 q.delay, .slice q.ma q.moves.length q.mc, .int .i64 q.crew, .int .i64 q.power] 49)
    have hbn := below_new wr (.cells #[.string q.name, .string q.after, .int .i64 q.link, .int .i64 q.delay, .slice q.ma q.moves.length q.mc, .int .i64 q.crew, .int .i64 q.power] 49)
    have HC3 := CueAt.new wr q 49 _ rfl
    have hn3 : n₂ + 1 ≤ (wr.alloc (.cells #[.string q.name, .string q.after, .int .i64 q.link, .int .i64 q.delay, .slice q.ma q.moves.length q.mc, .int .i64 q.crew, .int .i64 q.power] 49)).heap.size := by simp; omega
    have HR3 := Lib.hid (ownsRow_below HR.out hbn)
    have HNE : Hid (u10.ownBlock ≠ some wr.heap.size) := Lib.hid fun e => by have := (HR.out.lt _ e).2; omega
    go_upto_region 8 with (fail)
    clear d0 d1 d2 d3 d4 d5 d6 HR hbn hB hnw hb
    generalize wr.alloc (.cells #[.string q.name, .string q.after, .int .i64 q.link, .int .i64 q.delay, .slice q.ma q.moves.length q.mc, .int .i64 q.crew, .int .i64 q.power] 49) = W3 at *
    obtain ⟨B12, hB12⟩ : ∃ b, wr.heap.size = b := ⟨_, rfl⟩
    rw [hB12] at HC3 HNE ⊢
    clear hB12
    have HHQ : HeldQ n₂ W2 B12 q W3 := ⟨hB3, hn3, HC3⟩
    have HOd := Lib.hid (ownsRow_below HR3.out (below_drewR W3))
    have x1 : ∀ w', HeldQ n₂ W2 B12 q w' → w'.cell? ⟨B8, 1, none⟩ = some (.slice (some ⟨sb, so, none⟩) s.cues.length sc) := fun w' z => (HXX.out w' z.old).2.1.2.1
    have x2 : ∀ w', HeldQ n₂ W2 B12 q w' → w'.cell? ⟨sb, so + k, none⟩ = some (.int .i64 x) := fun w' z => by
     obtain ⟨tb', tf', e, _, ex⟩ := (HXX.out w' z.old).2.2.1 (by omega)
     cases e
     have := ex k hls
     rw [HX5.out] at this
     exact this
    have c0 : ∀ w', HeldQ n₂ W2 B12 q w' → w'.cell? ⟨B12, 0, none⟩ = some (.string q.name) := fun w' z => z.cu.1
    refine wp_region_held_drew (S := (HeldQ n₂ W2 B12 q)) (by kernel_rfl) (HHQ.next (below_drewR W3)) (fun hHeld => ?_)
    obtain ⟨W5, hW5⟩ : ∃ x, W3.drew = x := ⟨_, rfl⟩
    simp only [hW5] at hHeld HOd ⊢
    clear hW5
    refine tk 0 ?_; refine tk 1 ?_; refine tk 2 ?_; refine tk 3 ?_; refine tk 4 ?_; refine tk 5 ?_; refine tk 6 ?_; refine tk 7 ?_; refine tk 8 ?_
    clear x1 x2 c0
    refine wpAnyH_ready (rs := [9]) (by kernel_rfl) (by simp) ?_
    refine AllReadyH.cons (o := _) rfl (fun K hK => ?_) AllReadyH.nil
    rw [if_pos (by rfl)]
    go_wp2_with fail
    have hHN := hHeld.next (below_new W5 (.cells #[.string q.name, .int .i64 x] 101))
    have HO6 := Lib.hid (ownsRow_below HOd.out (below_new W5 (.cells #[.string q.name, .int .i64 x] 101)))
    refine hK.out _ _ hHN (fun hHeld => ?_)
    clear hK K
    try simp only [Act.put, List.setIfInBounds_toArray, List.set_cons_zero, List.set_cons_succ, List.getElem_toArray, List.getElem_cons_succ, List.getElem_cons_zero]
    refine wpAnyH_ready (rs := [10]) (by kernel_rfl) (by simp) ?_
    refine AllReadyH.cons (o := _) rfl (fun K hK => ?_) AllReadyH.nil
    refine step_append_lies _ rfl (.tmp 31) (.tmp 40) 95 rfl n₂ 101 i0 (.agg #[.string ⟨#[]⟩, .int .i64 0]) 2 24 Tryz.underlying95 HI.out.1 HI.out.2.1 HI.out.2.2.1 HI.out.2.2.2 rfl (by decide) u10 k (begflat (begsL h s G k)) ?_ HO6.out ⟨W5.heap.size, 0, none⟩ 1 1 [.string q.name, .int .i64 x] ?_ rfl (cell_two_drew W5 _ _ _) ?_ (by omega) ?_ ?_ ?_ _ rfl ?_
    ·simp [Act.eval]
    ·simp [Act.eval]
    ·simp [Value.oneCell']
    ·unfold maxLen; omega
    ·omega
    ·have := hHN.lo; omega
    intro g7 cap7 w7 hown7 hgr7 hat7 hg7
    clear hat7
    have hS7 : HeldQ n₂ W2 B12 q w7 := ⟨hHN.old.grown hgr7 (by have := hHN.lo; omega) (fun j hj => (HO6.out.lt _ hj).1), Nat.le_trans hHN.lo hgr7.size, cueAt_grown hHN.cu hgr7 (fun e => HNE.out e.symm)⟩
    have HO7 := Lib.hid hown7
    clear hown7 hgr7 hg7
    refine hK.out _ _ hS7 (fun hHeld => ?_)
    clear hK K
    try simp only [Act.put, List.setIfInBounds_toArray, List.set_cons_zero, List.set_cons_succ, List.getElem_toArray, List.getElem_cons_succ, List.getElem_cons_zero]
    refine tk 11 ?_
    refine wpAnyH_done (by kernel_rfl) ?_ _
    have hB9 := hS7.old
    have hn9 : n₂ ≤ w7.heap.size := by have := hS7.lo; omega
    go_wp2_with fail
    go_roundw
    case rel => exact ⟨k + 1, by go_num, by omega, hB9, hn9, Lib.hid (by rw [HSN.out, begflat_snoc]; exact HO7.out)⟩
    case measure => simp [intOf]; omega
   ·obtain rfl : k = s.cues.length := by omega
    go_wp2_with fail
    go_ret2
    exact ⟨Lib.hid ⟨_, by first | rfl | (rw [HE.out]; rfl), by rw [HEP.out, begsL_len]; exact ownsRow_base HR.out HBN.out⟩, (HXX.out _ hB).1⟩
end Go.Proofs.YtlnodjcmdnmnlaaGreat
namespace Go.Proofs.YtlnodjcmdnmnlaaGreat
open Go.RowKit Go.Shelf
attribute [local go_sem] Oper.semAt_some
def Runs (S N : List Int) (ms : Int) (i : Nat) : Prop := ig S i ≤ ms ∧ ms < ig S i + ig N i
instance (S N : List Int) (ms : Int) (i : Nat) : Decidable (Runs S N ms i) := by unfold Runs; infer_instance
noncomputable def busyL (h : HouseR) (s : SheetR) (G : List Int) (ms : Int) (n : Nat) : List ByteArray := ((List.range n).filter fun i => decide (Runs (planS h s G) (planN h s) ms i)).map fun i => (cg s.cues i).name
theorem busyL_yes {h : HouseR} {s : SheetR} {G : List Int} {ms : Int} {n : Nat} (r : Runs (planS h s G) (planN h s) ms n) : busyL h s G ms (n + 1) = busyL h s G ms n ++ [(cg s.cues n).name] := by
 unfold busyL
 rw [List.range_succ, List.filter_append, List.map_append, List.filter_cons_of_pos (by simpa using r), List.filter_nil]
 rfl
theorem busyL_no {h : HouseR} {s : SheetR} {G : List Int} {ms : Int} {n : Nat} (r : ¬ Runs (planS h s G) (planN h s) ms n) : busyL h s G ms (n + 1) = busyL h s G ms n := by
 unfold busyL
 rw [List.range_succ, List.filter_append, List.map_append, List.filter_cons_of_neg (by simpa using r), List.filter_nil, List.map_nil, List.append_nil]
theorem busyL_len (h : HouseR) (s : SheetR) (G : List Int) (ms : Int) (n : Nat) : (busyL h s G ms n).length ≤ n := by
 unfold busyL
 rw [List.length_map]
 exact Nat.le_trans (List.length_filter_le _ _) (by rw [List.length_range]; exact Nat.le_refl _)
noncomputable def busyP (h : HouseR) (s : SheetR) (G : List Int) (ms : Int) : List ByteArray := if planE h s G = 0 then busyL h s G ms s.cues.length else []
set_option maxRecDepth 100000 in
set_option maxHeartbeats 16000000 in
theorem busy_any (ms : Int) (m0 : 0 ≤ ms) (m1 : ms ≤ 1099511627776) (h : HouseR) (s : SheetR) (ga : Option Addr) (G : List Int) (gc : Nat) (w : World) (hh : HouseIn w h) (hs : SheetIn w s) (hG : Nums w.heap.size w ga G) (hgl : G.length ≤ 1000) :
  Calls Tryz.prog 11 #[.agg #[.string h.name, .int .i64 h.height, .slice h.sa h.sets.length h.sc, .slice h.ra h.roofs.length h.rc], .agg #[.slice s.ca s.cues.length s.cc, .slice s.pa s.pairs.length s.pc], .slice ga G.length gc, .int .i64 ms] w fun e w' => Hid (∃ v, e = .returned (.tuple #[v, .int .i64 (planE h s G)]) ∧ w'.ownsRow w.heap.size 9 1 v (busyP h s G ms).length (sflat (busyP h s G ms))) ∧ Below w.heap.size w w' := by
 have hb0 : Below w.heap.size w ((w.alloc (.cells #[.string h.name, .int .i64 h.height, .slice h.sa h.sets.length h.sc, .slice h.ra h.roofs.length h.rc] 25)).alloc (.cells #[.slice s.ca s.cues.length s.cc, .slice s.pa s.pairs.length s.pc] 29)) := (below_new w _).alloc (by simp) _
 have HX : Hid (∀ w', Below ((w.alloc (.cells #[.string h.name, .int .i64 h.height, .slice h.sa h.sets.length h.sc, .slice h.ra h.roofs.length h.rc] 25)).alloc (.cells #[.slice s.ca s.cues.length s.cc, .slice s.pa s.pairs.length s.pc] 29)).heap.size ((w.alloc (.cells #[.string h.name, .int .i64 h.height, .slice h.sa h.sets.length h.sc, .slice h.ra h.roofs.length h.rc] 25)).alloc (.cells #[.slice s.ca s.cues.length s.cc, .slice s.pa s.pairs.length s.pc] 29)) w' → HouseAt w' w.heap.size h ∧ SheetAt w' (w.heap.size + 1) s ∧ HouseIn w' h ∧ SheetIn w' s ∧ Nums w'.heap.size w' ga G) := Lib.hid fun w' z =>
  ⟨((HouseAt.new w h _).carry (below_new _ _)).carry z, (show SheetAt ((w.alloc (.cells #[.string h.name, .int .i64 h.height, .slice h.sa h.sets.length h.sc, .slice h.ra h.roofs.length h.rc] 25)).alloc (.cells #[.slice s.ca s.cues.length s.cc, .slice s.pa s.pairs.length s.pc] 29)) (w.heap.size + 1) s by unfold SheetAt; simp).carry z, (hh.grow hb0).grow z, (hs.grow hb0).grow z, (hG.grow hb0).grow z⟩
 have HW : Hid (∀ w', Below ((w.alloc (.cells #[.string h.name, .int .i64 h.height, .slice h.sa h.sets.length h.sc, .slice h.ra h.roofs.length h.rc] 25)).alloc (.cells #[.slice s.ca s.cues.length s.cc, .slice s.pa s.pairs.length s.pc] 29)).heap.size ((w.alloc (.cells #[.string h.name, .int .i64 h.height, .slice h.sa h.sets.length h.sc, .slice h.ra h.roofs.length h.rc] 25)).alloc (.cells #[.slice s.ca s.cues.length s.cc, .slice s.pa s.pairs.length s.pc] 29)) w' → Below w.heap.size w w') := Lib.hid fun w' z => hb0.trans (z.mono hb0.size)
 have HP := Lib.hid fun (q : planE h s G = 0) => plan_sheet q
 have hcl := hs.clen
 clear hh hs hG hb0
 obtain ⟨E, hE⟩ : ∃ E, planE h s G = E := ⟨_, rfl⟩
 by_cases hz : E = 0
 case neg =>
  have HE := Lib.hid hE
  have HEP : Hid (busyP h s G ms = []) := Lib.hid (by unfold busyP; rw [hE, if_neg hz])
  have g0 : (E != 0) = true := bne_iff_ne.2 hz
  clear hz hE
  go_enter Tryz.func11, Tryz.ntmps11
  go_upto_region 1 with (fail)
  obtain ⟨W0, hW0⟩ : ∃ W0 : World, ((w.alloc (.cells #[.string h.name, .int .i64 h.height, .slice h.sa h.sets.length h.sc, .slice h.ra h.roofs.length h.rc] 25)).alloc (.cells #[.slice s.ca s.cues.length s.cc, .slice s.pa s.pairs.length s.pc] 29)) = W0 := ⟨_, rfl⟩
  simp only [hW0] at HX HW ⊢
  clear hW0
  obtain ⟨B1, hB1⟩ : ∃ b, w.heap.size = b := ⟨_, rfl⟩
  obtain ⟨B2, hB2⟩ : ∃ b, w.heap.size + 1 = b := ⟨_, rfl⟩
  rw [hB2] at HX ⊢
  rw [hB1] at HX ⊢
  have HBB : Hid (w.heap.size = B1) := Lib.hid hB1
  clear hB1 hB2
  obtain ⟨⟨a0, a1, a2, a3⟩, ⟨s0, s1⟩, -, -, -⟩ := HX.out _ (Below.refl _ _)
  have HMD := Lib.hid (made_any h s ga G gc _ (HX.out _ (Below.refl _ _)).2.2.1 (HX.out _ (Below.refl _ _)).2.2.2.1 (HX.out _ (Below.refl _ _)).2.2.2.2 hgl)
  go_wp2_with (go_at_call 25; (with_reducible refine HMD.out.mono ?_); rintro e w1 ⟨hx1, hb1⟩; obtain ⟨ta, tn, tc, sa, sn, sc, na, nn, nc, rfl, hp1⟩ := hx1.out; have HP1 := Lib.hid hp1; clear hx1 hp1; rw [HE.out])
  go_ret2
  exact ⟨Lib.hid ⟨.slice none 0 0, by first | rfl | (rw [HE.out]; rfl), by rw [HEP.out]; exact World.ownsRow_nil _ _ _ _⟩, (HW.out _ hb1).alloc (by have := (HW.out _ hb1).size; omega) _⟩
 case pos =>
  subst hz
  have HE := Lib.hid hE
  have HEP : Hid (busyP h s G ms = busyL h s G ms s.cues.length) := Lib.hid (by unfold busyP; rw [hE, if_pos rfl])
  have HQ := Lib.hid (HP.out hE)
  clear hE HP
  have g1 : decide (ms < 0) = false := decide_eq_false (by omega)
  have g2 : decide (1099511627776 < ms) = false := decide_eq_false (by omega)
  go_enter Tryz.func11, Tryz.ntmps11
  go_upto_region 1 with (fail)
  obtain ⟨W0, hW0⟩ : ∃ W0 : World, ((w.alloc (.cells #[.string h.name, .int .i64 h.height, .slice h.sa h.sets.length h.sc, .slice h.ra h.roofs.length h.rc] 25)).alloc (.cells #[.slice s.ca s.cues.length s.cc, .slice s.pa s.pairs.length s.pc] 29)) = W0 := ⟨_, rfl⟩
  simp only [hW0] at HX HW ⊢
  clear hW0
  obtain ⟨B1, hB1⟩ : ∃ b, w.heap.size = b := ⟨_, rfl⟩
  obtain ⟨B2, hB2⟩ : ∃ b, w.heap.size + 1 = b := ⟨_, rfl⟩
  rw [hB2] at HX ⊢
  rw [hB1] at HX ⊢
  have HBB : Hid (w.heap.size = B1) := Lib.hid hB1
  clear hB1 hB2
  obtain ⟨⟨a0, a1, a2, a3⟩, ⟨s0, s1⟩, -, -, -⟩ := HX.out _ (Below.refl _ _)
  have HMD := Lib.hid (made_any h s ga G gc _ (HX.out _ (Below.refl _ _)).2.2.1 (HX.out _ (Below.refl _ _)).2.2.2.1 (HX.out _ (Below.refl _ _)).2.2.2.2 hgl)
  obtain ⟨ca, hca⟩ : ∃ a, s.ca = a := ⟨_, rfl⟩
  have HCA := Lib.hid hca
  rw [hca] at s0 HMD ⊢
  clear hca
  go_upto_region 7 with (go_at_call 25; (with_reducible refine HMD.out.mono ?_); rintro e w1 ⟨hx1, hb1⟩; obtain ⟨ta, tn, tc, sa, sn, sc, na, nn, nc, rfl, hp1⟩ := hx1.out; have HP1 := Lib.hid hp1; clear hx1 hp1; rw [HE.out])
  obtain ⟨e1, e2, hS1, hN1⟩ := HP1.out HE.out
  subst e1
  subst e2
  have hbx := below_new w1 (.cells #[.slice ta tn tc, .slice sa s.cues.length sc, .slice na s.cues.length nc] 73)
  have hP2 := PC.put w1 (.slice ta tn tc) (.slice sa s.cues.length sc) (.slice na s.cues.length nc) 73
  have hW2 := (HW.out _ hb1).alloc (by have := (HW.out _ hb1).size; omega) (.cells #[.slice ta tn tc, .slice sa s.cues.length sc, .slice na s.cues.length nc] 73)
  have hX2 : Hid (Below W0.heap.size W0 (w1.alloc (.cells #[.slice ta tn tc, .slice sa s.cues.length sc, .slice na s.cues.length nc] 73))) := Lib.hid (hb1.alloc hb1.size _)
  replace hS1 := hS1.grow hbx
  replace hN1 := hN1.grow hbx
  clear hbx HP1 HMD a0 a1 a2 a3 s0 s1
  generalize w1.alloc (.cells #[.slice ta tn tc, .slice sa s.cues.length sc, .slice na s.cues.length nc] 73) = W2 at *
  obtain ⟨B8, hB8⟩ : ∃ b, w1.heap.size = b := ⟨_, rfl⟩
  rw [hB8] at hP2 ⊢
  clear hB8
  have HXX : Hid (∀ w', Below W2.heap.size W2 w' → Below w.heap.size w w' ∧ PC w' B8 (.slice ta tn tc) (.slice sa s.cues.length sc) (.slice na s.cues.length nc) ∧ Nums w'.heap.size w' sa (planS h s G) ∧ Nums w'.heap.size w' na (planN h s) ∧ SheetAt w' B2 s ∧ SheetIn w' s) := Lib.hid fun w' z => by
   have y := hX2.out.trans (z.mono hX2.out.size)
   obtain ⟨-, y2, -, y4, -⟩ := HX.out w' y
   exact ⟨hW2.trans (z.mono hW2.size), hP2.carry z, hS1.grow z, hN1.grow z, y2, y4⟩
  clear HX hW2 hS1 hN1 hP2 HW hX2 hb1
  obtain ⟨n₂, hn2⟩ : ∃ n, W2.heap.size = n := ⟨_, rfl⟩
  rw [hn2] at HXX
  have hB2 : Below n₂ W2 W2 := by rw [← hn2]; exact Below.refl _ _
  have hnn : n₂ ≤ W2.heap.size := by omega
  have HBN : Hid (w.heap.size ≤ n₂) := Lib.hid (by have := (HXX.out _ hB2).1.size; omega)
  clear hn2
  obtain ⟨-, -, -, -, ⟨s0, s1⟩, -⟩ := HXX.out _ hB2
  rw [HCA.out] at s0
  go_upto_region 8 with (fail)
  clear s0 s1 g1 g2
  go_loopw [12, 13, 14, 36] (fun v12 _ _ iv wr => ∃ (k : Nat), iv = .int .i64 k ∧ k ≤ s.cues.length ∧ Below n₂ W2 wr ∧ n₂ ≤ wr.heap.size ∧ Hid (wr.ownsRow n₂ 9 1 v12 (busyL h s G ms k).length (sflat (busyL h s G ms k)))) (fun _ _ _ iv _ => s.cues.length - (intOf iv).toNat)
  case atStart => exact ⟨0, rfl, Nat.zero_le _, hB2, hnn, Lib.hid (World.ownsRow_nil _ _ _ _)⟩
  case round =>
   clear hB2 hnn
   obtain ⟨k, rfl, hk, hB, hnw, HR⟩ := hrel
   by_cases hlt : k < s.cues.length
   ·obtain ⟨-, -, hS, hN, -, hsi⟩ := HXX.out _ hB
    obtain ⟨b, off, ha, hb, hc⟩ := hsi.lies (by omega)
    rw [HCA.out] at ha
    subst ha
    obtain ⟨d0, d1, d2, d3, d4, d5, d6⟩ := hc k hlt
    have hls : k < (planS h s G).length := by rw [HQ.out.2.lenS]; exact hlt
    have hln : k < (planN h s).length := by rw [HQ.out.2.lenN]; exact hlt
    obtain ⟨sb, so, hsa, hsb, hsx⟩ := hS (by omega)
    subst hsa
    obtain ⟨nb, no, hna, hnb, hnx⟩ := hN (by omega)
    subst hna
    have q1 := HQ.out.2.lens k hlt
    have q2 := HQ.out.2.starts k hlt
    have HYES := Lib.hid fun r => busyL_yes (h := h) (s := s) (G := G) (ms := ms) (n := k) r
    have HNO := Lib.hid fun r => busyL_no (h := h) (s := s) (G := G) (ms := ms) (n := k) r
    obtain ⟨q, hq⟩ : ∃ q, cg s.cues k = q := ⟨_, rfl⟩
    rw [hq] at d0 d1 d2 d3 d4 d5 d6 HYES
    have hRD : Runs (planS h s G) (planN h s) ms k ↔ ig (planS h s G) k ≤ ms ∧ ms < ig (planS h s G) k + ig (planN h s) k := Iff.rfl
    obtain ⟨x, hx⟩ : ∃ x, ig (planS h s G) k = x := ⟨_, rfl⟩
    obtain ⟨y, hy⟩ : ∃ x, ig (planN h s) k = x := ⟨_, rfl⟩
    rw [hx, hy] at hRD
    rw [hx] at q2
    rw [hy] at q1
    have HX5 := Lib.hid hx
    have HY5 := Lib.hid hy
    have HRD := Lib.hid hRD
    have hsum : IntKind.i64.wrap (x + y) = x + y := by simp only [IntKind.wrap_i64]; omega
    have HLE := Lib.hid (busyL_len h s G ms k)
    clear hS hN hsi hc hsx hnx hq hx hy hRD q1 q2
    have hB3 := hB.alloc hnw (.cells #[.string q.name, .string q.after, .int .i64 q.link, .int .i64 q.delay, .slice q.ma q.moves.length q.mc, .int .i64 q.crew, .int .i64 q.power] 49)
    have hbn := below_new wr (.cells #[.string q.name, .string q.after, .int .i64 q.link, .int .i64 q.delay, .slice q.ma q.moves.length q.mc, .int .i64 q.crew, .int .i64 q.power] 49)
    have HC3 := CueAt.new wr q 49 _ rfl
    have hn3 : n₂ ≤ (wr.alloc (.cells #[.string q.name, .string q.after, .int .i64 q.link, .int .i64 q.delay, .slice q.ma q.moves.length q.mc, .int .i64 q.crew, .int .i64 q.power] 49)).heap.size := by simp; omega
    have HR3 := Lib.hid (ownsRow_below HR.out hbn)
    go_upto_region 10 with (fail)
    clear d0 d1 d2 d3 d4 d5 d6 HR hbn hB hnw hb
    generalize wr.alloc (.cells #[.string q.name, .string q.after, .int .i64 q.link, .int .i64 q.delay, .slice q.ma q.moves.length q.mc, .int .i64 q.crew, .int .i64 q.power] 49) = W3 at *
    obtain ⟨B12, hB12⟩ : ∃ b, wr.heap.size = b := ⟨_, rfl⟩
    rw [hB12] at HC3 ⊢
    clear hB12
    have hn3' : ∀ n, n₂ ≤ (W3.drewN n).heap.size := fun _ => hn3
    obtain ⟨-, ⟨p0, p1, p2, p3, p4, p5, p6⟩, hS, hN, -, -⟩ := HXX.out _ hB3
    obtain ⟨tb, tf, e1, -, ex⟩ := hS (by omega)
    cases e1
    have x2 := ex k hls
    obtain ⟨tb, tf, e1, -, ey⟩ := hN (by omega)
    cases e1
    have y2 := ey k hln
    rw [HX5.out] at x2
    rw [HY5.out] at y2
    clear hS hN ex ey
    by_cases r1 : x ≤ ms
    ·have b1 : decide (x ≤ ms) = true := decide_eq_true r1
     by_cases r2 : ms < x + y
     ·have b2 : decide (ms < x + y) = true := decide_eq_true r2
      have HSN := Lib.hid (HYES.out (HRD.out.2 ⟨r1, r2⟩))
      clear r1 r2
      go_upto_region 11 with (go_quiet (fail))
      have hbq := below_drewN (Below.refl W3.heap.size W3) nq
      have hB6 := hB3.trans (hbq.mono hn3)
      have hn6 : n₂ ≤ (W3.drewN nq).heap.size := hn3
      have HR6 := Lib.hid (ownsRow_below HR3.out hbq)
      have c0 := (HC3.carry hbq).1
      have hl0 : B12 < (W3.drewN nq).heap.size := World.block_lt_of_cell? _ _ c0
      clear hbq p0 p1 p2 p3 p4 p5 p6 x2 y2 b1 b2
      generalize W3.drewN nq = W6 at *
      have hbx := below_new W6 (.cells #[.string q.name] 9)
      have HO8 := Lib.hid (ownsRow_below HR6.out hbx)
      have hB8 := hB6.alloc hn6 (.cells #[.string q.name] 9)
      have hn8 : n₂ ≤ (W6.alloc (.cells #[.string q.name] 9)).heap.size := by simp; omega
      have hkl : (busyL h s G ms k).length ≤ 1000000 := by have := HLE.out; omega
      have hc8 : (W6.alloc (.cells #[.string q.name] 9)).cell? ⟨W6.heap.size, 0, none⟩ = some (.string q.name) := by simp
      clear hbx
      go_wp2_with (at_builtin; refine str_append rfl _ _ rfl n₂ _ (busyL h s G ms k) rfl HO8.out _ q.name rfl hc8 hkl hn8 ?_; intro v2 w8 hown8 hg8; have HO9 := Lib.hid hown8; have hB9 := hB8.grown hg8 (by omega) (fun j hj => (HO8.out.lt _ hj).1); have hn9 := Nat.le_trans hn8 hg8.size; clear hown8 hg8)
      go_roundw
      case rel => exact ⟨k + 1, by go_num, by omega, hB9, hn9, Lib.hid (by rw [HSN.out]; exact HO9.out)⟩
      case measure => simp [intOf]; omega
     ·have b2 : decide (ms < x + y) = false := decide_eq_false r2
      have HSN := Lib.hid (HNO.out fun z => r2 (HRD.out.1 z).2)
      clear r1 r2
      go_wp2_with (go_quiet (fail))
      go_roundw
      case rel => exact ⟨k + 1, by go_num, by omega, below_drewN hB3 _, hn3' _, Lib.hid (by rw [HSN.out]; exact HR3.out)⟩
      case measure => simp [intOf]; omega
    ·have b1 : decide (x ≤ ms) = false := decide_eq_false r1
     have HSN := Lib.hid (HNO.out fun z => r1 (HRD.out.1 z).1)
     clear r1
     go_wp2_with (go_quiet (fail))
     go_roundw
     case rel => exact ⟨k + 1, by go_num, by omega, below_drewN hB3 _, hn3' _, Lib.hid (by rw [HSN.out]; exact HR3.out)⟩
     case measure => simp [intOf]; omega
   ·obtain rfl : k = s.cues.length := by omega
    go_wp2_with fail
    go_ret2
    exact ⟨Lib.hid ⟨_, by first | rfl | (rw [HE.out]; rfl), by rw [HEP.out]; exact ownsRow_base HR.out HBN.out⟩, (HXX.out _ hB).1⟩
end Go.Proofs.YtlnodjcmdnmnlaaGreat
namespace Go.Proofs.YtlnodjcmdnmnlaaGreat
open Go.RowKit Go.Shelf
attribute [local go_sem] Oper.semAt_some
/-! ### Slices of api.Load -/

def og (L : List (Int × Int)) (i : Nat) : Int × Int := (L[i]?).getD (0, 0)
theorem og_eq (L : List (Int × Int)) (i : Nat) (h : i < L.length) : og L i = L[i] := by unfold og; rw [List.getElem?_eq_getElem h]; rfl
theorem og_ext (F1 F2 : List (Int × Int)) (hl : F1.length = F2.length) (h : ∀ j, j < F1.length → og F1 j = og F2 j) : F1 = F2 := by
 refine List.ext_getElem hl fun i h1 h2 => ?_
 have := h i h1
 rwa [og_eq F1 i h1, og_eq F2 i h2] at this
theorem og_old (L : List (Int × Int)) (x : Int × Int) (i : Nat) (h : i < L.length) : og (L ++ [x]) i = og L i := by unfold og; rw [List.getElem?_append_left h]
theorem og_new (L : List (Int × Int)) (x : Int × Int) : og (L ++ [x]) L.length = x := by unfold og; simp
def oflat (L : List (Int × Int)) : List Value := L.flatMap fun r => [.int .i64 r.1, .int .i64 r.2]
theorem oflat_at (L : List (Int × Int)) (i : Nat) (hi : i < L.length) : (oflat L)[i * 2]? = some (.int .i64 (og L i).1) ∧ (oflat L)[i * 2 + 1]? = some (.int .i64 (og L i).2) := by
 induction L generalizing i with
 | nil => simp at hi
 | cons x r ih =>
  match i with
  | 0 => exact ⟨rfl, rfl⟩
  | i + 1 =>
   have := ih i (by simpa using hi)
   have e : oflat (x :: r) = .int .i64 x.1 :: .int .i64 x.2 :: oflat r := rfl
   rw [e, show (i + 1) * 2 = i * 2 + 1 + 1 by omega]
   simpa [og] using this
theorem oflat_snoc (L : List (Int × Int)) (r : Int × Int) : oflat (L ++ [r]) = oflat L ++ [.int .i64 r.1, .int .i64 r.2] := by simp [oflat]
def Loads (n₀ : Nat) (w : World) (a : Option Addr) (L : List (Int × Int)) : Prop :=
 0 < L.length → ∃ b off, a = some ⟨b, off, none⟩ ∧ b < n₀ ∧ ∀ i, i < L.length → w.cell? ⟨b, off + i * 2, none⟩ = some (.int .i64 (og L i).1) ∧ w.cell? ⟨b, off + i * 2 + 1, none⟩ = some (.int .i64 (og L i).2)
theorem Loads.below {n₀ : Nat} {w w' : World} {a : Option Addr} {L : List (Int × Int)} (h : Loads n₀ w a L) (hb : Below n₀ w w') : Loads n₀ w' a L := fun hl => by
 obtain ⟨b, off, rfl, hlt, hc⟩ := h hl
 refine ⟨b, off, rfl, hlt, fun i hi => ?_⟩
 obtain ⟨c0, c1⟩ := hc i hi
 exact ⟨(hb.cell (p := ⟨b, _, none⟩) hlt).trans c0, (hb.cell (p := ⟨b, _, none⟩) hlt).trans c1⟩
theorem Loads.mono {n₀ n₁ : Nat} {w : World} {a : Option Addr} {L : List (Int × Int)} (h : Loads n₀ w a L) (hn : n₀ ≤ n₁) : Loads n₁ w a L := fun hl => by
 obtain ⟨b, off, rfl, hlt, hc⟩ := h hl
 exact ⟨b, off, rfl, by omega, hc⟩
theorem Loads.grow {w w' : World} {a : Option Addr} {L : List (Int × Int)} (h : Loads w.heap.size w a L) (hb : Below w.heap.size w w') : Loads w'.heap.size w' a L := (h.below hb).mono hb.size
theorem Loads.nil {n₀ : Nat} {w : World} {a : Option Addr} : Loads n₀ w a [] := fun h => absurd h (Nat.not_lt_zero _)
theorem Loads.take {n₀ : Nat} {w : World} {a : Option Addr} {L : List (Int × Int)} (h : Loads n₀ w a L) (n : Nat) : Loads n₀ w a (L.take n) := fun hl => by
 have hl' : 0 < L.length := by rw [List.length_take] at hl; omega
 obtain ⟨b, off, rfl, hlt, hc⟩ := h hl'
 refine ⟨b, off, rfl, hlt, fun i hi => ?_⟩
 rw [List.length_take] at hi
 have e : og (L.take n) i = og L i := by unfold og; rw [List.getElem?_take, if_pos (by omega)]
 rw [e]
 exact hc i (by omega)
theorem load_len (L : List (Int × Int)) : (oflat L).length = L.length * 2 := by
 induction L with
 | nil => rfl
 | cons x r ih =>
  have e : oflat (x :: r) = .int .i64 x.1 :: .int .i64 x.2 :: oflat r := rfl
  rw [e]
  simp only [List.length_cons, ih]
  try omega
theorem load_of_row {w : World} {base : Nat} {v : Value} {L : List (Int × Int)} (h : w.ownsRow base 41 2 v L.length (oflat L)) : ∃ a cap, v = .slice a L.length cap ∧ L.length ≤ cap ∧ cap ≤ maxLen ∧ (a = none → cap = 0) ∧ Loads w.heap.size w a L := by
 rcases h.2 with ⟨rfl, h0⟩ | ⟨g, cap, cur, rfl, hb, hg, h1, h2, _⟩
 ·exact ⟨none, 0, by rw [h0], by omega, by unfold maxLen; omega, fun _ => rfl, fun hl => by omega⟩
 ·refine ⟨_, cap, rfl, h1, h2, (fun e => by cases e), fun _ => ⟨g, 0, rfl, (Array.getElem?_eq_some_iff.1 hg).1, fun i hi => ?_⟩⟩
  obtain ⟨f0, f1⟩ := oflat_at L i hi
  have c0 := h.cellAt (i * 2) (by omega)
  have c1 := h.cellAt (i * 2 + 1) (by omega)
  rw [f0] at c0
  rw [f1] at c1
  rw [Nat.zero_add]
  exact ⟨c0, c1⟩
/-! ### Slices of resources.use -/

def ug (L : List (Int × Int × Int)) (i : Nat) : Int × Int × Int := (L[i]?).getD (0, 0, 0)
theorem ug_eq (L : List (Int × Int × Int)) (i : Nat) (h : i < L.length) : ug L i = L[i] := by unfold ug; rw [List.getElem?_eq_getElem h]; rfl
def ugflat (L : List (Int × Int × Int)) : List Value := L.flatMap fun r => [.int .i64 r.1, .int .i64 r.2.1, .int .i64 r.2.2]
theorem ugflat_at (L : List (Int × Int × Int)) (i : Nat) (hi : i < L.length) : (ugflat L)[i * 3]? = some (.int .i64 (ug L i).1) ∧ (ugflat L)[i * 3 + 1]? = some (.int .i64 (ug L i).2.1) ∧ (ugflat L)[i * 3 + 2]? = some (.int .i64 (ug L i).2.2) := by
 induction L generalizing i with
 | nil => simp at hi
 | cons x r ih =>
  match i with
  | 0 => exact ⟨rfl, rfl, rfl⟩
  | i + 1 =>
   have := ih i (by simpa using hi)
   have e : ugflat (x :: r) = .int .i64 x.1 :: .int .i64 x.2.1 :: .int .i64 x.2.2 :: ugflat r := rfl
   rw [e, show (i + 1) * 3 = i * 3 + 1 + 1 + 1 by omega]
   simpa [ug] using this
theorem ugflat_snoc (L : List (Int × Int × Int)) (r : Int × Int × Int) : ugflat (L ++ [r]) = ugflat L ++ [.int .i64 r.1, .int .i64 r.2.1, .int .i64 r.2.2] := by simp [ugflat]
def Uses (n₀ : Nat) (w : World) (a : Option Addr) (L : List (Int × Int × Int)) : Prop :=
 0 < L.length → ∃ b off, a = some ⟨b, off, none⟩ ∧ b < n₀ ∧ ∀ i, i < L.length → w.cell? ⟨b, off + i * 3, none⟩ = some (.int .i64 (ug L i).1) ∧ w.cell? ⟨b, off + i * 3 + 1, none⟩ = some (.int .i64 (ug L i).2.1) ∧ w.cell? ⟨b, off + i * 3 + 2, none⟩ = some (.int .i64 (ug L i).2.2)
theorem Uses.below {n₀ : Nat} {w w' : World} {a : Option Addr} {L : List (Int × Int × Int)} (h : Uses n₀ w a L) (hb : Below n₀ w w') : Uses n₀ w' a L := fun hl => by
 obtain ⟨b, off, rfl, hlt, hc⟩ := h hl
 refine ⟨b, off, rfl, hlt, fun i hi => ?_⟩
 obtain ⟨c0, c1, c2⟩ := hc i hi
 exact ⟨(hb.cell (p := ⟨b, _, none⟩) hlt).trans c0, (hb.cell (p := ⟨b, _, none⟩) hlt).trans c1, (hb.cell (p := ⟨b, _, none⟩) hlt).trans c2⟩
theorem Uses.mono {n₀ n₁ : Nat} {w : World} {a : Option Addr} {L : List (Int × Int × Int)} (h : Uses n₀ w a L) (hn : n₀ ≤ n₁) : Uses n₁ w a L := fun hl => by
 obtain ⟨b, off, rfl, hlt, hc⟩ := h hl
 exact ⟨b, off, rfl, by omega, hc⟩
theorem Uses.grow {w w' : World} {a : Option Addr} {L : List (Int × Int × Int)} (h : Uses w.heap.size w a L) (hb : Below w.heap.size w w') : Uses w'.heap.size w' a L := (h.below hb).mono hb.size
theorem Uses.nil {n₀ : Nat} {w : World} {a : Option Addr} : Uses n₀ w a [] := fun h => absurd h (Nat.not_lt_zero _)
theorem Uses.take {n₀ : Nat} {w : World} {a : Option Addr} {L : List (Int × Int × Int)} (h : Uses n₀ w a L) (n : Nat) : Uses n₀ w a (L.take n) := fun hl => by
 have hl' : 0 < L.length := by rw [List.length_take] at hl; omega
 obtain ⟨b, off, rfl, hlt, hc⟩ := h hl'
 refine ⟨b, off, rfl, hlt, fun i hi => ?_⟩
 rw [List.length_take] at hi
 have e : ug (L.take n) i = ug L i := by unfold ug; rw [List.getElem?_take, if_pos (by omega)]
 rw [e]
 exact hc i (by omega)
theorem use_of_row {w : World} {base : Nat} {v : Value} {L : List (Int × Int × Int)} (h : w.ownsRow base 83 3 v L.length (ugflat L)) : ∃ a cap, v = .slice a L.length cap ∧ L.length ≤ cap ∧ cap ≤ maxLen ∧ (a = none → cap = 0) ∧ Uses w.heap.size w a L := by
 rcases h.2 with ⟨rfl, h0⟩ | ⟨g, cap, cur, rfl, hb, hg, h1, h2, _⟩
 ·exact ⟨none, 0, by rw [h0], by omega, by unfold maxLen; omega, fun _ => rfl, fun hl => by omega⟩
 ·refine ⟨_, cap, rfl, h1, h2, (fun e => by cases e), fun _ => ⟨g, 0, rfl, (Array.getElem?_eq_some_iff.1 hg).1, fun i hi => ?_⟩⟩
  obtain ⟨f0, f1, f2⟩ := ugflat_at L i hi
  have c0 := h.cellAt (i * 3) (by omega)
  have c1 := h.cellAt (i * 3 + 1) (by omega)
  have c2 := h.cellAt (i * 3 + 2) (by omega)
  rw [f0] at c0
  rw [f1] at c1
  rw [f2] at c2
  rw [Nat.zero_add]
  exact ⟨c0, c1, c2⟩
/-! ### Slices of api.Task -/
structure TaskR where
 name : ByteArray
 length : Int
 crew : Int
 power : Int
 ba : Option Addr
 bl : Nat
 bc : Nat

def tkg (L : List (TaskR)) (i : Nat) : TaskR := (L[i]?).getD ⟨⟨#[]⟩, 0, 0, 0, none, 0, 0⟩
theorem tkg_eq (L : List (TaskR)) (i : Nat) (h : i < L.length) : tkg L i = L[i] := by unfold tkg; rw [List.getElem?_eq_getElem h]; rfl
def taskV (r : TaskR) : Value := .agg #[.string r.name, .int .i64 r.length, .int .i64 r.crew, .int .i64 r.power, .slice r.ba r.bl r.bc]
def tkflat (L : List (TaskR)) : List Value := L.flatMap fun r => [.string r.name, .int .i64 r.length, .int .i64 r.crew, .int .i64 r.power, .slice r.ba r.bl r.bc]
theorem tkflat_at (L : List (TaskR)) (i : Nat) (hi : i < L.length) : (tkflat L)[i * 5]? = some (.string (tkg L i).name) ∧ (tkflat L)[i * 5 + 1]? = some (.int .i64 (tkg L i).length) ∧ (tkflat L)[i * 5 + 2]? = some (.int .i64 (tkg L i).crew) ∧ (tkflat L)[i * 5 + 3]? = some (.int .i64 (tkg L i).power) ∧ (tkflat L)[i * 5 + 4]? = some (.slice (tkg L i).ba (tkg L i).bl (tkg L i).bc) := by
 induction L generalizing i with
 | nil => simp at hi
 | cons x r ih =>
  match i with
  | 0 => exact ⟨rfl, rfl, rfl, rfl, rfl⟩
  | i + 1 =>
   have := ih i (by simpa using hi)
   have e : tkflat (x :: r) = .string x.name :: .int .i64 x.length :: .int .i64 x.crew :: .int .i64 x.power :: .slice x.ba x.bl x.bc :: tkflat r := rfl
   rw [e, show (i + 1) * 5 = i * 5 + 1 + 1 + 1 + 1 + 1 by omega]
   simpa [tkg] using this
def Tasks (n₀ : Nat) (w : World) (a : Option Addr) (L : List (TaskR)) : Prop :=
 0 < L.length → ∃ b off, a = some ⟨b, off, none⟩ ∧ b < n₀ ∧ ∀ i, i < L.length → w.cell? ⟨b, off + i * 5, none⟩ = some (.string (tkg L i).name) ∧ w.cell? ⟨b, off + i * 5 + 1, none⟩ = some (.int .i64 (tkg L i).length) ∧ w.cell? ⟨b, off + i * 5 + 2, none⟩ = some (.int .i64 (tkg L i).crew) ∧ w.cell? ⟨b, off + i * 5 + 3, none⟩ = some (.int .i64 (tkg L i).power) ∧ w.cell? ⟨b, off + i * 5 + 4, none⟩ = some (.slice (tkg L i).ba (tkg L i).bl (tkg L i).bc)
theorem Tasks.below {n₀ : Nat} {w w' : World} {a : Option Addr} {L : List (TaskR)} (h : Tasks n₀ w a L) (hb : Below n₀ w w') : Tasks n₀ w' a L := fun hl => by
 obtain ⟨b, off, rfl, hlt, hc⟩ := h hl
 refine ⟨b, off, rfl, hlt, fun i hi => ?_⟩
 obtain ⟨c0, c1, c2, c3, c4⟩ := hc i hi
 exact ⟨(hb.cell (p := ⟨b, _, none⟩) hlt).trans c0, (hb.cell (p := ⟨b, _, none⟩) hlt).trans c1, (hb.cell (p := ⟨b, _, none⟩) hlt).trans c2, (hb.cell (p := ⟨b, _, none⟩) hlt).trans c3, (hb.cell (p := ⟨b, _, none⟩) hlt).trans c4⟩
theorem Tasks.mono {n₀ n₁ : Nat} {w : World} {a : Option Addr} {L : List (TaskR)} (h : Tasks n₀ w a L) (hn : n₀ ≤ n₁) : Tasks n₁ w a L := fun hl => by
 obtain ⟨b, off, rfl, hlt, hc⟩ := h hl
 exact ⟨b, off, rfl, by omega, hc⟩
theorem Tasks.grow {w w' : World} {a : Option Addr} {L : List (TaskR)} (h : Tasks w.heap.size w a L) (hb : Below w.heap.size w w') : Tasks w'.heap.size w' a L := (h.below hb).mono hb.size
theorem Tasks.nil {n₀ : Nat} {w : World} {a : Option Addr} : Tasks n₀ w a [] := fun h => absurd h (Nat.not_lt_zero _)
theorem Tasks.take {n₀ : Nat} {w : World} {a : Option Addr} {L : List (TaskR)} (h : Tasks n₀ w a L) (n : Nat) : Tasks n₀ w a (L.take n) := fun hl => by
 have hl' : 0 < L.length := by rw [List.length_take] at hl; omega
 obtain ⟨b, off, rfl, hlt, hc⟩ := h hl'
 refine ⟨b, off, rfl, hlt, fun i hi => ?_⟩
 rw [List.length_take] at hi
 have e : tkg (L.take n) i = tkg L i := by unfold tkg; rw [List.getElem?_take, if_pos (by omega)]
 rw [e]
 exact hc i (by omega)
theorem task_len (L : List (TaskR)) : (tkflat L).length = L.length * 5 := by
 induction L with
 | nil => rfl
 | cons x r ih =>
  have e : tkflat (x :: r) = .string x.name :: .int .i64 x.length :: .int .i64 x.crew :: .int .i64 x.power :: .slice x.ba x.bl x.bc :: tkflat r := rfl
  rw [e]
  simp only [List.length_cons, ih]
  try omega
theorem task_of_row {w : World} {base : Nat} {v : Value} {L : List (TaskR)} (h : w.ownsRow base 54 5 v L.length (tkflat L)) : ∃ a cap, v = .slice a L.length cap ∧ L.length ≤ cap ∧ cap ≤ maxLen ∧ (a = none → cap = 0) ∧ Tasks w.heap.size w a L := by
 rcases h.2 with ⟨rfl, h0⟩ | ⟨g, cap, cur, rfl, hb, hg, h1, h2, _⟩
 ·exact ⟨none, 0, by rw [h0], by omega, by unfold maxLen; omega, fun _ => rfl, fun hl => by omega⟩
 ·refine ⟨_, cap, rfl, h1, h2, (fun e => by cases e), fun _ => ⟨g, 0, rfl, (Array.getElem?_eq_some_iff.1 hg).1, fun i hi => ?_⟩⟩
  obtain ⟨f0, f1, f2, f3, f4⟩ := tkflat_at L i hi
  have c0 := h.cellAt (i * 5) (by omega)
  have c1 := h.cellAt (i * 5 + 1) (by omega)
  have c2 := h.cellAt (i * 5 + 2) (by omega)
  have c3 := h.cellAt (i * 5 + 3) (by omega)
  have c4 := h.cellAt (i * 5 + 4) (by omega)
  rw [f0] at c0
  rw [f1] at c1
  rw [f2] at c2
  rw [f3] at c3
  rw [f4] at c4
  rw [Nat.zero_add]
  exact ⟨c0, c1, c2, c3, c4⟩
def AsksTasks (g : Nat) (cb : Array Value) (n₀ : Nat) (w : World) (p : TaskR → Bool) : Prop :=
 ∀ (W : World) (r : TaskR), Below n₀ w W → Calls Tryz.prog g (#[taskV r] ++ cb) W fun e w' => e = .returned (.bool (p r)) ∧ Below W.heap.size W w'
def task_first (L : List (TaskR)) (p : TaskR → Bool) : Int := match (List.range L.length).find? (fun i => p (tkg L i)) with
 | some i => i
 | none => -1
theorem task_first_hit (L : List (TaskR)) (p : TaskR → Bool) (k : Nat) (hk : k < L.length) (h : p (tkg L k) = true) (hn : ∀ j, j < k → p (tkg L j) = false) : task_first L p = k := by
 unfold task_first
 have : (List.range L.length).find? (fun i => p (tkg L i)) = some k := by
  rw [List.find?_eq_some_iff_getElem]
  refine ⟨by simpa using h, k, by simpa using hk, by simp, fun j hj => ?_⟩
  simpa using hn j hj
 rw [this]
theorem task_first_miss (L : List (TaskR)) (p : TaskR → Bool) (hn : ∀ j, j < L.length → p (tkg L j) = false) : task_first L p = -1 := by
 unfold task_first
 have : (List.range L.length).find? (fun i => p (tkg L i)) = none := by
  rw [List.find?_eq_none]
  intro x hx
  simpa using hn x (by simpa using hx)
 rw [this]
theorem task_first_cases (L : List (TaskR)) (p : TaskR → Bool) : (task_first L p = -1 ∧ ∀ j, j < L.length → p (tkg L j) = false) ∨ ∃ k : Nat, k < L.length ∧ task_first L p = k ∧ p (tkg L k) = true ∧ ∀ j, j < k → p (tkg L j) = false := by
 have main : ∀ n, n ≤ L.length → (∀ j, j < n → p (tkg L j) = false) ∨ ∃ k, k < n ∧ p (tkg L k) = true ∧ ∀ j, j < k → p (tkg L j) = false := by
  intro n
  induction n with
  | zero => exact fun _ => .inl fun j hj => absurd hj (Nat.not_lt_zero _)
  | succ n ih =>
   intro hn
   rcases ih (by omega) with h | ⟨k, hk, h1, h2⟩
   ·cases e : p (tkg L n)
    ·refine .inl fun j hj => ?_
     rcases Nat.lt_or_ge j n with l | l
     ·exact h j l
     ·obtain rfl : j = n := by omega
      exact e
    ·exact .inr ⟨n, by omega, e, h⟩
   ·exact .inr ⟨k, by omega, h1, h2⟩
 rcases main L.length (Nat.le_refl _) with h | ⟨k, hk, h1, h2⟩
 ·exact .inl ⟨task_first_miss L p h, h⟩
 ·exact .inr ⟨k, hk, task_first_hit L p k hk h1 h2, h1, h2⟩
def task_any (L : List (TaskR)) (p : TaskR → Bool) : Bool := decide (0 ≤ task_first L p)
theorem task_any_eq (L : List (TaskR)) (p : TaskR → Bool) : task_any L p = L.any p := by
 unfold task_any
 rw [Bool.eq_iff_iff, List.any_eq_true, decide_eq_true_eq]
 rcases task_first_cases L p with ⟨h, h2⟩ | ⟨k, hk, h, h1, _⟩
 ·rw [h]
  refine ⟨fun h => by omega, fun ⟨x, hx, hp⟩ => ?_⟩
  obtain ⟨j, hj, e⟩ := List.getElem_of_mem hx
  have := h2 j hj
  rw [tkg_eq L j hj, e, hp] at this
  cases this
 ·rw [h]
  exact ⟨fun _ => ⟨_, by rw [tkg_eq L k hk]; exact List.getElem_mem hk, h1⟩, fun _ => by omega⟩
end Go.Proofs.YtlnodjcmdnmnlaaGreat
