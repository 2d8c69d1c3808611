/-
  THE WALK of the law ResourcesRuns.
  FROM A WALK TO A ROW: a law that answers true and turns nothing that was there meets its row's post: each argument reads behind the call as it read before. Over any row of this seat.
  OPENING A SLICE OF RECORDS that came in, whatever the record: its cells, one behind the other, are those of a list.
  ARGUMENTS THAT CAME IN: slices of numbers and of bricks.
  ARGUMENTS THAT CAME IN: a slice of items; a set.
  ARGUMENTS THAT CAME IN: slices of sets and of beams, a house.
-/
import Derived.Test.YtlnodjcmdnmnlaaGreatRows
import Derived.ProofKit
import Derived.OpenShut
import Derived.Below
import Derived.ChangeSame
import Derived.Carry
import Derived.RowKit
import Derived.Deep.Slices
import Derived.Deep.Fields
import Derived.WalkKit
import Derived.Lib.SmallJoins
import Derived.Test.YtlnodjcmdnmnlaaGreatR17
import Derived.Test.YtlnodjcmdnmnlaaGreatR29
import Derived.Test.YtlnodjcmdnmnlaaGreatR28
import Derived.Test.YtlnodjcmdnmnlaaGreatR2
import Derived.Test.YtlnodjcmdnmnlaaGreatR3
import Derived.Test.YtlnodjcmdnmnlaaGreatR14
namespace Go.Proofs.YtlnodjcmdnmnlaaGreat
open Go.RowKit Go.Shelf
attribute [local go_sem] Oper.semAt_some
theorem crew_bd : ∀ q, HeadOK q → 0 ≤ CueR.crew q ∧ CueR.crew q ≤ 100 := fun _ z => z.crew
theorem power_bd : ∀ q, HeadOK q → 0 ≤ CueR.power q ∧ CueR.power q ≤ 100 := fun _ z => z.power
set_option maxRecDepth 100000 in
set_option maxHeartbeats 16000000 in
theorem lawruns_law (h : HouseR) (s : SheetR) (ga : Option Addr) (G : List Int) (gc : Nat) (ms : Int) (m0 : 0 ≤ ms) (m1 : ms ≤ 4294967295) (w : World) (hh : HouseIn0 w h) (hs : SheetIn0 w s) (hG : Nums w.heap.size w ga G) :
  Calls Tryz.prog 4 #[.agg #[.string h.name, .int .i64 h.height, .slice h.sa h.sets.length h.sc, .slice h.ra h.roofs.length h.rc], .agg #[.slice s.ca s.cues.length s.cc, .slice s.pa s.pairs.length s.pc], .slice ga G.length gc, .int .u32 ms] w fun e w' => e = .returned (.bool true) ∧ Below w.heap.size w w' := by
 have hb0 : Below w.heap.size w ((w.alloc (.cells #[.string h.name, .int .i64 h.height, .slice h.sa h.sets.length h.sc, .slice h.ra h.roofs.length h.rc] 25)).alloc (.cells #[.slice s.ca s.cues.length s.cc, .slice s.pa s.pairs.length s.pc] 29)) := (below_new w _).alloc (by simp) _
 have HX : Hid (∀ w', Below ((w.alloc (.cells #[.string h.name, .int .i64 h.height, .slice h.sa h.sets.length h.sc, .slice h.ra h.roofs.length h.rc] 25)).alloc (.cells #[.slice s.ca s.cues.length s.cc, .slice s.pa s.pairs.length s.pc] 29)).heap.size ((w.alloc (.cells #[.string h.name, .int .i64 h.height, .slice h.sa h.sets.length h.sc, .slice h.ra h.roofs.length h.rc] 25)).alloc (.cells #[.slice s.ca s.cues.length s.cc, .slice s.pa s.pairs.length s.pc] 29)) w' → HouseAt w' w.heap.size h ∧ SheetAt w' (w.heap.size + 1) s ∧ HouseIn0 w' h ∧ SheetIn0 w' s ∧ Nums w'.heap.size w' ga G) := Lib.hid fun w' z =>
  ⟨((HouseAt.new w h _).carry (below_new _ _)).carry z, (show SheetAt ((w.alloc (.cells #[.string h.name, .int .i64 h.height, .slice h.sa h.sets.length h.sc, .slice h.ra h.roofs.length h.rc] 25)).alloc (.cells #[.slice s.ca s.cues.length s.cc, .slice s.pa s.pairs.length s.pc] 29)) (w.heap.size + 1) s by unfold SheetAt; simp).carry z, (hh.grow hb0).grow z, (hs.grow hb0).grow z, (hG.grow hb0).grow z⟩
 have HW : Hid (∀ w', Below ((w.alloc (.cells #[.string h.name, .int .i64 h.height, .slice h.sa h.sets.length h.sc, .slice h.ra h.roofs.length h.rc] 25)).alloc (.cells #[.slice s.ca s.cues.length s.cc, .slice s.pa s.pairs.length s.pc] 29)).heap.size ((w.alloc (.cells #[.string h.name, .int .i64 h.height, .slice h.sa h.sets.length h.sc, .slice h.ra h.roofs.length h.rc] 25)).alloc (.cells #[.slice s.ca s.cues.length s.cc, .slice s.pa s.pairs.length s.pc] 29)) w' → Below w.heap.size w w') := Lib.hid fun w' z => hb0.trans (z.mono hb0.size)
 clear hh hs hG hb0
 have nw : IntKind.i64.wrap ms = ms := IntWalk.i64_in _ (by omega)
 cases hsm : smallA h s G
 case false =>
  have HSM := Lib.hid hsm
  clear hsm
  go_enter Tryz.func4, Tryz.ntmps4
  go_upto_region 1 with (fail)
  obtain ⟨W0, hW0⟩ : ∃ W0 : World, ((w.alloc (.cells #[.string h.name, .int .i64 h.height, .slice h.sa h.sets.length h.sc, .slice h.ra h.roofs.length h.rc] 25)).alloc (.cells #[.slice s.ca s.cues.length s.cc, .slice s.pa s.pairs.length s.pc] 29)) = W0 := ⟨_, rfl⟩
  simp only [hW0] at HX HW ⊢
  clear hW0
  obtain ⟨B1, hB1⟩ : ∃ b, w.heap.size = b := ⟨_, rfl⟩
  obtain ⟨B2, hB2⟩ : ∃ b, w.heap.size + 1 = b := ⟨_, rfl⟩
  rw [hB2] at HX ⊢
  rw [hB1] at HX ⊢
  clear hB1 hB2
  go_wp2_with (first
   | (go_at_call 5; (with_reducible refine (awake_any _).mono ?_); rintro e w1 ⟨rfl, hb1⟩; obtain ⟨⟨a0, a1, a2, a3⟩, ⟨s0, s1⟩, -, -, -⟩ := HX.out _ hb1)
   | (go_at_call 6; (with_reducible refine (lawsmall_any h s ga G _ _ (HX.out _ hb1).2.2.1 (HX.out _ hb1).2.2.2.1 (HX.out _ hb1).2.2.2.2).mono ?_); rintro e w2 ⟨rfl, hb2⟩; rw [HSM.out]; have hq2 := hb1.trans (hb2.mono hb1.size)))
  go_ret
  exact ⟨rfl, HW.out _ hq2⟩
 have HSM := Lib.hid hsm
 obtain ⟨z1, z2, z3⟩ := smallA_yes hsm
 have HXI : Hid (∀ w', Below ((w.alloc (.cells #[.string h.name, .int .i64 h.height, .slice h.sa h.sets.length h.sc, .slice h.ra h.roofs.length h.rc] 25)).alloc (.cells #[.slice s.ca s.cues.length s.cc, .slice s.pa s.pairs.length s.pc] 29)).heap.size ((w.alloc (.cells #[.string h.name, .int .i64 h.height, .slice h.sa h.sets.length h.sc, .slice h.ra h.roofs.length h.rc] 25)).alloc (.cells #[.slice s.ca s.cues.length s.cc, .slice s.pa s.pairs.length s.pc] 29)) w' → HouseIn w' h ∧ SheetIn w' s ∧ Nums w'.heap.size w' ga G) := Lib.hid fun w' q =>
  ⟨smallH_in (by omega) (HX.out w' q).2.2.1 z1, smallC_in (by omega) (HX.out w' q).2.2.2.1 z2, (HX.out w' q).2.2.2.2⟩
 have hcl : s.cues.length ≤ 6 := by have := z2.cues; omega
 have hgl : G.length ≤ 1000 := by omega
 clear hsm z1 z2 z3
 by_cases he : planE h s G = 0
 case neg =>
  have HN1 := Lib.hid (sheet_none (CueR.crew ·) he)
  have HN2 := Lib.hid (sheet_none (CueR.power ·) he)
  obtain ⟨E, hE⟩ : ∃ E, planE h s G = E := ⟨_, rfl⟩
  have HE := Lib.hid hE
  rw [hE] at he
  have g0 : (E != 0) = true := bne_iff_ne.2 he
  have g1 : (E == E) = true := beq_self_eq_true _
  clear he hE
  go_enter Tryz.func4, Tryz.ntmps4
  go_upto_region 1 with (fail)
  obtain ⟨W0, hW0⟩ : ∃ W0 : World, ((w.alloc (.cells #[.string h.name, .int .i64 h.height, .slice h.sa h.sets.length h.sc, .slice h.ra h.roofs.length h.rc] 25)).alloc (.cells #[.slice s.ca s.cues.length s.cc, .slice s.pa s.pairs.length s.pc] 29)) = W0 := ⟨_, rfl⟩
  simp only [hW0] at HX HXI HW ⊢
  clear hW0
  obtain ⟨B1, hB1⟩ : ∃ b, w.heap.size = b := ⟨_, rfl⟩
  obtain ⟨B2, hB2⟩ : ∃ b, w.heap.size + 1 = b := ⟨_, rfl⟩
  rw [hB2] at HX ⊢
  rw [hB1] at HX ⊢
  clear hB1 hB2
  go_upto_region 5 with (first
   | (go_at_call 5; (with_reducible refine (awake_any _).mono ?_); rintro e w1 ⟨rfl, hb1⟩; obtain ⟨⟨a0, a1, a2, a3⟩, ⟨s0, s1⟩, -, -, -⟩ := HX.out _ hb1)
   | (go_at_call 6; (with_reducible refine (lawsmall_any h s ga G _ _ (HX.out _ hb1).2.2.1 (HX.out _ hb1).2.2.2.1 (HX.out _ hb1).2.2.2.2).mono ?_); rintro e w2 ⟨rfl, hb2⟩; rw [HSM.out]; have hq2 := hb1.trans (hb2.mono hb1.size)))
  obtain ⟨⟨x0, x1, x2, x3⟩, ⟨y0, y1⟩, -, -, -⟩ := HX.out _ hq2
  clear a0 a1 a2 a3 s0 s1
  go_upto_region 8 with (first
   | (go_at_call 7; (with_reducible refine (Crew_any h s ga G gc _ (HXI.out _ hq2).1 (HXI.out _ hq2).2.1 (HXI.out _ hq2).2.2 hgl).mono ?_); rintro e w3 ⟨hx3, hb3⟩; rw [HN1.out, HE.out] at hx3; obtain ⟨v3, rfl, hr3⟩ := hx3.out; obtain ⟨a3, c3, rfl, -, -, -, -⟩ := load_of_row hr3; clear hx3 hr3; have hq3 := hq2.trans (hb3.mono hq2.size); obtain ⟨⟨p0, p1, p2, p3⟩, ⟨r0, r1⟩, -, -, -⟩ := HX.out _ hq3)
   | (go_at_call 8; (with_reducible refine (Power_any h s ga G gc _ (HXI.out _ hq3).1 (HXI.out _ hq3).2.1 (HXI.out _ hq3).2.2 hgl).mono ?_); rintro e w4 ⟨hx4, hb4⟩; rw [HN2.out, HE.out] at hx4; obtain ⟨v4, rfl, hr4⟩ := hx4.out; obtain ⟨a4, c4, rfl, -, -, -, -⟩ := load_of_row hr4; clear hx4 hr4; have hq4 := hq3.trans (hb4.mono hq3.size); obtain ⟨⟨t0, t1, t2, t3⟩, ⟨k0, k1⟩, -, -, -⟩ := HX.out _ hq4)
   | (go_at_call 11; (with_reducible refine (busy_any ms m0 (by omega) h s ga G gc _ (HXI.out _ hq4).1 (HXI.out _ hq4).2.1 (HXI.out _ hq4).2.2 hgl).mono ?_); rintro e w5 ⟨hx5, hb5⟩; rw [HE.out] at hx5; obtain ⟨v5, rfl, hr5⟩ := hx5.out; obtain ⟨a5, c5, rfl, -, -, -, -⟩ := str_of_row hr5; clear hx5 hr5; have hq5 := hq4.trans (hb5.mono hq4.size)))
  clear x0 x1 x2 x3 y0 y1 p0 p1 p2 p3 r0 r1 t0 t1 t2 t3 k0 k1
  go_wp2_with fail
  go_ret
  exact ⟨rfl, HW.out _ hq5⟩
 have HPL := Lib.hid he
 have HA := Lib.hid (steps_of_plan he crew_bd)
 have HB := Lib.hid (steps_of_plan he power_bd)
 have HBD1 := Lib.hid fun k hk => need_bd (G := G) (plan_sheet he).1 crew_bd ms k hk
 have HBD2 := Lib.hid fun k hk => need_bd (G := G) (plan_sheet he).1 power_bd ms k hk
 have HBZ : Hid (∀ k, k < s.cues.length → str_any (busyP h s G ms) (fun y => decide (y = (cg s.cues k).name)) = decide (Runs (planS h s G) (planN h s) ms k)) := Lib.hid fun k hk => busy_has he hk
 have HBL : Hid ((busyP h s G ms).length ≤ 1000) := Lib.hid (by unfold busyP; rw [if_pos he]; have := busyL_len h s G ms s.cues.length; omega)
 clear he
 go_enter Tryz.func4, Tryz.ntmps4
 go_upto_region 1 with (fail)
 obtain ⟨W0, hW0⟩ : ∃ W0 : World, ((w.alloc (.cells #[.string h.name, .int .i64 h.height, .slice h.sa h.sets.length h.sc, .slice h.ra h.roofs.length h.rc] 25)).alloc (.cells #[.slice s.ca s.cues.length s.cc, .slice s.pa s.pairs.length s.pc] 29)) = W0 := ⟨_, rfl⟩
 simp only [hW0] at HX HXI HW ⊢
 clear hW0
 obtain ⟨B1, hB1⟩ : ∃ b, w.heap.size = b := ⟨_, rfl⟩
 obtain ⟨B2, hB2⟩ : ∃ b, w.heap.size + 1 = b := ⟨_, rfl⟩
 rw [hB2] at HX ⊢
 rw [hB1] at HX ⊢
 clear hB1 hB2
 go_upto_region 5 with (first
  | (go_at_call 5; (with_reducible refine (awake_any _).mono ?_); rintro e w1 ⟨rfl, hb1⟩; obtain ⟨⟨a0, a1, a2, a3⟩, ⟨s0, s1⟩, -, -, -⟩ := HX.out _ hb1)
  | (go_at_call 6; (with_reducible refine (lawsmall_any h s ga G _ _ (HX.out _ hb1).2.2.1 (HX.out _ hb1).2.2.2.1 (HX.out _ hb1).2.2.2.2).mono ?_); rintro e w2 ⟨rfl, hb2⟩; rw [HSM.out]; have hq2 := hb1.trans (hb2.mono hb1.size)))
 obtain ⟨⟨x0, x1, x2, x3⟩, ⟨y0, y1⟩, -, -, -⟩ := HX.out _ hq2
 clear a0 a1 a2 a3 s0 s1 hb1 hb2
 go_upto_region 8 with (first
  | (go_at_call 7; (with_reducible refine (Crew_any h s ga G gc _ (HXI.out _ hq2).1 (HXI.out _ hq2).2.1 (HXI.out _ hq2).2.2 hgl).mono ?_); rintro e w3 ⟨hx3, hb3⟩; rw [HPL.out] at hx3; obtain ⟨v3, rfl, hr3⟩ := hx3.out; obtain ⟨a3, c3, rfl, -, -, -, hl3⟩ := load_of_row hr3; have HL3 := Lib.hid hl3; clear hx3 hr3 hl3; have hq3 := hq2.trans (hb3.mono hq2.size); obtain ⟨⟨p0, p1, p2, p3⟩, ⟨r0, r1⟩, -, -, -⟩ := HX.out _ hq3)
  | (go_at_call 8; (with_reducible refine (Power_any h s ga G gc _ (HXI.out _ hq3).1 (HXI.out _ hq3).2.1 (HXI.out _ hq3).2.2 hgl).mono ?_); rintro e w4 ⟨hx4, hb4⟩; rw [HPL.out] at hx4; obtain ⟨v4, rfl, hr4⟩ := hx4.out; obtain ⟨a4, c4, rfl, -, -, -, hl4⟩ := load_of_row hr4; have HL4 := Lib.hid hl4; clear hx4 hr4 hl4; have hq4 := hq3.trans (hb4.mono hq3.size); obtain ⟨⟨t0, t1, t2, t3⟩, ⟨k0, k1⟩, -, -, -⟩ := HX.out _ hq4)
  | (go_at_call 11; (with_reducible refine (busy_any ms m0 (by omega) h s ga G gc _ (HXI.out _ hq4).1 (HXI.out _ hq4).2.1 (HXI.out _ hq4).2.2 hgl).mono ?_); rintro e w5 ⟨hx5, hb5⟩; rw [HPL.out] at hx5; obtain ⟨v5, rfl, hr5⟩ := hx5.out; obtain ⟨a5, c5, rfl, -, -, -, hl5⟩ := str_of_row hr5; have HL5 := Lib.hid hl5; clear hx5 hr5 hl5; have hq5 := hq4.trans (hb5.mono hq4.size)))
 clear x0 x1 x2 x3 y0 y1 p0 p1 p2 p3 r0 r1 t0 t1 t2 t3 k0 k1
 have HL3' := Lib.hid ((HL3.out.grow hb4).grow hb5)
 have HL4' := Lib.hid (HL4.out.grow hb5)
 clear HL3 HL4 hb3 hb4 hb5 hq2 hq3 hq4
 obtain ⟨LA, hLA⟩ : ∃ L, sheetP h s G (CueR.crew ·) = L := ⟨_, rfl⟩
 obtain ⟨LB, hLB⟩ : ∃ L, sheetP h s G (CueR.power ·) = L := ⟨_, rfl⟩
 obtain ⟨LC, hLC⟩ : ∃ L, busyP h s G ms = L := ⟨_, rfl⟩
 have HS1 : Hid (LA.length ≤ 20 ∧ validB LA = true ∧ (og LA (LA.length - 1)).2 = 0 ∧ (∀ k, 0 < k → k < LA.length → (og LA k).2 ≠ (og LA (k - 1)).2) ∧ toldP LA ms = needTo h s G (CueR.crew ·) ms s.cues.length) := Lib.hid (by
  obtain ⟨f1, f2, f3, f4, f5⟩ := HA.out
  rw [hLA] at f1 f2 f3 f4 f5
  exact ⟨by omega, f2, f3, f4, f5 ms m0⟩)
 have HS2 : Hid (LB.length ≤ 20 ∧ validB LB = true ∧ (og LB (LB.length - 1)).2 = 0 ∧ (∀ k, 0 < k → k < LB.length → (og LB k).2 ≠ (og LB (k - 1)).2) ∧ toldP LB ms = needTo h s G (CueR.power ·) ms s.cues.length) := Lib.hid (by
  obtain ⟨f1, f2, f3, f4, f5⟩ := HB.out
  rw [hLB] at f1 f2 f3 f4 f5
  exact ⟨by omega, f2, f3, f4, f5 ms m0⟩)
 rw [hLA] at HL3' ⊢
 rw [hLB] at HL4' ⊢
 rw [hLC] at HL5 HBZ HBL ⊢
 clear hLA hLB hLC HA HB
 go_upto_region 13 with (go_at_call 12; first
  | (with_reducible refine (short_any _ LA _ 20 _ (by have := HS1.out.1; omega) (by have := HS1.out.1; omega) HS1.out.2.1 HS1.out.2.2.1 HS1.out.2.2.2.1 HL3'.out).mono ?_); rintro e w6 ⟨rfl, hb6⟩; have hq6 := hq5.trans (hb6.mono hq5.size)
  | (with_reducible refine (short_any _ LB _ 20 _ (by have := HS2.out.1; omega) (by have := HS2.out.1; omega) HS2.out.2.1 HS2.out.2.2.1 HS2.out.2.2.2.1 (HL4'.out.grow hb6)).mono ?_); rintro e w7 ⟨rfl, hb7⟩; have hq7 := hq6.trans (hb7.mono hq6.size))
 have hd7 := hb6.trans (hb7.mono hb6.size)
 have hn5 : w5.heap.size ≤ w7.heap.size := hd7.size
 have HQ5 : Hid (∀ wr, Below w5.heap.size w5 wr → Below W0.heap.size W0 wr) := Lib.hid fun wr z => hq5.trans (z.mono hq5.size)
 obtain ⟨-, ⟨y0, y1⟩, -, -, -⟩ := HX.out _ hq7
 obtain ⟨ca, hca⟩ : ∃ a, s.ca = a := ⟨_, rfl⟩
 have HCA := Lib.hid hca
 rw [hca] at y0 ⊢
 clear hca hq5 hq6 hq7 hb6 hb7
 go_upto_region 14 with fail
 clear y0 y1
 go_loopw [15, 16, 18, 83] (fun cv pv _ iv wr => ∃ k : Nat, iv = .int .i64 k ∧ k ≤ s.cues.length ∧ cv = .int .i64 (needTo h s G (CueR.crew ·) ms k) ∧ pv = .int .i64 (needTo h s G (CueR.power ·) ms k) ∧ Below w5.heap.size w5 wr) (fun _ _ _ iv _ => s.cues.length - (intOf iv).toNat)
 case atStart => exact ⟨0, rfl, Nat.zero_le _, rfl, rfl, hd7⟩
 case round =>
  clear hd7 hn5
  obtain ⟨k, rfl, hk, rfl, rfl, hB⟩ := hrel
  have hQ := HQ5.out _ hB
  obtain ⟨-, -, -, hsi, -⟩ := HX.out _ hQ
  by_cases hlt : k < s.cues.length
  ·obtain ⟨b, off, ha, hb, hc⟩ := hsi.lies (by omega)
   rw [HCA.out] at ha
   subst ha
   obtain ⟨d0, d1, d2, d3, d4, d5, d6⟩ := hc k hlt
   have HY1 := Lib.hid fun r => need_yes (h := h) (s := s) (G := G) (nd := (CueR.crew ·)) (t := ms) hlt r
   have HY2 := Lib.hid fun r => need_yes (h := h) (s := s) (G := G) (nd := (CueR.power ·)) (t := ms) hlt r
   have HN1 := Lib.hid fun r => need_no (h := h) (s := s) (G := G) (nd := (CueR.crew ·)) (t := ms) hlt r
   have HN2 := Lib.hid fun r => need_no (h := h) (s := s) (G := G) (nd := (CueR.power ·)) (t := ms) hlt r
   have HBK := Lib.hid (HBZ.out k hlt)
   have HP1 := Lib.hid (HBD1.out k hk)
   have HP2 := Lib.hid (HBD2.out k hk)
   have HPN1 := Lib.hid (HBD1.out (k + 1) hlt)
   have HPN2 := Lib.hid (HBD2.out (k + 1) hlt)
   obtain ⟨q, hq⟩ : ∃ q, cg s.cues k = q := ⟨_, rfl⟩
   rw [hq] at d0 d1 d2 d3 d4 d5 d6 HBK HY1 HY2
   clear hsi hc hq
   obtain ⟨n1, hn1⟩ : ∃ n, needTo h s G (CueR.crew ·) ms k = n := ⟨_, rfl⟩
   obtain ⟨n2, hn2⟩ : ∃ n, needTo h s G (CueR.power ·) ms k = n := ⟨_, rfl⟩
   rw [hn1] at HY1 HN1 HP1 ⊢
   rw [hn2] at HY2 HN2 HP2 ⊢
   clear hn1 hn2
   have hBc := hB.alloc hB.size (.cells #[.string q.name, .string q.after, .int .i64 q.link, .int .i64 q.delay, .slice q.ma q.moves.length q.mc, .int .i64 q.crew, .int .i64 q.power] 49)
   have HC3 := CueAt.new wr q 49 _ rfl
   go_upto_region 16 with (fail)
   clear d0 d1 d2 d3 d4 d5 d6 hb hB
   generalize wr.alloc (.cells #[.string q.name, .string q.after, .int .i64 q.link, .int .i64 q.delay, .slice q.ma q.moves.length q.mc, .int .i64 q.crew, .int .i64 q.power] 49) = W3 at *
   obtain ⟨B6, hB6⟩ : ∃ b, wr.heap.size = b := ⟨_, rfl⟩
   rw [hB6] at HC3 ⊢
   clear hB6
   obtain ⟨p0, p1, p2, p3, p4, p5, p6⟩ := HC3
   by_cases r : Runs (planS h s G) (planN h s) ms k
   ·have HC := Lib.hid (HBK.out.trans (decide_eq_true r))
    have HE1 := Lib.hid (HY1.out r)
    have HE2 := Lib.hid (HY2.out r)
    have w1 : IntKind.i64.wrap (n1 + q.crew) = n1 + q.crew := IntWalk.i64_in _ (by have := HPN1.out; rw [HE1.out] at this; omega)
    have w2 : IntKind.i64.wrap (n2 + q.power) = n2 + q.power := IntWalk.i64_in _ (by have := HPN2.out; rw [HE2.out] at this; omega)
    clear r
    go_wp2_with (go_at_call 13; (with_reducible refine (str_contains _ LC _ q.name _ _ (by have := HBL.out; omega) (HL5.out.grow hBc)).mono ?_); rintro e w' ⟨rfl, rfl⟩; rw [HC.out])
    go_roundw
    case rel => exact ⟨k + 1, by go_num, by omega, by rw [HE1.out], by rw [HE2.out], hBc⟩
    case measure => simp [intOf]; omega
   ·have HC := Lib.hid (HBK.out.trans (decide_eq_false r))
    have HE1 := Lib.hid (HN1.out r)
    have HE2 := Lib.hid (HN2.out r)
    clear r
    go_wp2_with (go_at_call 13; (with_reducible refine (str_contains _ LC _ q.name _ _ (by have := HBL.out; omega) (HL5.out.grow hBc)).mono ?_); rintro e w' ⟨rfl, rfl⟩; rw [HC.out])
    go_roundw
    case rel => exact ⟨k + 1, by go_num, by omega, by rw [HE1.out], by rw [HE2.out], hBc⟩
    case measure => simp [intOf]; omega
  ·obtain rfl : k = s.cues.length := by omega
   clear hsi
   obtain ⟨n1, hn1⟩ : ∃ n, needTo h s G (CueR.crew ·) ms s.cues.length = n := ⟨_, rfl⟩
   obtain ⟨n2, hn2⟩ : ∃ n, needTo h s G (CueR.power ·) ms s.cues.length = n := ⟨_, rfl⟩
   rw [hn1] at HS1 ⊢
   rw [hn2] at HS2 ⊢
   have g1 : (n1 == n1) = true := beq_self_eq_true _
   have g2 : (n2 == n2) = true := beq_self_eq_true _
   clear hn1 hn2
   go_wp2_with (go_at_call 14; first
    | (with_reducible refine (told_any _ LA _ ms _ (by have := HS1.out.1; omega) (HL3'.out.grow hB)).mono ?_); rintro e w8 ⟨rfl, hb8⟩; rw [HS1.out.2.2.2.2]; have hB8 := hB.trans (hb8.mono hB.size)
    | (with_reducible refine (told_any _ LB _ ms _ (by have := HS2.out.1; omega) (HL4'.out.grow hB8)).mono ?_); rintro e w9 ⟨rfl, hb9⟩; rw [HS2.out.2.2.2.2]; have hB9 := hB8.trans (hb9.mono hB8.size))
   go_ret
   exact ⟨rfl, HW.out _ (HQ5.out _ hB9)⟩
end Go.Proofs.YtlnodjcmdnmnlaaGreat
namespace Go.Proofs.YtlnodjcmdnmnlaaGreat
open Go.ChangeShapes Go.WideShapes Go.ChangeAt Go.WideMaps Go.WideElems Go.RowKit
theorem own : ownKnob Tryz.prog.godebug = none := by kernel_rfl
theorem laidOut : laidOutB Tryz.prog = true := by kernel_rfl

section
variable {H : Type} {enc : TypeId × Value → H} {P : Program}
theorem post_of_below {f : Func} {s : ChangeSpec} {apart fresh handsOn again : Bool} {W W' : World} {args : Array Value} {v : Value} {ds gs : List (DataW H)} {before pa pv : List MemPlace}
  (hW : DataW.Whole enc P f.params.toList s.vars apart W args.toList ds gs before)
  (hres : ∀ (b : Nat) (sp : Nat → Bool) (hd : Bool), DataW.TrodAll enc P W' b sp hd f.resultTypes.toList (v.resultList f.resultTypes.size) (s.fn H (ds ++ gs)).results [])
  (hargs : ∀ sp : Nat → Bool, (∀ p ∈ before, sp p.block = true) → DataW.TrodAll enc P W' 0 sp true f.params.toList args.toList (s.fn H (ds ++ gs)).args pa)
  (hvars : ∀ sp : Nat → Bool, (∀ p ∈ before, sp p.block = true) → DataW.TrodVars enc P W' sp s.vars (s.fn H (ds ++ gs)).vars pv)
  (hps : before = pa ++ pv) (hb : Below W.heap.size W W')
  (hok : ∀ (j : Nat) (t : TypeId) (r : Value), f.resultTypes[j]? = some t → (v.resultList f.resultTypes.size)[j]? = some r → Value.okWide P W' .any 0 t r) :
  s.post enc P f apart fresh handsOn again W args v W' := by
 have hlt : ∀ p ∈ before, p.block < W.heap.size := fun p hp => hW.lt p hp
 have hold : ∀ p ∈ before, (fun b => decide (b < W.heap.size)) p.block = true := fun p hp => by simpa using hlt p hp
 refine ⟨ds, gs, before, [], pa, pv, hW, hres _ _ _, hargs _ hold, hvars _ hold, World.keptBut_mono (fun p hp => ⟨hp, ?_⟩) (hb.frame (· ∈ before)), fun _ => ?_⟩
 ·rw [hps, List.mem_append] at hp
  exact Or.inr hp
 ·obtain ⟨_, _, _, _, _, hz, hn⟩ := hW
  refine ⟨hok, _, _, ([] ++ pa) ++ pv, ⟨[] ++ pa, pv, trodAll_append (hargs _ (fun _ _ => rfl)) (hres _ _ _), hvars _ (fun _ _ => rfl), rfl, ?_, ?_⟩, ?_⟩
  ·intro b off hp
   have hin : MemPlace.cell b off ∈ before := by rw [hps]; simpa using hp
   rw [hb.frozen (hlt _ hin)]
   exact hz b off hin
  ·intro ha
   have := hn ha
   rw [hps] at this
   simpa using this
  ·intro p hp _
   rw [hps]
   simpa using hp

theorem trodAll_below (hl : laidOutB P = true) {W W' : World} (hb : Below W.heap.size W W') (sp : Nat → Bool) :
  ∀ {ts : List TypeId} {vs : List Value} {ds : List (DataW H)} {ps : List MemPlace}, (ts.all fun t => P.readableRec t && decide (t < P.types.size)) = true → DataW.TrodAll enc P W 0 (fun _ => true) true ts vs ds ps →
   (∀ x ∈ ps, x.block < W.heap.size) → (∀ x ∈ ps, sp x.block = true) → DataW.TrodAll enc P W' 0 sp true ts vs ds ps
 | [], [], [], _, _, h, _, _ => h
 | t :: ts, v :: vs, d :: ds, _, ht, ⟨p, q, h0, h1, rfl⟩, hlt, hsp => by
  simp only [List.all_cons, Bool.and_eq_true, decide_eq_true_eq] at ht
  exact ⟨p, q, WideElems.Trod_stays hl ht.1.1 ht.1.2 h0 (fun x hx => hb.same (hlt x (List.mem_append.2 (.inl hx)))) (fun x hx => hsp x (List.mem_append.2 (.inl hx))),
   trodAll_below hl hb sp (by simpa using ht.2) h1 (fun x hx => hlt x (List.mem_append.2 (.inr hx))) (fun x hx => hsp x (List.mem_append.2 (.inr hx))), rfl⟩
 | [], [], _ :: _, _, _, h, _, _ => h.elim
 | [], _ :: _, _, _, _, h, _, _ => h.elim
 | _ :: _, [], _, _, _, h, _, _ => h.elim
 | _ :: _, _ :: _, [], _, _, h, _, _ => h.elim

theorem law_post {f : Func} {s : ChangeSpec} {apart fresh handsOn again : Bool} {W W' : World} {args : Array Value} {ds gs : List (DataW H)} {before : List MemPlace} {tb : TypeId}
  (hl : laidOutB P = true) (hr : (f.params.toList.all fun t => P.readableRec t && decide (t < P.types.size)) = true) (hW : DataW.Whole enc P f.params.toList s.vars apart W args.toList ds gs before)
  (hv : s.vars = []) (hfn : s.fn H (ds ++ gs) = { results := [.lit (.bool true)], args := ds }) (ht : f.resultTypes = #[tb]) (hu : P.underlying tb = some .bool) (hb : Below W.heap.size W W') :
  s.post enc P f apart fresh handsOn again W args (.bool true) W' := by
 have hlt : ∀ p ∈ before, p.block < W.heap.size := fun p hp => hW.lt p hp
 have hW2 := hW
 obtain ⟨p, q, hA, hV, hpq, _, _⟩ := hW
 have hV' := hV
 rw [hv] at hV'
 obtain ⟨rfl, rfl⟩ := trodVars_none hV'
 have hpp : before = p := by rw [hpq, List.append_nil]
 refine post_of_below (pa := before) (pv := []) hW2 ?_ ?_ ?_ (by simp) hb ?_
 ·intro b sp hd
  rw [hfn, ht]
  exact trodAll_mk1 (shut_bool hu _)
 ·intro sp hsp
  rw [hfn]
  exact trodAll_below hl hb sp hr (by rw [hpp]; exact hA) hlt hsp
 ·intro sp hsp
  rw [hfn, hv]
  rfl
 ·intro j t r hj hrr
  rw [ht] at hj hrr
  exact ok_one ht rfl (okWide_bool_mk hu _) j t r (by rw [ht]; exact hj) (by rw [ht]; exact hrr)
end
end Go.Proofs.YtlnodjcmdnmnlaaGreat
namespace Go.Proofs.YtlnodjcmdnmnlaaGreat
open Go.ChangeShapes Go.WideShapes Go.ChangeAt Go.WideMaps Go.WideElems Go.RowKit Go.Deep
theorem flatMap_get {X : Type} (cells : X → List Value) (size : Nat) (hlen : ∀ r, (cells r).length = size) : ∀ (L : List X) (j : Nat) (u : Value), (L.flatMap cells)[j]? = some u → ∃ i k r, j = i * size + k ∧ L[i]? = some r ∧ (cells r)[k]? = some u
 | [], j, u, h => by simp at h
 | x :: l, j, u, h => by
  rw [List.flatMap_cons, List.getElem?_append] at h
  split at h
  ·exact ⟨0, j, x, by omega, rfl, h⟩
  ·next hj =>
   rw [hlen] at h hj
   obtain ⟨i, k, r, e, h1, h2⟩ := flatMap_get cells size hlen l _ u h
   exact ⟨i + 1, k, r, by rw [Nat.add_mul]; omega, h1, h2⟩

section
variable {H : Type} {enc : TypeId × Value → H} {P : Program} {w : World} {base : Nat} {spare : Nat → Bool} {held : Bool}
theorem open_rows {X : Type} [Inhabited X] (cells : X → List Value) (size : Nat) (Fit : X → Prop) (hsize : 0 < size) (hlen : ∀ r, (cells r).length = size) {t e : TypeId} (ht : P.underlying t = some (.slice e)) (hC : P.cellsOf e = size)
  (hel : ∀ n cs' y, cs'.length = size → DataW.trod enc P w base spare held n e cs' = some y → ∃ r, cs' = cells r ∧ Fit r) {fuel : Nat} {v : Value} {x : DataW H × List MemPlace} (h : DataW.trod enc P w base spare held fuel t [v] = some x) :
  ∃ (a : Option Addr) (cap : Nat) (L : List X), v = .slice a L.length cap ∧ L.length ≤ cap ∧ cap ≤ maxLen ∧ (a = none → cap = 0) ∧ (∀ r ∈ L, Fit r) ∧
   (0 < L.length → ∃ b off, a = some ⟨b, off, none⟩ ∧ b < w.heap.size ∧ ∀ j u, (L.flatMap cells)[j]? = some u → w.cell? ⟨b, off + j, none⟩ = some u) := by
 rcases open_slice ht h with ⟨hcs, _⟩ | ⟨a, len, cap, m, n, D, Pl, hcs, _, hl, hm, hmm, _, hi⟩
 ·simp only [List.cons.injEq, and_true] at hcs
  subst hcs
  exact ⟨none, 0, [], rfl, Nat.le_refl _, by unfold maxLen; omega, fun _ => rfl, (fun _ h => by cases h), fun h => absurd h (Nat.not_lt_zero _)⟩
 ·simp only [List.cons.injEq, and_true] at hcs
  subst hcs
  have hlm : len ≤ m := by rw [hmm]; split <;> omega
  have hex : ∀ i, ∃ r : X, i < len → Fit r ∧ ∀ k u, (cells r)[k]? = some u → w.cell? (a.add (i * size + k)) = some u := fun i => by
   by_cases h : i < len
   ·obtain ⟨cs', hc, ht'⟩ := hi i (by omega)
    rw [hC] at hc
    obtain ⟨_, hcl, hat⟩ := World.cells?_some hc
    obtain ⟨r, e, hf⟩ := hel n cs' _ hcl ht'
    refine ⟨r, fun _ => ⟨hf, fun k u hu => ?_⟩⟩
    rw [← e] at hu
    have hk : k < size := by
     have := (List.getElem?_eq_some_iff.1 hu).1
     omega
    rw [← Go.Deep.add_add, hat k hk, hu]
   ·exact ⟨default, fun h' => absurd h' h⟩
  obtain ⟨f, hf⟩ := Classical.axiomOfChoice hex
  refine ⟨some a, cap, (List.range len).map f, by simp, by simpa using hl, hm, (fun e => by cases e), ?_, ?_⟩
  ·intro r hr
   obtain ⟨i, hi', rfl⟩ := List.mem_map.1 hr
   exact (hf i (by simpa using hi')).1
  ·intro hpos
   have hpos' : 0 < len := by simpa using hpos
   have hcell : ∀ i k u, i < len → (cells (f i))[k]? = some u → w.cell? (a.add (i * size + k)) = some u := fun i k u h hu => (hf i h).2 k u hu
   have h0 : ∃ u, (cells (f 0))[0]? = some u := ⟨_, List.getElem?_eq_getElem (by rw [hlen]; exact hsize)⟩
   obtain ⟨u0, hu0⟩ := h0
   have hc0 := hcell 0 0 u0 hpos' hu0
   obtain ⟨b, off, spot⟩ := a
   have hspot : spot = none := by simpa [Addr.add] using World.cell?_spot hc0
   subst hspot
   refine ⟨b, off, rfl, ?_, fun j u hj => ?_⟩
   ·rw [Go.WideShapes.add_plain] at hc0
    exact World.block_lt_of_cell? w _ hc0
   ·obtain ⟨i, k, r, e, h1, h2⟩ := flatMap_get cells size hlen _ j u hj
    rw [List.getElem?_map] at h1
    have hil : i < len := by
     rcases Nat.lt_or_ge i len with l | l
     ·exact l
     ·rw [List.getElem?_eq_none (by simpa using l)] at h1; cases h1
    rw [List.getElem?_range hil] at h1
    obtain rfl : f i = r := by simpa using h1
    have := hcell i k u hil h2
    rw [Go.WideShapes.add_plain] at this
    rw [e]
    exact this
theorem elem_fields {e : TypeId} {fs : Array Field} {n : Nat} {cs' : List Value} {y : DataW H × List MemPlace} (he : P.underlying e = some (.struct fs)) (hone : oneCellFields P fs = true) (hl : cs'.length = fs.size) (h : DataW.trod enc P w base spare held n e cs' = some y) :
  ∃ m, ∀ (j : Nat) (f : Field), fs[j]? = some f → ∃ (v : Value) (z : DataW H × List MemPlace), cs'[j]? = some v ∧ DataW.trod enc P w base spare held m f.type [v] = some z := by
 obtain ⟨ys, n', hn', hy, hlen, hyl, hf⟩ := DataW.trod_struct he h
 refine ⟨n', fun j f hj => ?_⟩
 obtain ⟨ho, hk⟩ := hone_of hone j f hj
 have hjl : j < fs.size := (Array.getElem?_eq_some_iff.1 hj).1
 have hv : cs'[j]? = some (cs'[j]'(by omega)) := List.getElem?_eq_getElem (by omega)
 have h1 := hf j f hj
 rw [ho, hk] at h1
 have hone' : (cs'.drop j).take 1 = [cs'[j]'(by omega)] := by
  rw [List.drop_eq_getElem_cons (by omega)]
  rfl
 rw [hone'] at h1
 exact ⟨_, ys[j]'(by omega), hv, h1.trans (List.getElem?_eq_getElem (by omega))⟩
end
end Go.Proofs.YtlnodjcmdnmnlaaGreat
namespace Go.Proofs.YtlnodjcmdnmnlaaGreat
open Go.ChangeShapes Go.WideShapes Go.ChangeAt Go.WideMaps Go.WideElems Go.RowKit Go.Deep Go.Joins
theorem num_of_flat {n₀ : Nat} {w : World} {a : Option Addr} {L : List (Int)} (h : 0 < L.length → ∃ b off, a = some ⟨b, off, none⟩ ∧ b < n₀ ∧ ∀ j u, (nflat L)[j]? = some u → w.cell? ⟨b, off + j, none⟩ = some u) : Nums n₀ w a L := fun hl => by
 obtain ⟨b, off, e, hb, hc⟩ := h hl
 refine ⟨b, off, e, hb, fun i hi => ?_⟩
 have f0 := nflat_at L i hi
 have c0 := hc _ _ f0
 try simp only [← Nat.add_assoc] at c0
 exact c0
theorem brick_of_flat {n₀ : Nat} {w : World} {a : Option Addr} {L : List (BrickR)} (h : 0 < L.length → ∃ b off, a = some ⟨b, off, none⟩ ∧ b < n₀ ∧ ∀ j u, (kflat L)[j]? = some u → w.cell? ⟨b, off + j, none⟩ = some u) : Bricks n₀ w a L := fun hl => by
 obtain ⟨b, off, e, hb, hc⟩ := h hl
 refine ⟨b, off, e, hb, fun i hi => ?_⟩
 obtain ⟨f0, f1, f2⟩ := kflat_at L i hi
 have c0 := hc _ _ f0
 have c1 := hc _ _ f1
 have c2 := hc _ _ f2
 try simp only [← Nat.add_assoc] at c0 c1 c2
 exact ⟨c0, c1, c2⟩
instance : Inhabited BrickR := ⟨⟨⟨#[]⟩, 0, 0⟩⟩
section
variable {H : Type} {enc : TypeId × Value → H} {w : World} {base : Nat} {spare : Nat → Bool} {held : Bool}
theorem open_nums {fuel : Nat} {v : Value} {x : DataW H × List MemPlace} (h : DataW.trod enc Tryz.prog w base spare held fuel 30 [v] = some x) :
  ∃ (a : Option Addr) (cap : Nat) (L : List Int), v = .slice a L.length cap ∧ L.length ≤ cap ∧ cap ≤ maxLen ∧ (a = none → cap = 0) ∧ (∀ r ∈ L, (Lit.int .i64 r).wf = true) ∧ Nums w.heap.size w a L := by
 obtain ⟨a, cap, L, h1, h2, h3, h4, h5, h6⟩ := open_rows (P := Tryz.prog) (fun r : Int => [Value.int .i64 r]) 1 (fun r => (Lit.int .i64 r).wf = true) (by decide) (fun _ => rfl) Tryz.underlying30 (by kernel_rfl) (fun n cs' y hl ht => by
  obtain ⟨m, e, _, hw⟩ := DataW.trod_int Tryz.underlying3 ht
  exact ⟨m, e, hw⟩) h
 exact ⟨a, cap, L, h1, h2, h3, h4, h5, num_of_flat h6⟩
set_option maxRecDepth 100000 in
theorem open_bricks {fuel : Nat} {v : Value} {x : DataW H × List MemPlace} (h : DataW.trod enc Tryz.prog w base spare held fuel 87 [v] = some x) :
  ∃ (a : Option Addr) (cap : Nat) (L : List BrickR), v = .slice a L.length cap ∧ L.length ≤ cap ∧ cap ≤ maxLen ∧ (a = none → cap = 0) ∧ Bricks w.heap.size w a L := by
 obtain ⟨a, cap, L, h1, h2, h3, h4, _, h6⟩ := open_rows (P := Tryz.prog) (fun r : BrickR => [.string r.name, .int .i64 r.weight, .int .i64 r.count]) 3 (fun _ => True) (by decide) (fun _ => rfl) Tryz.underlying87 (by kernel_rfl) (fun n cs' y hl ht => by
  obtain ⟨m, hf⟩ := elem_fields Tryz.underlying126 (by kernel_rfl) (by rw [hl]; rfl) ht
  obtain ⟨v0, z0, c0, t0⟩ := hf 0 _ rfl
  obtain ⟨v1, z1, c1, t1⟩ := hf 1 _ rfl
  obtain ⟨v2, z2, c2, t2⟩ := hf 2 _ rfl
  obtain ⟨n0, e0, _, _⟩ := DataW.trod_string Tryz.underlying9 t0
  obtain ⟨n1, e1, _, w1⟩ := DataW.trod_int Tryz.underlying3 t1
  obtain ⟨n2, e2, _, w2⟩ := DataW.trod_int Tryz.underlying3 t2
  simp only [List.cons.injEq, and_true] at e0 e1 e2
  subst e0 e1 e2
  match cs', hl with
  | [x0, x1, x2], _ =>
   simp only [List.getElem?_cons_zero, List.getElem?_cons_succ, Option.some.injEq] at c0 c1 c2
   subst c0 c1 c2
   exact ⟨⟨n0, n1, n2⟩, rfl, trivial⟩) h
 exact ⟨a, cap, L, h1, h2, h3, h4, brick_of_flat h6⟩
end
section
variable {H : Type} {enc : TypeId × Value → H} {W : World} {base : Nat}
set_option maxRecDepth 100000 in
theorem open_numsA {v : Value} {d : DataW H} {p : List MemPlace} (hv : Value.okWide Tryz.prog W .any base 30 v) (h : DataW.Trod enc Tryz.prog W 0 (fun _ => true) true 30 v d p) :
  ∃ (a : Option Addr) (cap : Nat) (L : List Int), v = .slice a L.length cap ∧ L.length ≤ cap ∧ cap ≤ maxLen ∧ (a = none → cap = 0) ∧ (∀ r ∈ L, (Lit.int .i64 r).wf = true) ∧ Nums W.heap.size W a L := by
 obtain ⟨a0, len0, cap0, rfl⟩ := okWide_slice Tryz.underlying30 hv
 obtain ⟨fuel, hf⟩ := h
 exact open_nums (v := .slice a0 len0 cap0) hf
end
end Go.Proofs.YtlnodjcmdnmnlaaGreat
namespace Go.Proofs.YtlnodjcmdnmnlaaGreat
open Go.ChangeShapes Go.WideShapes Go.ChangeAt Go.WideMaps Go.WideElems Go.RowKit Go.Deep Go.Joins
theorem item_of_flat {n₀ : Nat} {w : World} {a : Option Addr} {L : List ItemR} (h : 0 < L.length → ∃ b off, a = some ⟨b, off, none⟩ ∧ b < n₀ ∧ ∀ j u, (tflat L)[j]? = some u → w.cell? ⟨b, off + j, none⟩ = some u) : Items n₀ w a L := fun hl => by
 obtain ⟨b, off, e, hb, hc⟩ := h hl
 refine ⟨b, off, e, hb, fun i hi => ?_⟩
 obtain ⟨f0, f1, f2, f3, f4, f5, f6⟩ := tflat_at L i hi
 have c0 := hc _ _ f0
 have c1 := hc _ _ f1
 have c2 := hc _ _ f2
 have c3 := hc _ _ f3
 have c4 := hc _ _ f4
 have c5 := hc _ _ f5
 have c6 := hc _ _ f6
 try simp only [← Nat.add_assoc] at c0 c1 c2 c3 c4 c5 c6
 exact ⟨c0, c1, c2, c3, c4, c5, c6⟩
instance : Inhabited ItemR := ⟨⟨⟨#[]⟩, 0, 0, 0, 0, 0, 0⟩⟩
section
variable {H : Type} {enc : TypeId × Value → H} {w : World} {base : Nat} {spare : Nat → Bool} {held : Bool}
set_option maxRecDepth 100000 in
theorem open_items {fuel : Nat} {v : Value} {x : DataW H × List MemPlace} (h : DataW.trod enc Tryz.prog w base spare held fuel 86 [v] = some x) :
  ∃ (a : Option Addr) (cap : Nat) (L : List ItemR), v = .slice a L.length cap ∧ L.length ≤ cap ∧ cap ≤ maxLen ∧ (a = none → cap = 0) ∧ Items w.heap.size w a L := by
 obtain ⟨a, cap, L, h1, h2, h3, h4, _, h6⟩ := open_rows (P := Tryz.prog) (fun r : ItemR => [.string r.name, .int .i64 r.pos, .int .i64 r.width, .int .i64 r.weight, .int .i64 r.hang, .int .i64 r.front, .int .i64 r.back]) 7 (fun _ => True) (by decide) (fun _ => rfl) Tryz.underlying86 (by kernel_rfl) (fun n cs' y hl ht => by
  obtain ⟨m, hf⟩ := elem_fields Tryz.underlying124 (by kernel_rfl) (by rw [hl]; rfl) ht
  obtain ⟨v0, z0, c0, t0⟩ := hf 0 _ rfl
  obtain ⟨v1, z1, c1, t1⟩ := hf 1 _ rfl
  obtain ⟨v2, z2, c2, t2⟩ := hf 2 _ rfl
  obtain ⟨v3, z3, c3, t3⟩ := hf 3 _ rfl
  obtain ⟨v4, z4, c4, t4⟩ := hf 4 _ rfl
  obtain ⟨v5, z5, c5, t5⟩ := hf 5 _ rfl
  obtain ⟨v6, z6, c6, t6⟩ := hf 6 _ rfl
  obtain ⟨n0, e0, _, _⟩ := DataW.trod_string Tryz.underlying9 t0
  obtain ⟨n1, e1, _, w1⟩ := DataW.trod_int Tryz.underlying3 t1
  obtain ⟨n2, e2, _, w2⟩ := DataW.trod_int Tryz.underlying3 t2
  obtain ⟨n3, e3, _, w3⟩ := DataW.trod_int Tryz.underlying3 t3
  obtain ⟨n4, e4, _, w4⟩ := DataW.trod_int Tryz.underlying3 t4
  obtain ⟨n5, e5, _, w5⟩ := DataW.trod_int Tryz.underlying3 t5
  obtain ⟨n6, e6, _, w6⟩ := DataW.trod_int Tryz.underlying3 t6
  simp only [List.cons.injEq, and_true] at e0 e1 e2 e3 e4 e5 e6
  subst e0 e1 e2 e3 e4 e5 e6
  match cs', hl with
  | [x0, x1, x2, x3, x4, x5, x6], _ =>
   simp only [List.getElem?_cons_zero, List.getElem?_cons_succ, Option.some.injEq] at c0 c1 c2 c3 c4 c5 c6
   subst c0 c1 c2 c3 c4 c5 c6
   exact ⟨⟨n0, n1, n2, n3, n4, n5, n6⟩, rfl, trivial⟩) h
 exact ⟨a, cap, L, h1, h2, h3, h4, item_of_flat h6⟩
end
section
variable {H : Type} {enc : TypeId × Value → H} {W : World} {base : Nat}
end
end Go.Proofs.YtlnodjcmdnmnlaaGreat
namespace Go.Proofs.YtlnodjcmdnmnlaaGreat
open Go.ChangeShapes Go.WideShapes Go.ChangeAt Go.WideMaps Go.WideElems Go.RowKit Go.Deep Go.Joins
instance : Inhabited RoofR := ⟨⟨⟨#[]⟩, 0, 0, 0⟩⟩
instance : Inhabited SetR := ⟨⟨⟨#[]⟩, 0, 0, 0, 0, none, [], 0, 0, 0, 0, 0, 0, none, [], 0, none, [], 0⟩⟩
theorem roof_of_flat {n₀ : Nat} {w : World} {a : Option Addr} {L : List RoofR} (h : 0 < L.length → ∃ b off, a = some ⟨b, off, none⟩ ∧ b < n₀ ∧ ∀ j u, (rflat L)[j]? = some u → w.cell? ⟨b, off + j, none⟩ = some u) : Roofs n₀ w a L := fun hl => by
 obtain ⟨b, off, e, hb, hc⟩ := h hl
 refine ⟨b, off, e, hb, fun i hi => ?_⟩
 obtain ⟨f0, f1, f2, f3⟩ := rflat_at L i hi
 have c0 := hc _ _ f0
 have c1 := hc _ _ f1
 have c2 := hc _ _ f2
 have c3 := hc _ _ f3
 try simp only [← Nat.add_assoc] at c0 c1 c2 c3
 exact ⟨c0, c1, c2, c3⟩
theorem set_of_flat {n₀ : Nat} {w : World} {a : Option Addr} {L : List SetR} (h : 0 < L.length → ∃ b off, a = some ⟨b, off, none⟩ ∧ b < n₀ ∧ ∀ j u, (hflat L)[j]? = some u → w.cell? ⟨b, off + j, none⟩ = some u) : SetRows n₀ w a L := fun hl => by
 obtain ⟨b, off, e, hb, hc⟩ := h hl
 refine ⟨b, off, e, hb, fun i hi => ?_⟩
 obtain ⟨f0, f1, f2, f3, f4, f5, f6, f7, f8, f9, f10, f11, f12⟩ := hflat_at L i hi
 have c0 := hc _ _ f0
 have c1 := hc _ _ f1
 have c2 := hc _ _ f2
 have c3 := hc _ _ f3
 have c4 := hc _ _ f4
 have c5 := hc _ _ f5
 have c6 := hc _ _ f6
 have c7 := hc _ _ f7
 have c8 := hc _ _ f8
 have c9 := hc _ _ f9
 have c10 := hc _ _ f10
 have c11 := hc _ _ f11
 have c12 := hc _ _ f12
 try simp only [← Nat.add_assoc] at c0 c1 c2 c3 c4 c5 c6 c7 c8 c9 c10 c11 c12
 exact ⟨c0, c1, c2, c3, c4, c5, c6, c7, c8, c9, c10, c11, c12⟩
section
variable {H : Type} {enc : TypeId × Value → H} {w : World} {base : Nat} {spare : Nat → Bool} {held : Bool}
set_option maxRecDepth 100000 in
theorem open_roofs {fuel : Nat} {v : Value} {x : DataW H × List MemPlace} (h : DataW.trod enc Tryz.prog w base spare held fuel 23 [v] = some x) :
  ∃ (a : Option Addr) (cap : Nat) (L : List RoofR), v = .slice a L.length cap ∧ L.length ≤ cap ∧ cap ≤ maxLen ∧ (a = none → cap = 0) ∧ Roofs w.heap.size w a L := by
 obtain ⟨a, cap, L, h1, h2, h3, h4, _, h6⟩ := open_rows (P := Tryz.prog) (fun r : RoofR => [.string r.name, .int .i64 r.lo, .int .i64 r.hi, .int .i64 r.most]) 4 (fun _ => True) (by decide) (fun _ => rfl) Tryz.underlying23 (by kernel_rfl) (fun n cs' y hl ht => by
  obtain ⟨m, hf⟩ := elem_fields Tryz.underlying91 (by kernel_rfl) (by rw [hl]; rfl) ht
  obtain ⟨v0, z0, c0, t0⟩ := hf 0 _ rfl
  obtain ⟨v1, z1, c1, t1⟩ := hf 1 _ rfl
  obtain ⟨v2, z2, c2, t2⟩ := hf 2 _ rfl
  obtain ⟨v3, z3, c3, t3⟩ := hf 3 _ rfl
  obtain ⟨n0, e0, _, _⟩ := DataW.trod_string Tryz.underlying9 t0
  obtain ⟨n1, e1, _, w1⟩ := DataW.trod_int Tryz.underlying3 t1
  obtain ⟨n2, e2, _, w2⟩ := DataW.trod_int Tryz.underlying3 t2
  obtain ⟨n3, e3, _, w3⟩ := DataW.trod_int Tryz.underlying3 t3
  simp only [List.cons.injEq, and_true] at e0 e1 e2 e3
  subst e0 e1 e2 e3
  match cs', hl with
  | [x0, x1, x2, x3], _ =>
   simp only [List.getElem?_cons_zero, List.getElem?_cons_succ, Option.some.injEq] at c0 c1 c2 c3
   subst c0 c1 c2 c3
   exact ⟨⟨n0, n1, n2, n3⟩, rfl, trivial⟩) h
 exact ⟨a, cap, L, h1, h2, h3, h4, roof_of_flat h6⟩
set_option maxRecDepth 100000 in
theorem open_sets {fuel : Nat} {v : Value} {x : DataW H × List MemPlace} (h : DataW.trod enc Tryz.prog w base spare held fuel 22 [v] = some x) :
  ∃ (a : Option Addr) (cap : Nat) (L : List SetR), v = .slice a L.length cap ∧ L.length ≤ cap ∧ cap ≤ maxLen ∧ (a = none → cap = 0) ∧ (∀ r ∈ L, SetIn0 w r) ∧ SetRows w.heap.size w a L := by
 obtain ⟨a, cap, L, h1, h2, h3, h4, h5, h6⟩ := open_rows (P := Tryz.prog) (fun r : SetR => [.string r.name, .int .i64 r.depth, .int .i64 r.low, .int .i64 r.high, .int .i64 r.length, .slice r.la r.lines.length r.lc, .int .i64 r.pipe, .int .i64 r.arbor, .int .i64 r.purchase, .int .i64 r.most, .int .i64 r.brake, .slice r.ia r.items.length r.ic, .slice r.ba r.bricks.length r.bc]) 13 (fun r => SetIn0 w r) (by decide) (fun _ => rfl) Tryz.underlying22 (by kernel_rfl) (fun n cs' y hl ht => by
  obtain ⟨m, hf⟩ := elem_fields Tryz.underlying89 (by kernel_rfl) (by rw [hl]; rfl) ht
  obtain ⟨v0, z0, c0, t0⟩ := hf 0 _ rfl
  obtain ⟨v1, z1, c1, t1⟩ := hf 1 _ rfl
  obtain ⟨v2, z2, c2, t2⟩ := hf 2 _ rfl
  obtain ⟨v3, z3, c3, t3⟩ := hf 3 _ rfl
  obtain ⟨v4, z4, c4, t4⟩ := hf 4 _ rfl
  obtain ⟨v5, z5, c5, t5⟩ := hf 5 _ rfl
  obtain ⟨v6, z6, c6, t6⟩ := hf 6 _ rfl
  obtain ⟨v7, z7, c7, t7⟩ := hf 7 _ rfl
  obtain ⟨v8, z8, c8, t8⟩ := hf 8 _ rfl
  obtain ⟨v9, z9, c9, t9⟩ := hf 9 _ rfl
  obtain ⟨v10, z10, c10, t10⟩ := hf 10 _ rfl
  obtain ⟨v11, z11, c11, t11⟩ := hf 11 _ rfl
  obtain ⟨v12, z12, c12, t12⟩ := hf 12 _ rfl
  obtain ⟨n0, e0, _, _⟩ := DataW.trod_string Tryz.underlying9 t0
  obtain ⟨n1, e1, _, w1⟩ := DataW.trod_int Tryz.underlying3 t1
  obtain ⟨n2, e2, _, w2⟩ := DataW.trod_int Tryz.underlying3 t2
  obtain ⟨n3, e3, _, w3⟩ := DataW.trod_int Tryz.underlying3 t3
  obtain ⟨n4, e4, _, w4⟩ := DataW.trod_int Tryz.underlying3 t4
  obtain ⟨n6, e6, _, w6⟩ := DataW.trod_int Tryz.underlying3 t6
  obtain ⟨n7, e7, _, w7⟩ := DataW.trod_int Tryz.underlying3 t7
  obtain ⟨n8, e8, _, w8⟩ := DataW.trod_int Tryz.underlying3 t8
  obtain ⟨n9, e9, _, w9⟩ := DataW.trod_int Tryz.underlying3 t9
  obtain ⟨n10, e10, _, w10⟩ := DataW.trod_int Tryz.underlying3 t10
  obtain ⟨la, lc, L, rfl, l1, l2, l3, _, l4⟩ := open_nums t5
  obtain ⟨ia, ic, I, rfl, i1, i2, i3, i4⟩ := open_items t11
  obtain ⟨ba, bc, B, rfl, b1, b2, b3, b4⟩ := open_bricks t12
  simp only [List.cons.injEq, and_true] at e0 e1 e2 e3 e4 e6 e7 e8 e9 e10
  subst e0 e1 e2 e3 e4 e6 e7 e8 e9 e10
  match cs', hl with
  | [x0, x1, x2, x3, x4, x5, x6, x7, x8, x9, x10, x11, x12], _ =>
   simp only [List.getElem?_cons_zero, List.getElem?_cons_succ, Option.some.injEq] at c0 c1 c2 c3 c4 c5 c6 c7 c8 c9 c10 c11 c12
   subst c0 c1 c2 c3 c4 c5 c6 c7 c8 c9 c10 c11 c12
   exact ⟨⟨n0, n1, n2, n3, n4, la, L, lc, n6, n7, n8, n9, n10, ia, I, ic, ba, B, bc⟩, rfl, ⟨l4, i4, b4, l1, i1, b1, l3, i3, b3⟩⟩) h
 exact ⟨a, cap, L, h1, h2, h3, h4, h5, set_of_flat h6⟩
end
section
variable {H : Type} {enc : TypeId × Value → H} {W : World} {base : Nat}
set_option maxRecDepth 100000 in
theorem open_house {v : Value} {d : DataW H} {p : List MemPlace} (hv : Value.okWide Tryz.prog W .any base 25 v) (h : DataW.Trod enc Tryz.prog W 0 (fun _ => true) true 25 v d p) :
  ∃ r : HouseR, v = .agg #[.string r.name, .int .i64 r.height, .slice r.sa r.sets.length r.sc, .slice r.ra r.roofs.length r.rc] ∧ HouseIn0 W r := by
 obtain ⟨cs, rfl, hsz⟩ := okWide_struct Tryz.underlying25 hv
 obtain ⟨l⟩ := cs
 match l, hsz.trans (show Tryz.prog.cellsOf 25 = 4 by kernel_rfl) with
 | [x0, x1, x2, x3], _ =>
  obtain ⟨fuel, hf0⟩ := h
  obtain ⟨m, hf⟩ := elem_fields (cs' := [x0, x1, x2, x3]) Tryz.underlying25 (by kernel_rfl) rfl (by simpa [Value.cells] using hf0)
  obtain ⟨v0, z0, c0, t0⟩ := hf 0 _ rfl
  obtain ⟨v1, z1, c1, t1⟩ := hf 1 _ rfl
  obtain ⟨v2, z2, c2, t2⟩ := hf 2 _ rfl
  obtain ⟨v3, z3, c3, t3⟩ := hf 3 _ rfl
  simp only [List.getElem?_cons_zero, List.getElem?_cons_succ, Option.some.injEq] at c0 c1 c2 c3
  subst c0 c1 c2 c3
  obtain ⟨n0, e0, _, _⟩ := DataW.trod_string Tryz.underlying9 t0
  obtain ⟨n1, e1, _, w1⟩ := DataW.trod_int Tryz.underlying3 t1
  obtain ⟨sa, sc, S, rfl, s1, s2, s3, s4, s5⟩ := open_sets t2
  obtain ⟨ra, rc, R, rfl, r1, r2, r3, r4⟩ := open_roofs t3
  simp only [List.cons.injEq, and_true] at e0 e1
  subst e0 e1
  exact ⟨⟨n0, n1, sa, S, sc, ra, R, rc⟩, rfl, ⟨s5, r4, fun i hi => s4 _ (by rw [hg_eq S i hi]; exact List.getElem_mem hi), s1, r1, s3, r3⟩⟩
end
end Go.Proofs.YtlnodjcmdnmnlaaGreat
