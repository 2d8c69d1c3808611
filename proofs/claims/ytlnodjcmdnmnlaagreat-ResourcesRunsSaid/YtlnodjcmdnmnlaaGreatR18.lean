/-
  THE WALK of cue.given at right arguments.
  PLAIN: a greater speed or acceleration never makes a move longer, nor a greater distance shorter.
-/
import Derived.Test.YtlnodjcmdnmnlaaGreatR16
import Derived.Test.YtlnodjcmdnmnlaaGreatR17
import Derived.Test.YtlnodjcmdnmnlaaGreatR3
namespace Go.Proofs.YtlnodjcmdnmnlaaGreat
open Go.RowKit Go.Shelf
attribute [local go_sem] Oper.semAt_some
set_option maxRecDepth 100000 in
set_option maxHeartbeats 16000000 in
theorem cgiven_yes (h : HouseR) (q : CueR) (ta : Option Addr) (t : List Int) (tc : Nat) (w : World) (hh : HouseIn w h) (hm : Movs w.heap.size w q.ma q.moves) (hml : q.moves.length ≤ 1000) (hmc : q.moves.length ≤ q.mc) (ht : Nums w.heap.size w ta t) (hb : houseB h = true) (hr : rightB h q = true) (hto : TrimOK h t) :
  Calls Tryz.prog 66 #[.agg #[.string h.name, .int .i64 h.height, .slice h.sa h.sets.length h.sc, .slice h.ra h.roofs.length h.rc], .slice ta t.length tc, .agg #[.string q.name, .string q.after, .int .i64 q.link, .int .i64 q.delay, .slice q.ma q.moves.length q.mc, .int .i64 q.crew, .int .i64 q.power]] w fun e w' => e = .returned (.int .i64 0) ∧ Below w.heap.size w w' := by
 have hb0 : Below w.heap.size w ((w.alloc (.cells #[.string h.name, .int .i64 h.height, .slice h.sa h.sets.length h.sc, .slice h.ra h.roofs.length h.rc] 25)).alloc (.cells #[.string q.name, .string q.after, .int .i64 q.link, .int .i64 q.delay, .slice q.ma q.moves.length q.mc, .int .i64 q.crew, .int .i64 q.power] 49)) := (below_new w _).alloc (by simp) _
 have HX : Hid (∀ w', Below ((w.alloc (.cells #[.string h.name, .int .i64 h.height, .slice h.sa h.sets.length h.sc, .slice h.ra h.roofs.length h.rc] 25)).alloc (.cells #[.string q.name, .string q.after, .int .i64 q.link, .int .i64 q.delay, .slice q.ma q.moves.length q.mc, .int .i64 q.crew, .int .i64 q.power] 49)).heap.size ((w.alloc (.cells #[.string h.name, .int .i64 h.height, .slice h.sa h.sets.length h.sc, .slice h.ra h.roofs.length h.rc] 25)).alloc (.cells #[.string q.name, .string q.after, .int .i64 q.link, .int .i64 q.delay, .slice q.ma q.moves.length q.mc, .int .i64 q.crew, .int .i64 q.power] 49)) w' → HouseAt w' w.heap.size h ∧ CueAt w' (w.heap.size + 1) q ∧ HouseIn w' h ∧ Movs w'.heap.size w' q.ma q.moves ∧ Nums w'.heap.size w' ta t) := Lib.hid fun w' z =>
  ⟨((HouseAt.new w h _).carry (below_new _ _)).carry z, (CueAt.new (w.alloc _) q _ _ (by simp)).carry z, (hh.grow hb0).grow z, (hm.grow hb0).grow z, (ht.grow hb0).grow z⟩
 have HW : Hid (∀ w', Below ((w.alloc (.cells #[.string h.name, .int .i64 h.height, .slice h.sa h.sets.length h.sc, .slice h.ra h.roofs.length h.rc] 25)).alloc (.cells #[.string q.name, .string q.after, .int .i64 q.link, .int .i64 q.delay, .slice q.ma q.moves.length q.mc, .int .i64 q.crew, .int .i64 q.power] 49)).heap.size ((w.alloc (.cells #[.string h.name, .int .i64 h.height, .slice h.sa h.sets.length h.sc, .slice h.ra h.roofs.length h.rc] 25)).alloc (.cells #[.string q.name, .string q.after, .int .i64 q.link, .int .i64 q.delay, .slice q.ma q.moves.length q.mc, .int .i64 q.crew, .int .i64 q.power] 49)) w' → Below w.heap.size w w') := Lib.hid fun w' z => hb0.trans (z.mono hb0.size)
 have hsl := hh.slen
 have HTL := Lib.hid hto.1
 have HTO := Lib.hid hto.2
 have htl : t.length ≤ 1000 := by have := hto.1; omega
 have HB := Lib.hid hb
 have HR := Lib.hid hr
 have HC1 := Lib.hid fun (w' : World) (z : HouseIn w' h) => housevalid_any h w' z
 have HC2 := Lib.hid fun (w' : World) (z : HouseIn w' h) (z2 : Movs w'.heap.size w' q.ma q.moves) => right_any h q w' z.toHouseIn0 hsl z2 hml hmc
 have HD : Hid (((t.length : Int) != (h.sets.length : Int)) = false) := Lib.hid (by rw [hto.1]; exact bne_self_eq_false _)
 clear hh hm ht hb0 hb hr hto
 go_enter Tryz.func66, Tryz.ntmps66
 go_upto_region 1 with (fail)
 obtain ⟨W0, hW0⟩ : ∃ W0 : World, ((w.alloc (.cells #[.string h.name, .int .i64 h.height, .slice h.sa h.sets.length h.sc, .slice h.ra h.roofs.length h.rc] 25)).alloc (.cells #[.string q.name, .string q.after, .int .i64 q.link, .int .i64 q.delay, .slice q.ma q.moves.length q.mc, .int .i64 q.crew, .int .i64 q.power] 49)) = W0 := ⟨_, rfl⟩
 simp only [hW0] at HX HW ⊢
 clear hW0
 obtain ⟨B1, hB1⟩ : ∃ b, w.heap.size = b := ⟨_, rfl⟩
 obtain ⟨B2, hB2⟩ : ∃ b, w.heap.size + 1 = b := ⟨_, rfl⟩
 rw [hB2] at HX ⊢
 rw [hB1] at HX ⊢
 clear hB1 hB2
 obtain ⟨n₀, hn0⟩ : ∃ n, W0.heap.size = n := ⟨_, rfl⟩
 rw [hn0] at HX HW
 obtain ⟨⟨a0, a1, a2, a3⟩, ⟨c0, c1, c2, c3, c4, c5, c6⟩, -, -, -⟩ := HX.out _ (by rw [← hn0]; exact Below.refl _ _)
 obtain ⟨sa, hsa⟩ : ∃ a, h.sa = a := ⟨_, rfl⟩
 have HSA := Lib.hid hsa
 rw [hsa] at a2 HC1 HC2 ⊢
 have hd := HD.out
 clear hsa
 go_upto_region 6 with (first
  | (go_at_call 100; (with_reducible refine (HC1.out _ (by have := (HX.out _ (by rw [← hn0]; exact Below.refl _ _)).2.2.1; exact this)).mono ?_); rintro e w1 ⟨rfl, hb1⟩; rw [HB.out]; rw [hn0] at hb1; obtain ⟨⟨u0, u1, u2, u3⟩, ⟨v0, v1, v2, v3, v4, v5, v6⟩, -, -, -⟩ := HX.out _ hb1; rw [HSA.out] at u2)
  | (go_at_call 101; (with_reducible refine (HC2.out _ (HX.out _ hb1).2.2.1 (HX.out _ hb1).2.2.2.1).mono ?_); rintro e w2 ⟨rfl, hb2'⟩; rw [HR.out]; have hb2 := hb1.trans (hb2'.mono (by have := hb1.size; omega)); obtain ⟨⟨x0, x1, x2, x3⟩, -, -, -, -⟩ := HX.out _ hb2; rw [HSA.out] at x2))
 clear a0 a1 a2 a3 c0 c1 c2 c3 c4 c5 c6 u0 u1 u2 u3 v0 v1 v2 v3 v4 v5 v6 x0 x1 x2 x3 hd HD hb2' hb1
 go_loopw [7, 8, 28] (fun _ _ iv wr => ∃ k : Nat, iv = .int .i64 k ∧ k ≤ t.length ∧ Below n₀ W0 wr) (fun _ _ iv _ => t.length - (intOf iv).toNat)
 case atStart => exact ⟨0, rfl, Nat.zero_le _, hb2⟩
 case round =>
  clear hb2
  obtain ⟨k, rfl, hk, hB⟩ := hrel
  by_cases hlt : k < t.length
  ·obtain ⟨⟨a0, a1, a2, a3⟩, -, hi, -, hn⟩ := HX.out _ hB
   obtain ⟨tb, tf, hta, htb, htx⟩ := hn (by omega)
   subst hta
   have e0 := htx k hlt
   obtain ⟨sb, so, hsa, hsb, hsx⟩ := hi.sets (by rw [← HTL.out]; omega)
   rw [HSA.out] at hsa a2
   subst hsa
   have hks : k < h.sets.length := by rw [← HTL.out]; exact hlt
   obtain ⟨d0, d1, d2, d3, d4, d5, d6, d7, d8, d9, d10, d11, d12⟩ := hsx k hks
   have HBT : Hid (betB (ig t k) (hg h.sets k).low (hg h.sets k).high = true) := Lib.hid (betB_iff.2 (HTO.out k hlt))
   clear hi hn htx hsx d0 d1 d4 d5 d6 d7 d8 d9 d10 d11 d12
   obtain ⟨y, hy⟩ : ∃ y, hg h.sets k = y := ⟨_, rfl⟩
   rw [hy] at d2 d3 HBT
   clear hy
   have HGB := Lib.hid (cbetw_any (ig t k) y.low y.high)
   go_wp2_with (go_quiet ((go_at_call 105; exact Calls.quiet_of_same (v := .bool true) ((HGB.out _).mono fun e w' h => ⟨h.1.trans (by rw [HBT.out]), h.2.symm⟩))))
   go_roundw
   case rel => exact ⟨k + 1, by go_num, by omega, below_drewN hB _⟩
   case measure => simp [intOf]; omega
  ·obtain rfl : k = t.length := by omega
   go_wp2_with fail
   go_ret
   exact ⟨rfl, HW.out _ hB⟩
end Go.Proofs.YtlnodjcmdnmnlaaGreat
namespace Go.Proofs.YtlnodjcmdnmnlaaGreat
def tN (d R F t : Int) : Int := 2 * R * F * d + t * t * (R + F)
def tD (R F t : Int) : Int := 2 * R * F * t
theorem posD {R F : Int} (hR : 1 ≤ R) (hF : 1 ≤ F) : 0 < 2 * R * F := Int.mul_pos (Int.mul_pos (by decide) (by omega)) (by omega)
end Go.Proofs.YtlnodjcmdnmnlaaGreat
