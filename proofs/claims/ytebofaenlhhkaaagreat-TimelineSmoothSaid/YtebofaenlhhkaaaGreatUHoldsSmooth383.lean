/-
  THE WALK of the law TimelineSmooth.
-/
import Derived.Test.YtebofaenlhhkaaaGreatUHoldsSmooth381
import Derived.Test.YtebofaenlhhkaaaGreatUHoldsSmooth382
import Derived.Test.YtebofaenlhhkaaaGreatU33
namespace Go.Proofs.YtebofaenlhhkaaaGreat
set_option maxRecDepth 100000
set_option maxHeartbeats 80000000
section
open Go.RowKit Go.Shelf
attribute [local go_sem] Oper.semAt_some
def zSet:SetR:=⟨⟨#[]⟩,0,0,0,0,none,[],0,0,0,0,0,0,none,[],0,none,[],0⟩
theorem set_from(q:SetR){w:World}{b:Nat}(h:∀i,i<13→(w.cell? ⟨b,i,none⟩).isSome=true):SetAt (setFrom w b 0 [.string q.name,.int .i64 q.depth,.int .i64 q.low,.int .i64 q.high,.int .i64 q.length,.slice q.la q.lines.length q.lc,.int .i64 q.pipe,.int .i64 q.arbor,.int .i64 q.purchase,.int .i64 q.most,.int .i64 q.brake,.slice q.ia q.items.length q.ic,.slice q.ba q.bricks.length q.bc]) b q:=by
 have r:=read_from ([.string q.name,.int .i64 q.depth,.int .i64 q.low,.int .i64 q.high,.int .i64 q.length,.slice q.la q.lines.length q.lc,.int .i64 q.pipe,.int .i64 q.arbor,.int .i64 q.purchase,.int .i64 q.most,.int .i64 q.brake,.slice q.ia q.items.length q.ic,.slice q.ba q.bricks.length q.bc]:List Value) w b 0 (fun i hi=>by rw[Nat.zero_add];exact h i hi);simp only[Nat.zero_add]at r;exact⟨r 0 (by simp),r 1 (by simp),r 2 (by simp),r 3 (by simp),r 4 (by simp),r 5 (by simp),r 6 (by simp),r 7 (by simp),r 8 (by simp),r 9 (by simp),r 10 (by simp),r 11 (by simp),r 12 (by simp)⟩
theorem set_some{w:World}{b:Nat}{z:SetR}(h:SetAt w b z):∀i,i<13→(w.cell? ⟨b,i,none⟩).isSome=true:=by
 obtain⟨a0,a1,a2,a3,a4,a5,a6,a7,a8,a9,a10,a11,a12⟩:=h;intro i hi;obtain rfl | rfl | rfl | rfl | rfl | rfl | rfl | rfl | rfl | rfl | rfl | rfl | rfl:i=0∨i=1∨i=2∨i=3∨i=4∨i=5∨i=6∨i=7∨i=8∨i=9∨i=10∨i=11∨i=12:=by omega
 ·rw[a0];rfl
 ·rw[a1];rfl
 ·rw[a2];rfl
 ·rw[a3];rfl
 ·rw[a4];rfl
 ·rw[a5];rfl
 ·rw[a6];rfl
 ·rw[a7];rfl
 ·rw[a8];rfl
 ·rw[a9];rfl
 ·rw[a10];rfl
 ·rw[a11];rfl
 ·rw[a12];rfl
theorem lawsmooth_law(h:HouseR)(s:SheetR)(ga:Option Addr)(G:List Int)(gc:Nat)(sx ms:Int)(x0:0≤sx)(x1:sx≤255)(m0:0≤ms)(m1:ms≤4294967295)(w:World)(hh:HouseIn0 w h)(hs:SheetIn0 w s)(hG:Nums w.heap.size w ga G):
  Calls Tryz.prog 9 #[.agg #[.string h.name,.int .i64 h.height,.slice h.sa h.sets.length h.sc,.slice h.ra h.roofs.length h.rc],.agg #[.slice s.ca s.cues.length s.cc,.slice s.pa s.pairs.length s.pc],.slice ga G.length gc,.int .u8 sx,.int .u32 ms] w fun e w'=>e=.returned (.bool true)∧Below w.heap.size w w':=by
 obtain⟨hb0,HX,HW⟩:=o3 hh hs hG;clear hh hs hG hb0
 cases hsm:smallA h s G
 case false=>
  have HSM:=lh hsm;clear hsm
  go_enter Tryz.func9,Tryz.ntmps9
  go_upto_region 1 with (fail)
  obtain⟨W0,hW0⟩:=nm ((LTw w h s):World);simp only[hW0]at HX HW⊢;clear hW0;obtain⟨B1,hB1⟩:=nm (w.heap.size);obtain⟨B2,hB2⟩:=nm (w.heap.size+1);rw[hB2]at HX⊢;rw[hB1]at HX⊢;clear hB1 hB2
  go_wp2_with (first
   | (go_at_call 10;(with_reducible refine(awake_any _).mono ?_);rintro e w1 ⟨rfl,hb1⟩;obtain⟨⟨a0,a1,a2,a3⟩,⟨s0,s1⟩,-,-,-⟩:=HX.out _ hb1)
   | (go_at_call 11;(with_reducible refine(lawsmall_any h s ga G _ _ (HX.out _ hb1).2.2.1 (HX.out _ hb1).2.2.2.1 (HX.out _ hb1).2.2.2.2).mono ?_);rintro e w2 ⟨rfl,hb2⟩;rw[HSM.out];have hq2:=hb1.trans (hb2.mono hb1.size)))
  go_ret;exact⟨rfl,HW.out _ hq2⟩
 have HSM:=lh hsm;obtain⟨z1,z2,z3⟩:=smallA_yes hsm
 have HXI:Hid (∀w',Below (LTw w h s).heap.size (LTw w h s) w'→HouseIn w' h∧SheetIn w' s∧Nums w'.heap.size w' ga G):=lh fun w' q=>
  ⟨smallH_in (by omega) (HX.out w' q).2.2.1 z1,smallC_in (by omega) (HX.out w' q).2.2.2.1 z2,(HX.out w' q).2.2.2.2⟩
 have hcl:s.cues.length≤6:=by have:=z2.cues;omega
 have hgl:G.length≤1000:=by omega
 have hhl:h.sets.length≤5:=by have:=z1.1;omega
 clear hsm z1 z2 z3
 by_cases hz:h.sets.length=0
 ·have g0:((h.sets.length:Int)==0)=true:=by rw[hz];rfl
  have g1:(h.sets.length==0)=true:=by rw[hz];rfl
  clear hz
  go_enter Tryz.func9,Tryz.ntmps9
  go_upto_region 1 with (fail)
  obtain⟨W0,hW0⟩:=nm ((LTw w h s):World);simp only[hW0]at HX HXI HW⊢;clear hW0;obtain⟨B1,hB1⟩:=nm (w.heap.size);obtain⟨B2,hB2⟩:=nm (w.heap.size+1);rw[hB2]at HX⊢;rw[hB1]at HX⊢;clear hB1 hB2
  go_upto_region 3 with (first
   | (go_at_call 10;(with_reducible refine(awake_any _).mono ?_);rintro e w1 ⟨rfl,hb1⟩;obtain⟨⟨a0,a1,a2,a3⟩,⟨s0,s1⟩,-,-,-⟩:=HX.out _ hb1)
   | (go_at_call 11;(with_reducible refine(lawsmall_any h s ga G _ _ (HX.out _ hb1).2.2.1 (HX.out _ hb1).2.2.2.1 (HX.out _ hb1).2.2.2.2).mono ?_);rintro e w2 ⟨rfl,hb2⟩;rw[HSM.out];have hq2:=hb1.trans (hb2.mono hb1.size)))
  go_wp2_with (first
   | (go_at_call 10;(with_reducible refine(awake_any _).mono ?_);rintro e w1 ⟨rfl,hb1⟩;obtain⟨⟨a0,a1,a2,a3⟩,⟨s0,s1⟩,-,-,-⟩:=HX.out _ hb1)
   | (go_at_call 11;(with_reducible refine(lawsmall_any h s ga G _ _ (HX.out _ hb1).2.2.1 (HX.out _ hb1).2.2.2.1 (HX.out _ hb1).2.2.2.2).mono ?_);rintro e w2 ⟨rfl,hb2⟩;rw[HSM.out];have hq2:=hb1.trans (hb2.mono hb1.size);obtain⟨-,⟨y0,y1⟩,-,-,-⟩:=HX.out _ hq2;have y2:=HX.out _ hq2 |>.1.2.2.1))
  go_ret;exact⟨rfl,HW.out _ hq2⟩
 have g0:((h.sets.length:Int)==0)=false:=beq_eq_false_iff_ne.2 (by omega);obtain⟨n,hn⟩:∃n:Nat,sx.tmod (h.sets.length:Int)=(n:Int):=⟨_,(Int.toNat_of_nonneg (Int.tmod_nonneg _ x0)).symm⟩
 have hnl:n<h.sets.length:=by
  have:=Int.tmod_lt_of_pos sx (b:=(h.sets.length:Int)) (by omega);omega
 have nx:IntKind.i64.wrap sx=sx:=IntWalk.i64_in _ (by omega);have nm1:IntKind.i64.wrap (n:Int)=(n:Int):=IntWalk.i64_in _ (by omega)
 go_enter Tryz.func9,Tryz.ntmps9
 go_upto_region 1 with (fail)
 obtain⟨W0,hW0⟩:=nm ((LTw w h s):World);simp only[hW0]at HX HXI HW⊢;clear hW0;obtain⟨B1,hB1⟩:=nm (w.heap.size);obtain⟨B2,hB2⟩:=nm (w.heap.size+1);rw[hB2]at HX⊢;rw[hB1]at HX⊢;clear hB1 hB2;obtain⟨sa,hsa⟩:=nm (h.sa);have HSA:=lh hsa;have HXA:Hid (∀w',Below W0.heap.size W0 w'→w'.cell? ⟨B1,2,none⟩=some (.slice sa h.sets.length h.sc)):=lh fun w' z=>by rw[←HSA.out];exact(HX.out w' z).1.2.2.1
 clear hsa
 go_upto_region 5 with (first
  | (go_at_call 10;(with_reducible refine(awake_any _).mono ?_);rintro e w1 ⟨rfl,hb1⟩;obtain⟨⟨a0,a1,a2,a3⟩,⟨s0,s1⟩,-,-,-⟩:=HX.out _ hb1)
  | (go_at_call 11;(with_reducible refine(lawsmall_any h s ga G _ _ (HX.out _ hb1).2.2.1 (HX.out _ hb1).2.2.2.1 (HX.out _ hb1).2.2.2.2).mono ?_);rintro e w2 ⟨rfl,hb2⟩;rw[HSM.out];have hq2:=hb1.trans (hb2.mono hb1.size);have y2:=HXA.out _ hq2))
 clear a0 a1 a2 a3 s0 s1 y2 hb1 hb2
 have HXX:Hid (∀w',Below w2.heap.size w2 w'→Below w.heap.size w w'∧HouseAt w' B1 h∧SheetAt w' B2 s∧HouseIn w' h∧SheetIn w' s∧Nums w'.heap.size w' ga G):=lh fun w' z=>by
  have y:=hq2.trans (z.mono hq2.size);exact⟨HW.out w' y,(HX.out w' y).1,(HX.out w' y).2.1,(HXI.out w' y).1,(HXI.out w' y).2.1,(HXI.out w' y).2.2⟩
 have HXB:Hid (∀w',Below w2.heap.size w2 w'→w'.cell? ⟨B1,2,none⟩=some (.slice sa h.sets.length h.sc)):=lh fun w' z=>HXA.out w' (hq2.trans (z.mono hq2.size));clear HX HXI HW HXA hq2;generalize w2=W2 at *;obtain⟨b,off,ha,-,-⟩:=(HXX.out _ br).2.2.2.1.sets (by omega);rw[HSA.out]at ha;subst ha;obtain⟨q,hq⟩:=nm (hg h.sets n);have HQ:=lh hq
 have HD:Hid (∀w',Below W2.heap.size W2 w'→w'.cell? ⟨b,off+n*13,none⟩=some (.string q.name)∧w'.cell? ⟨b,off+n*13+1,none⟩=some (.int .i64 q.depth)∧w'.cell? ⟨b,off+n*13+2,none⟩=some (.int .i64 q.low)∧w'.cell? ⟨b,off+n*13+3,none⟩=some (.int .i64 q.high)∧w'.cell? ⟨b,off+n*13+4,none⟩=some (.int .i64 q.length)∧w'.cell? ⟨b,off+n*13+5,none⟩=some (.slice q.la q.lines.length q.lc)∧w'.cell? ⟨b,off+n*13+6,none⟩=some (.int .i64 q.pipe)∧w'.cell? ⟨b,off+n*13+7,none⟩=some (.int .i64 q.arbor)∧w'.cell? ⟨b,off+n*13+8,none⟩=some (.int .i64 q.purchase)∧w'.cell? ⟨b,off+n*13+9,none⟩=some (.int .i64 q.most)∧w'.cell? ⟨b,off+n*13+10,none⟩=some (.int .i64 q.brake)∧w'.cell? ⟨b,off+n*13+11,none⟩=some (.slice q.ia q.items.length q.ic)∧w'.cell? ⟨b,off+n*13+12,none⟩=some (.slice q.ba q.bricks.length q.bc)):=lh fun w' z=>by
  obtain⟨b',o',e,-,x⟩:=(HXX.out w' z).2.2.2.1.sets (by omega);rw[HSA.out]at e
  cases e
  have:=x n hnl;rw[HQ.out]at this;exact this
 clear hq;have d0:=fun w' z=>(HD.out w' z).1;have d1:=fun w' z=>(HD.out w' z).2.1;have d2:=fun w' z=>(HD.out w' z).2.2.1;have d3:=fun w' z=>(HD.out w' z).2.2.2.1;have d4:=fun w' z=>(HD.out w' z).2.2.2.2.1;have d5:=fun w' z=>(HD.out w' z).2.2.2.2.2.1;have d6:=fun w' z=>(HD.out w' z).2.2.2.2.2.2.1;have d7:=fun w' z=>(HD.out w' z).2.2.2.2.2.2.2.1;have d8:=fun w' z=>(HD.out w' z).2.2.2.2.2.2.2.2.1;have d9:=fun w' z=>(HD.out w' z).2.2.2.2.2.2.2.2.2.1;have d10:=fun w' z=>(HD.out w' z).2.2.2.2.2.2.2.2.2.2.1;have d11:=fun w' z=>(HD.out w' z).2.2.2.2.2.2.2.2.2.2.2.1;have d12:=fun w' z=>(HD.out w' z).2.2.2.2.2.2.2.2.2.2.2.2;have c2:=HXB.out;refine wp_region_held_drew (S:=fun w'=>Below W2.heap.size W2 w') (by kernel_rfl) ((br).drew) (fun hHeld=>?_);refine tk 0 ?_;refine tk 1 ?_;refine tk 2 ?_;refine tk 3 ?_;refine tk 4 ?_;refine tk 5 ?_;refine tk 6 ?_;refine tk 7 ?_;refine tk 8 ?_;refine tk 9 ?_;clear c2 d0 d1 d2 d3 d4 d5 d6 d7 d8 d9 d10 d11 d12 HD HXB;refine ry [10] (al 10 (.cells #[.string ⟨#[]⟩,.int .i64 0,.int .i64 0,.int .i64 0,.int .i64 0,.slice none 0 0,.int .i64 0,.int .i64 0,.int .i64 0,.int .i64 0,.int .i64 0,.slice none 0 0,.slice none 0 0] 59) (hHeld.alloc hHeld.size _) (fun B y1 eB ey hH1=>?_) nl);have hz:SetAt y1 B zSet:=by rw[←ey,←eB];exact SetAt.new _ zSet _
 have hff:∀i,y1.frozen? ⟨B,i,none⟩=false:=fun i=>by rw[←ey,←eB];exact World.frozen?_alloc_at _ _ _ _ rfl
 have hlo:W2.heap.size≤B:=by rw[←eB];exact hHeld.size
 clear ey eB;have HZS:=lh (set_some hz);obtain⟨f0,f1,f2,f3,f4,f5,f6,f7,f8,f9,f10,f11,f12⟩:=hz
 try dsimp only[zSet]at f0 f1 f2 f3 f4 f5 f6 f7 f8 f9 f10 f11 f12
 have hst:Below W2.heap.size W2 (setFrom y1 B 0 [.string q.name,.int .i64 q.depth,.int .i64 q.low,.int .i64 q.high,.int .i64 q.length,.slice q.la q.lines.length q.lc,.int .i64 q.pipe,.int .i64 q.arbor,.int .i64 q.purchase,.int .i64 q.most,.int .i64 q.brake,.slice q.ia q.items.length q.ic,.slice q.ba q.bricks.length q.bc]):=below_from (m:=W2.heap.size) (b:=B) (W:=W2) [.string q.name,.int .i64 q.depth,.int .i64 q.low,.int .i64 q.high,.int .i64 q.length,.slice q.la q.lines.length q.lc,.int .i64 q.pipe,.int .i64 q.arbor,.int .i64 q.purchase,.int .i64 q.most,.int .i64 q.brake,.slice q.ia q.items.length q.ic,.slice q.ba q.bricks.length q.bc] y1 0 hH1 hlo;refine ry [11] (vl 11 (w1:=setFrom y1 B 0 [.string q.name,.int .i64 q.depth,.int .i64 q.low,.int .i64 q.high,.int .i64 q.length,.slice q.la q.lines.length q.lc,.int .i64 q.pipe,.int .i64 q.arbor,.int .i64 q.purchase,.int .i64 q.most,.int .i64 q.brake,.slice q.ia q.items.length q.ic,.slice q.ba q.bricks.length q.bc]) hst (fun hH2=>?_) nl);refine dn ?_;have HSQ:=lh (set_from q HZS.out);clear f0 f1 f2 f3 f4 f5 f6 f7 f8 f9 f10 f11 f12 hff HZS hH1 hH2 hHeld hlo;generalize setFrom y1 B 0 [.string q.name,.int .i64 q.depth,.int .i64 q.low,.int .i64 q.high,.int .i64 q.length,.slice q.la q.lines.length q.lc,.int .i64 q.pipe,.int .i64 q.arbor,.int .i64 q.purchase,.int .i64 q.most,.int .i64 q.brake,.slice q.ia q.items.length q.ic,.slice q.ba q.bricks.length q.bc]=W3 at *
 have HYY:Hid (∀w',Below W3.heap.size W3 w'→Below w.heap.size w w'∧HouseAt w' B1 h∧SheetAt w' B2 s∧HouseIn w' h∧SheetIn w' s∧Nums w'.heap.size w' ga G∧SetAt w' B q):=lh fun w' z=>by
  obtain⟨a1,a2,a3,a4,a5,a6⟩:=HXX.out w' (hst.trans (z.mono hst.size));exact⟨a1,a2,a3,a4,a5,a6,HSQ.out.below z (wl HSQ.out.1)⟩
 clear HXX HSQ hst;obtain⟨L,E,hr⟩:∃L E,pathE h s G q.name=(L,E):=⟨_,_,rfl⟩
 have HSM2:Hid (E=0→SmOK h s n L):=lh fun e=>by
  have:=smooth_facts (h:=h) (s:=s) (G:=G) hnl (by rw[HQ.out,hr];exact e);rw[HQ.out,hr]at this;exact this
 have HR:=lh hr;clear hr;obtain⟨-,⟨a0,a1,a2,a3⟩,⟨s0,s1⟩,-,-,-,⟨q0,-,-,-,-,-,-,-,-,-,-,-,-⟩⟩:=HYY.out _ br;have hBlt:=wl q0
 go_upto_region 7 with (go_at_call 12;(with_reducible refine(tPath_any h s ga G gc q.name _ (HYY.out _ br).2.2.2.1 (HYY.out _ br).2.2.2.2.1 (HYY.out _ br).2.2.2.2.2.1 hgl).mono ?_);rintro e w4 ⟨hx4,hb4⟩;rw[HR.out]at hx4;obtain⟨v4,rfl,hr4⟩:=hx4.out;have HR4:=lh hr4;clear hx4 hr4)
 clear a0 a1 a2 a3 s0 s1 q0 hBlt
 by_cases z:E=0
 case neg=>
  have g1:(E !=0)=true:=bne_iff_ne.2 z;obtain rfl:=HR4.out.2 z;clear z
  go_wp2_with fail
  go_ret;exact⟨rfl,(HYY.out _ hb4).1⟩
 have HS:=lh (HSM2.out z);subst z;obtain⟨la,lc,rfl,-,-,-,hpc⟩:=pc_of_row (HR4.out.1 rfl);have HPC:=lh hpc;clear HSM2 HR4 HR hpc
 go_upto_region 11 with (go_at_call 33;(with_reducible refine(rvalid08_yes L HS.out.ok HS.out.nn la lc _ HPC.out).mono ?_);rintro e w5 ⟨rfl,hb5⟩)
 have hq5:=hb4.trans (hb5.mono hb4.size);have HP5:=lh (HPC.out.grow hb5)
 have HSY:Hid ((smoothP L).2=5∨((smoothP L).2=0∧(smoothP L).1=true)):=lh (by
  rcases smooth_err L with e | e
  ·exact .inr ⟨e,HS.out.sm e⟩
  ·exact .inl e)
 have HSC:=lh fun (w':World) (z:Pcs w'.heap.size w' la L)=>qsmooth_any L HS.out.ok la lc w' z;obtain⟨sb,hsb⟩:=nm ((smoothP L).1);obtain⟨se,hse⟩:=nm ((smoothP L).2);rw[hsb,hse]at HSY HSC;clear hsb hse hb4 hb5 HPC
 go_upto_region 12 with (go_at_call 34;(with_reducible refine(HSC.out _ HP5.out).mono ?_);rintro e w6 ⟨rfl,hb6⟩)
 have hq6:=hq5.trans (hb6.mono hq5.size);have HP6:=lh (HP5.out.grow hb6);clear hq5 hb6 HP5 HSC
 go_cut [75] (fun v wx=>v=.bool false∧w6=wx)
 case first=>
  rcases HSY.out with e | ⟨e,e2⟩
  ·subst e
   go_wp2_with fail
   go_meet
   exact⟨rfl,rfl⟩
  ·subst e
   subst e2
   go_wp2_with fail
   go_meet
   exact⟨rfl,rfl⟩
 case rest=>
 obtain⟨rfl,rfl⟩:=hcut;clear HSY;obtain⟨-,-,⟨s0,s1⟩,-,-,-,-⟩:=HYY.out _ hq6
 have HCF:=lh (cue_containsFuncM s.ca s.cues s.cc w6.heap.size 36 #[.pointer (some ⟨B,0,none⟩)] (fun y=>mvB y.moves q.name) w6 ent_smooth (by omega) (Nat.le_refl _) (HYY.out _ hq6).2.2.2.2.1.lies (fun W i hi hb=>by
  have y:=hq6.trans (hb.mono hq6.size);obtain⟨-,-,-,-,hsi,-,hsq⟩:=HYY.out _ y;exact ask_smooth (cg s.cues i) B q.name W hsq.1 (hsi.each i hi) (hsi.mlen i hi)))
 have HMV:Hid (cue_any s.cues (fun y=>mvB y.moves q.name)=false→∀i,i<s.cues.length→mvB (cg s.cues i).moves q.name=false):=lh fun e i hi=>by
  rw[cue_any_eq]at e;have:=List.any_eq_false.1 e (cg s.cues i) (by rw[cg_eq s.cues i hi];exact List.getElem_mem hi);exact Bool.eq_false_iff.2 this
 obtain⟨mv,hmv⟩:=nm (cue_any s.cues (fun y=>mvB y.moves q.name));rw[hmv]at HCF HMV;have nw:IntKind.i64.wrap ms=ms:=IntWalk.i64_in _ (by omega);obtain⟨tn,htn⟩:=nm (lowN ms 1000);obtain⟨td,htd⟩:=nm (lowD ms 1000);have HTT:Hid (lowN ms 1000=tn∧lowD ms 1000=td):=lh ⟨htn,htd⟩;have HMK:=lh fun w'=>rmake_any ms 1000 (by omega) (by omega) (by decide) (by decide) w';rw[htn,htd]at HMK;clear hmv htn htd
 go_upto_region 16 with (first
  | (go_at_call 35;(with_reducible refine HCF.out.mono ?_);rintro e w7 ⟨rfl,hb7⟩;have hq7:=hq6.trans (hb7.mono hq6.size))
  | (go_at_call 38;(with_reducible refine(HMK.out _).mono ?_);rintro e w8 ⟨rfl,hb8⟩;have hq8:=hq7.trans (hb8.mono hq7.size)))
 have hq9:=hq8.alloc hq8.size (.cells #[.int .i64 tn,.int .i64 td] 49);have hbn:=below_new w8 (.cells #[.int .i64 tn,.int .i64 td] 49);have f0:(w8.alloc (.cells #[.int .i64 tn,.int .i64 td] 49)).cell? ⟨w8.heap.size,0,none⟩=some (.int .i64 tn):=by simp
 have f1:(w8.alloc (.cells #[.int .i64 tn,.int .i64 td] 49)).cell? ⟨w8.heap.size,1,none⟩=some (.int .i64 td):=by simp
 have HP9:=lh (((HP6.out.grow hb7).grow hb8).grow hbn);clear hb7 hb8 hbn hq7 hq6 HP6 HCF HMK s0 s1;generalize w8.alloc (.cells #[.int .i64 tn,.int .i64 td] 49)=W9 at *;obtain⟨B17,hB17⟩:=nm (w8.heap.size);rw[hB17]at f0 f1⊢;clear hB17 hq8;have hl17:=wl f0;obtain⟨v1,v2,v3,hv⟩:∃a b c,atP L (tn,td)=(a,b,c):=⟨_,_,_,rfl⟩
 have HAT:Hid (∀w',Pcs w'.heap.size w' la L→Calls Tryz.prog 39 #[.slice la L.length lc,.agg #[.int .i64 tn,.int .i64 td]] w' fun e w2=>e=.returned (.tuple #[.agg #[.int .i64 v1,.int .i64 v2],.int .i64 v3])∧Below w'.heap.size w' w2):=lh fun w' z=>by
  have:=qat_any L HS.out.ok (tn,td) la lc w' z
  rwa [hv]at this
 have HER:Hid (v3=0∨v3=5):=lh (by
  have:=atP_err (L:=L) (t:=(tn,td)) (by rw[←HTT.out.1,←HTT.out.2];exact sec_vF m0 (by omega))
  rwa [hv]at this)
 have HVAL:Hid (v3=0→(0≤v1∧v1≤1152921504606846976∧0<v2∧v2≤1152921504606846976)∧q.low*v2≤v1*1∧v1*1≤q.high*v2∧(mv=false→v1=q.high∧v2=1)):=lh fun e=>by
  have:=HS.out.val ms m0 m1 (by rw[HTT.out.1,HTT.out.2,hv];exact e);rw[HTT.out.1,HTT.out.2,hv,HQ.out]at this
  dsimp only at this
  obtain⟨z1,z2,z3,z4⟩:=this;obtain⟨y1,y2,y3,y4,-⟩:=(validF_iff _ _).1 z1;have lo:=HS.out.lo;rw[HQ.out]at lo;have nn:0≤q.low*v2:=Int.mul_nonneg lo.1 (by omega);have z2':q.low*v2≤v1*1:=z2;exact⟨⟨by omega,y4,y1,y2⟩,z2,z3,fun e=>z4 (HMV.out e)⟩
 have HLO:Hid (0≤q.low∧q.low≤1048576∧0≤q.high∧q.high≤1048576):=lh (by have:=HS.out.lo;rwa [HQ.out]at this);clear hv HTT HS HMV
 go_upto_region 17 with (go_at_call 39;(with_reducible refine(HAT.out _ HP9.out).mono ?_);rintro e w10 ⟨rfl,hb10⟩)
 have hqA:=hq9.trans (hb10.mono hq9.size);have hqB:=hqA.alloc hqA.size (.cells #[.int .i64 v1,.int .i64 v2] 49);have g0:(w10.alloc (.cells #[.int .i64 v1,.int .i64 v2] 49)).cell? ⟨w10.heap.size,0,none⟩=some (.int .i64 v1):=by simp
 have g1:(w10.alloc (.cells #[.int .i64 v1,.int .i64 v2] 49)).cell? ⟨w10.heap.size,1,none⟩=some (.int .i64 v2):=by simp
 clear hb10 hq9 hqA HAT HP9 f0 f1 hl17;generalize w10.alloc (.cells #[.int .i64 v1,.int .i64 v2] 49)=WB at *;obtain⟨B19,hB19⟩:=nm (w10.heap.size);rw[hB19]at g0 g1⊢;clear hB19;rcases HER.out with e | e
 case inr=>
  subst e
  go_wp2_with fail
  go_ret;exact⟨rfl,(HYY.out _ hqB).1⟩
 subst e;obtain⟨hvv,hv1,hv2,hv3⟩:=HVAL.out rfl;have HVV:=lh hvv;have HV3:=lh hv3;have HCL:=lh (show cmpP (q.low*v2) (v1*1)≤0 from cmpP_le.2 hv1);have HCH:=lh (show cmpP (v1*1) (q.high*v2)≤0 from cmpP_le.2 hv2)
 have H9:Hid (∀w',Below WB.heap.size WB w'→w'.cell? ⟨B19,0,none⟩=some (.int .i64 v1)∧w'.cell? ⟨B19,1,none⟩=some (.int .i64 v2)∧w'.cell? ⟨B,2,none⟩=some (.int .i64 q.low)∧w'.cell? ⟨B,3,none⟩=some (.int .i64 q.high)):=lh fun w' z=>by
  obtain⟨-,-,-,-,-,-,-,-,c2,c3,-⟩:=HYY.out w' (hqB.trans (z.mono hqB.size));exact⟨(z.cell (p:=⟨B19,0,none⟩) (wl g0)).trans g0,(z.cell (p:=⟨B19,1,none⟩) (wl g1)).trans g1,c2,c3⟩
 have HWB:Hid (∀w',Below WB.heap.size WB w'→Below w.heap.size w w'):=lh fun w' z=>(HYY.out w' (hqB.trans (z.mono hqB.size))).1;clear hvv hv1 hv2 hv3 HVAL HER HYY hqB g0 g1
 go_upto_region 19 with (fail)
 have c0:=fun w' z=>(H9.out w' z).1;have c1:=fun w' z=>(H9.out w' z).2.1;have c2:=fun w' z=>(H9.out w' z).2.2.1;have c3:=fun w' z=>(H9.out w' z).2.2.2
 go_cut [104] (fun v wx=>v=.bool false∧Below WB.heap.size WB wx)
 case first=>
  cases mv
  ·obtain⟨e1,e2⟩:=HV3.out rfl
   subst e1;subst e2;have k1:(q.high==q.high)=true:=beq_self_eq_true _;have k2:(q.high !=q.high)=false:=bne_self_eq_false _;refine wp_region_held_drew (S:=fun w'=>Below WB.heap.size WB w') (by kernel_rfl) ((br).drew) (fun hHeld=>?_);refine tk 0 ?_;refine tk 1 ?_;refine tk 2 ?_;refine tk 3 ?_;refine tk 4 ?_;refine tk 5 ?_;refine cl 6 (rof_any q.high _) (fun _ hb=>hHeld.trans (hb.mono hHeld.size)) (fun y1 hb1 hH1=>?_);refine tk 7 ?_;refine tk 8 ?_;refine dn ?_
   go_wp2_with fail
   go_meet
   exact⟨rfl,hH1⟩
  ·refine wp_region_held_drew (S:=fun w'=>Below WB.heap.size WB w') (by kernel_rfl) ((br).drew) (fun hHeld=>?_)
   refine tk 0 ?_;refine tk 1 ?_;refine tk 2 ?_;refine sk 3 ?_;refine sk 4 ?_;refine sk 5 ?_;refine sk 6 ?_;refine sk 7 ?_;refine tk 8 ?_;refine dn ?_
   go_wp2_with fail
   go_meet
   exact⟨rfl,hHeld⟩
 case rest=>
 obtain⟨rfl,hBc⟩:=hcut
 go_upto_region 21 with (fail)
 obtain⟨C1,hC1⟩:=nm (cmpP (q.low*v2) (v1*1));obtain⟨C2,hC2⟩:=nm (cmpP (v1*1) (q.high*v2))
 have HM1:Hid (∀w',Calls Tryz.prog 40 #[.agg #[.int .i64 q.low,.int .i64 1],.agg #[.int .i64 v1,.int .i64 v2]] w' fun e w2=>e=.returned (.int .i64 C1)∧Below w'.heap.size w' w2):=lh fun w'=>by
  have l:=HLO.out;have v:=HVV.out;have:=rcmp_any q.low 1 v1 v2 (by omega) (by omega) (by decide) (by decide) (by omega) (by omega) (by omega) (by omega) w'
  rwa [hC1]at this
 have HM2:Hid (∀w',Calls Tryz.prog 40 #[.agg #[.int .i64 v1,.int .i64 v2],.agg #[.int .i64 q.high,.int .i64 1]] w' fun e w2=>e=.returned (.int .i64 C2)∧Below w'.heap.size w' w2):=lh fun w'=>by
  have l:=HLO.out;have v:=HVV.out;have:=rcmp_any v1 v2 q.high 1 (by omega) (by omega) (by omega) (by omega) (by omega) (by omega) (by decide) (by decide) w'
  rwa [hC2]at this
 have k1:decide (C1≤0)=true:=dT (by rw[←hC1];exact HCL.out);have k2:decide (C2≤0)=true:=dT (by rw[←hC2];exact HCH.out);clear hC1 hC2;refine wp_region_held_drew (S:=fun w'=>Below WB.heap.size WB w') (by kernel_rfl) (hBc.drew) (fun hHeld=>?_);refine tk 0 ?_;refine tk 1 ?_;refine tk 3 ?_;refine cl 2 (rof_any q.low _) (fun _ hb=>hHeld.trans (hb.mono hHeld.size)) (fun y1 hb1 hH1=>?_);refine cl 4 (HM1.out _) (fun _ hb=>hH1.trans (hb.mono hH1.size)) (fun y2 hb2 hH2=>?_);refine tk 5 ?_;refine tk 6 ?_;refine tk 7 ?_;refine tk 8 ?_;refine tk 9 ?_;refine cl 10 (rof_any q.high _) (fun _ hb=>hH2.trans (hb.mono hH2.size)) (fun y3 hb3 hH3=>?_);refine cl 11 (HM2.out _) (fun _ hb=>hH3.trans (hb.mono hH3.size)) (fun y4 hb4 hH4=>?_);refine tk 12 ?_;refine tk 13 ?_;refine tk 14 ?_;refine dn ?_;clear c0 c1 c2 c3 k1 k2
 go_wp2_with fail
 go_ret;exact⟨rfl,HWB.out _ hH4⟩
end
section
open Go.ChangeShapes Go.WideShapes Go.ChangeAt Go.WideMaps Go.WideElems Go.RowKit
open Go.ChangeMaps (open_string shut_string)
theorem u8_bd{n:Int}(h:(Lit.int .u8 n).wf=true):0≤n∧n≤255:=by
 have e:IntKind.u8.min≤n∧n≤IntKind.u8.max:=by simpa[Lit.wf]using h
 exact e
theorem u32_bd{n:Int}(h:(Lit.int .u32 n).wf=true):0≤n∧n≤4294967295:=by
 have e:IntKind.u32.min≤n∧n≤IntKind.u32.max:=by simpa[Lit.wf]using h
 exact e
theorem timelineSmooth_lifted(os:Os)(started:os.Started)(H:Type)(enc:TypeId×Value→H):
  ReturnsInHanded {} Tryz.checked os 9 .any (Rows.timelineSmoothSpec.pre6 enc Tryz.prog Tryz.f9 Rows.timelineSmoothRow.domain false) (Rows.timelineSmoothSpec.post enc Tryz.prog Tryz.f9 false true false false):=by
 refine returnsInHanded_of_change (C:=Tryz.checked) own started (by kernel_rfl) Tryz.func9
  (ChangeSpec.witness6 (enc:=enc) (C:=Tryz.checked) false ⟨#[],#[.agg #[.string ⟨#[]⟩,.int .i64 0,.slice none 0 0,.slice none 0 0],.agg #[.slice none 0 0,.slice none 0 0],.slice none 0 0,.int .u8 0,.int .u32 0],[]⟩ 8 (by kernel_rfl) (by kernel_rfl) (by kernel_rfl) (by kernel_rfl)) ?_
 intro W base args ds gs before hval0 hW hcnd _;have hval:∀(j:Nat) t v,Tryz.f9.params[j]? =some t→args[j]? =some v→Value.okWide Tryz.prog W .any base t v:=hval0;have hW':=hW;obtain⟨p,q,hA0,hV,rfl,hfz,hnd⟩:=hW;have hA:DataW.TrodAll enc Tryz.prog W 0 (fun _=>true) true Tryz.f9.params.toList args.toList ds p:=hA0;rw[Tryz.params9]at hA hval;obtain⟨v0,vs0,d0,ds0,p0,q0,hargs,rfl,rfl,h0,r0⟩:=trodAll_cons hA;obtain⟨v1,vs1,d1,ds1,p1,q1,rfl,rfl,rfl,h1,r1⟩:=trodAll_cons r0;obtain⟨v2,vs2,d2,ds2,p2,q2,rfl,rfl,rfl,h2,r2⟩:=trodAll_cons r1;obtain⟨v3,vs3,d3,ds3,p3,q3,rfl,rfl,rfl,h3,r3⟩:=trodAll_cons r2;obtain⟨v4,vs4,d4,ds4,p4,q4,rfl,rfl,rfl,h4,r4⟩:=trodAll_cons r3;obtain⟨rfl,rfl,rfl⟩:=trodAll_nil r4;obtain rfl:args=#[v0,v1,v2,v3,v4]:=by cases args;simp_all
 obtain⟨rfl,rfl⟩:=trodVars_none hV;obtain⟨h,rfl,hS0⟩:=open_house (hval 0 25 v0 rfl rfl) h0;obtain⟨s,rfl,hS1⟩:=open_sheet (hval 1 29 v1 rfl rfl) h1;obtain⟨ga,gc,g,rfl,hc2,hm2,hn2,hw2,hS2⟩:=open_numsA (hval 2 30 v2 rfl rfl) h2;obtain⟨x,rfl,rfl,rfl,w3⟩:=open_int Tryz.underlying5 (hval 3 5 v3 rfl rfl) h3;obtain⟨m,rfl,rfl,rfl,w4⟩:=open_int Tryz.underlying62 (hval 4 62 v4 rfl rfl) h4;clear hA0 hval0;simp only[List.append_nil]at hW';refine(lawsmooth_law h s ga g gc x m (u8_bd w3).1 (u8_bd w3).2 (u32_bd w4).1 (u32_bd w4).2 W hS0 hS1 hS2).mono fun e W' ⟨he,hb⟩=>?_;subst he;exact⟨_,rfl,law_post laidOut (by kernel_rfl) hW' rfl rfl (by kernel_rfl) Tryz.underlying4 hb⟩

theorem timelineSmooth_holds:Rows.TimelineSmoothSaid:=
 OpenClaim.holds_of_wide 9 Tryz.f9 rfl rfl rfl rfl rfl rfl rfl ⟨rfl,rfl,rfl,rfl,rfl⟩ rfl rfl rfl rfl rfl (by kernel_rfl) Tryz.func9 (by kernel_rfl)
  (of_decide_eq_true (by kernel_rfl)) (by unfold Func.isWrapper;first | (rw[if_pos (by decide+kernel)];kernel_rfl) | (rw[if_neg (by decide+kernel)];exact⟨rfl,rfl⟩))
  (fun os started H enc _=>timelineSmooth_lifted os started H enc)
end
end Go.Proofs.YtebofaenlhhkaaaGreat
