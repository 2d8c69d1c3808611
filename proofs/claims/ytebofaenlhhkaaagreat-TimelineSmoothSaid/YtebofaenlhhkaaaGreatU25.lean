/-
  PLAIN LAWS over any program: a block of two integers (a fraction) of the call's own.
-/
import Derived.Test.YtebofaenlhhkaaaGreatU24
import Derived.Test.YtebofaenlhhkaaaGreatU14
namespace Go.Proofs.YtebofaenlhhkaaaGreat
set_option maxRecDepth 100000
set_option maxHeartbeats 80000000
set_option linter.unusedSimpArgs false
section
open Go.RowKit Go.Shelf
def FI(w:World)(B:Nat)(h l:Int):Prop:=w.cell? ⟨B,0,none⟩=some (.int .i64 h)∧w.cell? ⟨B,1,none⟩=some (.int .i64 l)∧w.frozen? ⟨B,0,none⟩=false∧w.frozen? ⟨B,1,none⟩=false∧B<w.heap.size
theorem FI.carry{W w:World}{B:Nat}{x y:Int}(f:FI W B x y)(h:Below W.heap.size W w):FI w B x y:=
 ⟨(h.cell (p:=⟨B,0,none⟩) f.2.2.2.2).trans f.1,(h.cell (p:=⟨B,1,none⟩) f.2.2.2.2).trans f.2.1,(h.frozen (p:=⟨B,0,none⟩) f.2.2.2.2).trans f.2.2.1,(h.frozen (p:=⟨B,1,none⟩) f.2.2.2.2).trans f.2.2.2.1,Nat.lt_of_lt_of_le f.2.2.2.2 h.size⟩
theorem FI.sm{W w:World}{B b:Nat}{x y e:Int}(f:FI W B x y)(h:Sm b e W w)(hne:B≠b):FI w B x y:=
 ⟨(h.other (p:=⟨B,0,none⟩) f.2.2.2.2 hne).trans f.1,(h.other (p:=⟨B,1,none⟩) f.2.2.2.2 hne).trans f.2.1,(h.otherF (p:=⟨B,0,none⟩) f.2.2.2.2 hne).trans f.2.2.1,(h.otherF (p:=⟨B,1,none⟩) f.2.2.2.2 hne).trans f.2.2.2.1,Nat.lt_of_lt_of_le f.2.2.2.2 h.size⟩
theorem FI.set{w:World}{B:Nat}{x y:Int}(f:FI w B x y)(h l:Int):FI ((w.setCell ⟨B,0,none⟩ (.int .i64 h)).setCell ⟨B,1,none⟩ (.int .i64 l)) B h l:=by
 obtain⟨d0,d1⟩:=two_cells (v0:=.int .i64 h) (v1:=.int .i64 l) f.1 f.2.1;exact⟨d0,d1,by simpa using f.2.2.1,by simpa using f.2.2.2.1,by simpa using f.2.2.2.2⟩
theorem FI.other{w:World}{B C:Nat}{x y:Int}(f:FI w C x y)(hne:C≠B)(u v:Value):FI ((w.setCell ⟨B,0,none⟩ u).setCell ⟨B,1,none⟩ v) C x y:=
 ⟨(two_other hne _ _ _).trans f.1,(two_other hne _ _ _).trans f.2.1,by simpa using f.2.2.1,by simpa using f.2.2.2.1,by simpa using f.2.2.2.2⟩
theorem FI.new(w:World)(t:TypeId):FI (w.alloc (.cells #[.int .i64 0,.int .i64 0] t)) w.heap.size 0 0:=⟨by simp,by simp,by simp,by simp,by simp⟩
theorem FI.put(w:World)(x y:Int)(t:TypeId):FI (w.alloc (.cells #[.int .i64 x,.int .i64 y] t)) w.heap.size x y:=⟨by simp,by simp,by simp,by simp,by simp⟩
end
section
open Go.RowKit Go.Shelf
attribute [local go_sem] Oper.semAt_some
theorem clen_any(h:HouseR)(q:CueR)(ta:Option Addr)(t:List Int)(tc:Nat)(w:World)(hh:HouseIn w h)(hm:Movs w.heap.size w q.ma q.moves)(hml:q.moves.length≤1000)(hmc:q.moves.length≤q.mc)(ht:Nums w.heap.size w ta t)(hb:houseB h=true)(hr:rightB h q=true)(hto:TrimOK h t):
  Calls Tryz.prog 74 #[.agg #[.string h.name,.int .i64 h.height,.slice h.sa h.sets.length h.sc,.slice h.ra h.roofs.length h.rc],.slice ta t.length tc,.agg #[.string q.name,.string q.after,.int .i64 q.link,.int .i64 q.delay,.slice q.ma q.moves.length q.mc,.int .i64 q.crew,.int .i64 q.power]] w fun e w'=>e=.returned (.tuple #[.agg #[.int .i64 (lenTo h t q.moves).1,.int .i64 (lenTo h t q.moves).2],.int .i64 0])∧Below w.heap.size w w':=by
 have hb0:Below w.heap.size w (((w.alloc (LHo h)).alloc (LCu q)).alloc (.cells #[.int .i64 0,.int .i64 0] 49)):=((below_new w _).alloc (by simp) _).alloc (by simp;omega) _
 have HX:Hid (∀w',Below (((w.alloc (LHo h)).alloc (LCu q)).alloc (.cells #[.int .i64 0,.int .i64 0] 49)).heap.size (((w.alloc (LHo h)).alloc (LCu q)).alloc (.cells #[.int .i64 0,.int .i64 0] 49)) w'→HouseAt w' w.heap.size h∧CueAt w' (w.heap.size+1) q∧HouseIn w' h∧Movs w'.heap.size w' q.ma q.moves∧Nums w'.heap.size w' ta t):=lh fun w' z=>
  ⟨(((HouseAt.new w h _).carry (below_new _ _)).carry (below_new _ _)).carry z,((CueAt.new (w.alloc _) q _ _ (by simp)).carry (below_new _ _)).carry z,(hh.grow hb0).grow z,(hm.grow hb0).grow z,(ht.grow hb0).grow z⟩
 have HW:Hid (∀w',Below (((w.alloc (LHo h)).alloc (LCu q)).alloc (.cells #[.int .i64 0,.int .i64 0] 49)).heap.size (((w.alloc (LHo h)).alloc (LCu q)).alloc (.cells #[.int .i64 0,.int .i64 0] 49)) w'→Below w.heap.size w w'):=lh fun w' z=>hb0.trans (z.mono hb0.size);have HCV:=lh fun (w':World) (z:HouseIn w' h) (z2:Movs w'.heap.size w' q.ma q.moves) (z3:Nums w'.heap.size w' ta t)=>cgiven_yes h q ta t tc w' z z2 hml hmc z3 hb hr hto;have hsl:=hh.slen;have HSL:=lh hsl;have HB:=lh hb;have HOK:=lh (rightB_iff.1 hr).2;have HTO:=lh hto;clear hh hm ht hb0 hb hr hto hsl
 go_enter Tryz.func74,Tryz.ntmps74
 go_upto_region 1 with (fail)
 have hN6:NewI6 (((w.alloc (LHo h)).alloc (LCu q)).alloc (.cells #[.int .i64 0,.int .i64 0] 49)) (w.heap.size+1+1):=by
  have e:=NewI6.new ((w.alloc (LHo h)).alloc (LCu q)) 49;rw[show((w.alloc (LHo h)).alloc (LCu q)).heap.size=w.heap.size+1+1 by simp]at e;exact e
 obtain⟨W0,hW0⟩:=nm ((((w.alloc (LHo h)).alloc (LCu q)).alloc (.cells #[.int .i64 0,.int .i64 0] 49)):World);simp only[hW0]at HX HW hN6⊢;clear hW0;obtain⟨B1,hB1⟩:=nm (w.heap.size);obtain⟨B2,hB2⟩:=nm (w.heap.size+1);obtain⟨B3,hB3⟩:=nm (w.heap.size+1+1);rw[hB3]at hN6⊢;rw[hB2]at HX⊢;rw[hB1]at HX⊢;have HB3:Hid (w.heap.size≤B3):=lh (by omega);clear hB1 hB2 hB3;obtain⟨n₀,hn0⟩:=nm (W0.heap.size);have HN6:=lh hN6;obtain⟨qa,hqa⟩:=nm (q.ma);have HQA:=lh hqa;rw[hqa]at HX HCV⊢;clear hqa hN6;obtain⟨⟨a0,a1,a2,a3⟩,⟨c0,c1,c2,c3,c4,c5,c6⟩,-,-,-⟩:=HX.out _ br;rw[HQA.out]at c4
 go_upto_region 5 with (go_at_call 107;(with_reducible refine(HCV.out _ (HX.out _ br).2.2.1 (HX.out _ br).2.2.2.1 (HX.out _ br).2.2.2.2).mono ?_);rintro e w1 ⟨rfl,hb1⟩;rw[hn0]at hb1)
 have HXX:Hid (∀w',Below n₀ W0 w'→HouseAt w' B1 h∧CueAt w' B2 q∧HouseIn w' h∧Movs w'.heap.size w' qa q.moves∧Nums w'.heap.size w' ta t):=lh fun w' z=>by rw[←hn0]at z;exact HX.out w' z
 have HWW:Hid (∀w',Below n₀ W0 w'→Below w.heap.size w w'):=lh fun w' z=>by rw[←hn0]at z;exact HW.out w' z
 have HNN:Hid (∀w',Below n₀ W0 w'→NewI6 w' B3):=lh fun w' z=>by rw[←hn0]at z;exact HN6.out.carry z
 have hn1:n₀≤w1.heap.size:=by have:=hb1.size;omega
 clear a0 a1 a2 a3 c0 c1 c2 c3 c4 c5 c6 HX HW HCV HN6 hn0;have hb2:=hb1.alloc hn1 (.cells #[.int .i64 0,.int .i64 1] 49);have hF2:=FI.put w1 0 1 49;have hn2:n₀≤(w1.alloc (.cells #[.int .i64 0,.int .i64 1] 49)).heap.size:=by simp;omega
 generalize w1.alloc (.cells #[.int .i64 0,.int .i64 1] 49)=W2 at *;obtain⟨B9,hB9⟩:=nm (w1.heap.size);rw[hB9]at hF2 hn1⊢;clear hb1 hB9;obtain⟨-,⟨c0,c1,c2,c3,c4,c5,c6⟩,-,-,-⟩:=HXX.out _ hb2;rw[HQA.out]at c4
 go_upto_region 6 with (fail)
 clear c0 c1 c2 c3 c4 c5 c6
 go_loopw [11,12,13,14,15,16,29] (fun _ _ _ _ _ _ iv wr=>∃(k:Nat) (b:Int×Int),iv=.int .i64 k∧k≤q.moves.length∧Below n₀ W0 wr∧n₀≤wr.heap.size∧Hid (b=lenTo h t (q.moves.take k))∧Hid (FI wr B9 b.1 b.2)) (fun _ _ _ _ _ _ iv _=>q.moves.length-(intOf iv).toNat)
 case atStart=>exact⟨0,(0,1),rfl,Nat.zero_le _,hb2,hn2,lh (by rw[List.take_zero];rfl),lh hF2⟩
 case round=>
  clear hb2 hF2 hn2;obtain⟨k,b,rfl,hk,hB,hnw,HBK,HF⟩:=hrel
  by_cases hlt:k<q.moves.length
  ·obtain⟨⟨a0,a1,a2,a3⟩,-,hhi,hmv,hnm⟩:=HXX.out _ hB
   obtain⟨mb,mo,hma,hmb,hmx⟩:=hmv (by omega);subst hma;obtain⟨d0,d1,d2,d3,d4⟩:=hmx k hlt;have HSN:=lh (lenTo_snoc h t q.moves hlt);have HTK:Hid (TmOK b):=lh (by rw[HBK.out];exact len_ok HB.out HTO.out HOK.out k (by omega));have HMG:=lh (move_given HB.out HTO.out (HOK.out k hlt));have HMW:=move_within HB.out HTO.out (HOK.out k hlt);have hf0:=(HOK.out k hlt).2.1;have hf1:=(find_name hf0).1;have hft:(findS h.sets (mg q.moves k).name).toNat<t.length:=by have:=HTO.out.1;omega
   obtain⟨tb,tf,hta,htb,htx⟩:=hnm (by omega);subst hta;obtain⟨x,hx⟩:=nm (mg q.moves k);rw[hx]at d0 d1 d2 d3 d4 HSN HMG HMW hf0 hf1 hft;rw[←HBK.out]at HSN;obtain⟨f,hf⟩:=nm (findS h.sets x.name);have HFN:=lh hf;rw[hf]at HMW hf0 hf1 hft;have hf2:f<(t.length:Int):=by omega
   obtain⟨v,hv⟩:=nm (ig t f.toNat);have HDV:Hid (moveD h t x=if x.to-v<0 then 0-(x.to-v)else x.to-v):=lh (by unfold moveD;rw[hf,hv]);rw[hv]at HMW;obtain⟨D,hD⟩:=nm (x.to-v);rw[hD]at HDV;have hsub:IntKind.i64.wrap (x.to-v)=D:=by rw[←hD];simp only[IntKind.wrap_i64];omega
   have hneg:IntKind.i64.wrap (-D)=-D:=by simp only[IntKind.wrap_i64];omega
   obtain⟨dd,hdd⟩:=nm (moveD h t x);rw[hdd]at HSN HMG HDV;have HTM:=lh fun (w':World)=>Time_any dd x (topV dd x) (fun _=>top_is HMG.out) w';rw[HMG.out,show timeP dd x (topV dd x)=tmF dd x from rfl]at HTM;have HTP:=lh (tm_ok HMG.out);have HMX:Hid (max D (-D)=dd):=lh (by rw[HDV.out];split<;>omega);obtain⟨p,hp⟩:=nm (tmF dd x);rw[hp]at HSN HTM HTP;have HCM:=lh fun (w':World)=>cmp_all p.1 p.2 b.1 b.2 HTP.out.ok HTK.out.ok w';clear hdd hp;clear hhi hmv hnm hmx hx hf HMW hD;have HSETC:=lh fun (w':World) (z:HouseIn0 w' h)=>cset_any h x.name w' z HSL.out;have hBX:=(hB.alloc hnw (.cells #[.string x.name,.int .i64 x.to,.int .i64 x.spd,.int .i64 x.rise,.int .i64 x.fall] 94));have HAX:Hid (MvAt (wr.alloc (.cells #[.string x.name,.int .i64 x.to,.int .i64 x.spd,.int .i64 x.rise,.int .i64 x.fall] 94)) wr.heap.size x):=lh (MvAt.new wr x _);have HF3:=lh (HF.out.carry (below_new wr (.cells #[.string x.name,.int .i64 x.to,.int .i64 x.spd,.int .i64 x.rise,.int .i64 x.fall] 94)));have hnx:n₀≤(wr.alloc (.cells #[.string x.name,.int .i64 x.to,.int .i64 x.spd,.int .i64 x.rise,.int .i64 x.fall] 94)).heap.size:=by simp;omega
   clear HF hB
   go_upto_region 8 with (fail)
   generalize wr.alloc (.cells #[.string x.name,.int .i64 x.to,.int .i64 x.spd,.int .i64 x.rise,.int .i64 x.fall] 94)=W3 at *;obtain⟨B4,hB4⟩:=nm (wr.heap.size);rw[hB4]at HAX⊢;clear hB4 d0 d1 d2 d3 d4 a0 a1 a2 a3 hnw;have hn6:n₀≤W3.drew.heap.size:=hnx;have F6:=HF3.out.carry (br).drew;have x0:∀w',HeldM n₀ W0 B4 x w'→w'.cell? ⟨B1,0,none⟩=some (.string h.name):=fun w' z=>(HXX.out w' z.old).1.1;have x1:∀w',HeldM n₀ W0 B4 x w'→w'.cell? ⟨B1,1,none⟩=some (.int .i64 h.height):=fun w' z=>(HXX.out w' z.old).1.2.1;have x2:∀w',HeldM n₀ W0 B4 x w'→w'.cell? ⟨B1,2,none⟩=some (.slice h.sa h.sets.length h.sc):=fun w' z=>(HXX.out w' z.old).1.2.2.1;have x3:∀w',HeldM n₀ W0 B4 x w'→w'.cell? ⟨B1,3,none⟩=some (.slice h.ra h.roofs.length h.rc):=fun w' z=>(HXX.out w' z.old).1.2.2.2;have y0:∀w',HeldM n₀ W0 B4 x w'→w'.cell? ⟨B4,0,none⟩=some (.string x.name):=fun w' z=>z.mv.1;have y1:∀w',HeldM n₀ W0 B4 x w'→w'.cell? ⟨B4,1,none⟩=some (.int .i64 x.to):=fun w' z=>z.mv.2.1
   have z0:∀w',HeldM n₀ W0 B4 x w'→w'.cell? ⟨tb,tf+f.toNat,none⟩=some (.int .i64 v):=fun w' z=>by
    obtain⟨tb',tf',e,_,ex⟩:=(HXX.out w' z.old).2.2.2.2 (by omega)
    cases e
    rw[←hv];exact ex _ hft
   clear hv htx;refine wp_region_held_drew (S:=(HeldM n₀ W0 B4 x)) (by kernel_rfl) (⟨hBX.drew,HAX.out.carry (br).drew⟩) (fun hHeld=>?_);refine tk 0 ?_;refine tk 1 ?_;refine tk 2 ?_;refine tk 3 ?_;refine tk 4 ?_;refine tk 5 ?_;refine r1 6 (fun K hK=>?_)
   try simp only[s_4,s_5,s_6]
   go_simp
   (go_at_call 98;go_split_ands;(with_reducible refine(HSETC.out _ (HXX.out _ hHeld.old).2.2.1.toHouseIn0).mono ?_);rintro e w6 ⟨rfl,hb6⟩;rw[HFN.out];have how:n₀≤w6.heap.size:=Nat.le_trans hn6 hb6.size;have hHeld6:=hHeld.old.trans (hb6.mono hn6);have hMv6:=hHeld.mv.carry hb6;have F7:=F6.carry hb6)
   go_wp2_with fail
   refine hK.out _ _ (⟨hHeld6,hMv6⟩) (fun hHeld=>?_);clear hK K
   try simp only[Act.put,s_1,s_2,s_3,s_4,s_5,s_6]
   refine tk 7 ?_;refine tk 8 ?_;refine tk 9 ?_;refine tk 10 ?_;refine wpAnyH_done (by kernel_rfl) ?_ _;clear x0 x1 x2 x3 y0 y1 z0 hHeld hsub;obtain⟨m0,m1,m2,m3,m4⟩:=hMv6;have hmax:=HMX.out
   go_upto_region 10 with (first
    | (go_at_call 108;(with_reducible refine(HTM.out _).mono ?_);rintro e w7 ⟨rfl,hb7⟩;have hB7:=hHeld6.trans (hb7.mono how);have hn7:n₀≤w7.heap.size:=Nat.le_trans how hb7.size;have F8:=F7.carry hb7))
   clear hmax hneg m0 m1 m2 m3 m4;have hB8:=hB7.alloc hn7 (.cells #[.int .i64 p.1,.int .i64 p.2] 49);have hn8:n₀≤(w7.alloc (.cells #[.int .i64 p.1,.int .i64 p.2] 49)).heap.size:=by simp;omega
   have F9:=F8.carry (below_new w7 (.cells #[.int .i64 p.1,.int .i64 p.2] 49));have P9:=FI.put w7 p.1 p.2 49;generalize w7.alloc (.cells #[.int .i64 p.1,.int .i64 p.2] 49)=W8 at *;obtain⟨B13,hB13⟩:=nm (w7.heap.size);rw[hB13]at P9 hn7⊢;have hne:B13≠B9:=by rw[←hB13];have:=F8.2.2.2.2;omega
   clear hB13 hb7 F8 F7 hb6;obtain⟨q0,q1,q2,q3,q4⟩:=P9;obtain⟨s0,s1,s2,s3,s4⟩:=F9
   by_cases hcc:0<cmpP (p.1*b.2) (b.1*p.2)
   ·have HMF:Hid (moreF p b=p):=lh (by unfold moreF;rw[if_pos hcc])
    have hdc:decide (0<cmpP (p.1*b.2) (b.1*p.2))=true:=decide_eq_true hcc
    go_wp2_with (go_at_call 109;(with_reducible refine(HCM.out _).mono ?_);rintro e w9 ⟨rfl,hb9⟩;have hB9:=hB8.trans (hb9.mono hn8);have hn9:n₀≤w9.heap.size:=Nat.le_trans hn8 hb9.size;obtain⟨r0,r1,r2,r3,r4⟩:=FI.carry ⟨q0,q1,q2,q3,q4⟩ hb9;have F10:=lh (show FI w9 B9 b.1 b.2 from FI.carry ⟨s0,s1,s2,s3,s4⟩ hb9);obtain⟨v0,v1,v2,v3,v4⟩:=F10.out)
    have F11:=lh (F10.out.set p.1 p.2);have hs11:n₀≤((w9.setCell ⟨B9,0,none⟩ (.int .i64 p.1)).setCell ⟨B9,1,none⟩ (.int .i64 p.2)).heap.size:=by simp;omega
    have hB11:=(hB9.setCell (show n₀≤(⟨B9,0,none⟩:Addr).block from hn1) (.int .i64 p.1)).setCell (show n₀≤(⟨B9,1,none⟩:Addr).block from hn1) (.int .i64 p.2);go_roundw
    case rel=>exact⟨k+1,p,by go_num,by omega,hB11,hs11,lh (by rw[HSN.out,HMF.out]),F11⟩
    case measure=>simp[intOf];omega
   ·have HMF:Hid (moreF p b=b):=lh (by unfold moreF;rw[if_neg hcc])
    have hdc:decide (0<cmpP (p.1*b.2) (b.1*p.2))=false:=decide_eq_false hcc
    go_wp2_with (go_at_call 109;(with_reducible refine(HCM.out _).mono ?_);rintro e w9 ⟨rfl,hb9⟩;have hB9:=hB8.trans (hb9.mono hn8);have hn9:n₀≤w9.heap.size:=Nat.le_trans hn8 hb9.size;have F10:=FI.carry ⟨s0,s1,s2,s3,s4⟩ hb9)
    go_roundw
    case rel=>exact⟨k+1,b,by go_num,by omega,hB9,hn9,lh (by rw[HSN.out,HMF.out]),lh F10⟩
    case measure=>simp[intOf];omega
  ·obtain rfl:k=q.moves.length:=by omega
   rw[List.take_length]at HBK;obtain⟨s0,s1,s2,s3,s4⟩:=HF.out;obtain⟨t0,t1,t2,t3,t4⟩:=HNN.out _ hB
   go_wp2_with fail
   have hr:=two_cells (v0:=.int .i64 b.1) (v1:=.int .i64 b.2) t0 t1;refine bodyPost_ret (v:=.tuple #[.agg #[.int .i64 b.1,.int .i64 b.2],.int .i64 0]) (by simp[results,Tryz.results74,go_sem,hr.1,hr.2]) rfl ⟨by rw[HBK.out],?_⟩;exact((HWW.out _ hB).setCell (show w.heap.size≤(⟨B3,0,none⟩:Addr).block from HB3.out) _).setCell (show w.heap.size≤(⟨B3,1,none⟩:Addr).block from HB3.out) _
theorem tdiv_floor(n:Int){d:Int}(hd:0<d):n/d=if n.tmod d<0 then n.tdiv d-1 else n.tdiv d:=by
 have e:=Int.mul_tdiv_add_tmod n d;have l:=Int.tmod_lt_of_pos n hd
 have g:-d<n.tmod d:=by
  have:=Int.tmod_lt_of_pos (-n) hd;rw[Int.neg_tmod]at this;omega
 obtain⟨q,hq⟩:=nm (n.tdiv d);obtain⟨r,hr⟩:=nm (n.tmod d);rw[hq,hr]at e;rw[hr]at l g;rw[hq,hr]
 by_cases c:r<0
 ·rw[if_pos c,←e,show d*q+r=(r+d)+d*(q-1)by rw[Int.mul_sub];omega,Int.add_mul_ediv_left _ _ (by omega),Int.ediv_eq_zero_of_lt (by omega) (by omega)]
  omega
 ·rw[if_neg c,←e,show d*q+r=r+d*q by omega,Int.add_mul_ediv_left _ _ (by omega),Int.ediv_eq_zero_of_lt (by omega) (by omega)]
  omega
theorem floor_any(n d:Int)(n0:-1152921504606846976≤n)(n1:n≤1152921504606846976)(d0:0<d)(w:World):
  Calls Tryz.prog 111 #[.int .i64 n,.int .i64 d] w fun e w'=>e=.returned (.int .i64 (n/d))∧w=w':=by
 have HF:=lh (tdiv_floor n d0)
 have hq:-1152921504606846976≤n.tdiv d∧n.tdiv d≤1152921504606846976:=by
  have:=Int.natAbs_tdiv n d;have h2:=Nat.div_le_self n.natAbs d.natAbs;have:(n.tdiv d).natAbs=n.natAbs.div d.natAbs:=this;have h3:n.natAbs.div d.natAbs=n.natAbs/d.natAbs:=rfl;omega
 have hz:(d==0)=false:=beq_eq_false_iff_ne.2 (by omega);have w1:IntKind.i64.wrap (n.tdiv d)=n.tdiv d:=by simp only[IntKind.wrap_i64];omega
 have hm:-d<n.tmod d∧n.tmod d<d:=by
  have l:=Int.tmod_lt_of_pos n d0;have:=Int.tmod_lt_of_pos (-n) d0;rw[Int.neg_tmod]at this;omega
 obtain⟨q,hqq⟩:=nm (n.tdiv d);obtain⟨r,hrr⟩:=nm (n.tmod d)
 by_cases c:n.tmod d<0
 ·have HC:=lh c
  go_enter Tryz.func111,Tryz.ntmps111
  go_wp2_with fail
  go_ret;exact⟨ret_int (by rw[HF.out,if_pos HC.out];go_num),rfl⟩
 ·have HC:=lh c
  go_enter Tryz.func111,Tryz.ntmps111
  go_wp2_with fail
  go_ret;exact⟨ret_int (by rw[HF.out,if_neg (by have:=HC.out;omega)];first | exact hqq.symm | exact hqq | rfl),rfl⟩
theorem ceil_any(n d:Int)(hv:validF n d=true)(w:World):
  Calls Tryz.prog 77 #[.agg #[.int .i64 n,.int .i64 d]] w fun e w'=>e=.returned (.tuple #[.int .i64 (ceilI n d),.int .i64 0])∧Below w.heap.size w w':=by
 obtain⟨d0,d1,n0,n1,_⟩:=(validF_iff _ _).1 hv;have hb0:=lh (below_new w (.cells #[.int .i64 n,.int .i64 d] 49));have HC:=lh (valid_any n d);have HV:=lh hv;have hw:IntKind.i64.wrap (-n)=-n:=by simp only[IntKind.wrap_i64];omega
 have HFL:=lh fun w'=>floor_any (-n) d (by omega) (by omega) (by omega) w'
 have hbd:-1152921504606846976≤-n/d∧-n/d≤1152921504606846976:=by
  have:=Int.natAbs_ediv_le_natAbs (-n) d;omega
 have hc:IntKind.i64.wrap (-(-n/d))=ceilI n d:=by unfold ceilI;simp only[IntKind.wrap_i64];omega
 clear hv
 go_enter Tryz.func77,Tryz.ntmps77
 go_wp2_with (first
  | (go_at_call 68;(with_reducible refine(HC.out _).mono ?_);rintro e w1 ⟨rfl,hb1⟩;rw[HV.out];have HB1:=lh (hb0.out.trans (hb1.mono hb0.out.size));have g0:=(hb1.cell (p:=⟨w.heap.size,0,none⟩) (by simp)).trans (show(w.alloc (.cells #[.int .i64 n,.int .i64 d] 49)).cell? ⟨w.heap.size,0,none⟩=some (.int .i64 n)by simp);have g1:=(hb1.cell (p:=⟨w.heap.size,1,none⟩) (by simp)).trans (show(w.alloc (.cells #[.int .i64 n,.int .i64 d] 49)).cell? ⟨w.heap.size,1,none⟩=some (.int .i64 d)by simp))
  | (go_at_call 111;(with_reducible refine(HFL.out _).mono ?_);rintro e w2 ⟨rfl,rfl⟩))
 go_ret2
 exact⟨rfl,HB1.out⟩
theorem twhole_any(n:Int)(w:World):Calls Tryz.prog 76 #[.int .i64 n] w fun e w'=>e=.returned (.agg #[.int .i64 n,.int .i64 1])∧Below w.heap.size w w':=by
 go_enter Tryz.func76,Tryz.ntmps76
 go_wp2_with fail
 refine bodyPost_ret (v:=.agg #[.int .i64 n,.int .i64 1]) (by simp[results,Tryz.results76,go_sem]) rfl ⟨rfl,?_⟩;exact below_new _ _
end
section
open Go.RowKit Go.Shelf
theorem findI_name(L:List CueR)(s:ByteArray)(h:0≤findI L s):(findI L s).toNat<L.length∧(cg L (findI L s).toNat).name=s∧findI L s=((findI L s).toNat:Int):=by
 rcases cue_first_cases L (fun r=>decide (r.name=s))with ⟨e,_⟩ | ⟨k,hk,e,h1,_⟩
 ·exact absurd h (by show ¬0≤cue_first L _;rw[e];decide)
 ·have e':findI L s=k:=e
  rw[e',Int.toNat_natCast];exact⟨hk,of_decide_eq_true h1,rfl⟩
/-! ### Slices of bool -/

def btg(L:List (Bool))(i:Nat):Bool:=(L[i]?).getD false
def bflat(L:List (Bool)):List Value:=L.flatMap fun r=>[.bool r]
theorem bflat_at(L:List (Bool))(i:Nat)(hi:i<L.length):(bflat L)[i]? =some (.bool (btg L i)):=by
 induction L generalizing i with
 | nil=>simp at hi
 | cons x r ih=>
  match i with
  | 0=>exact rfl
  | i+1=>
   have:=ih i (by simpa using hi);have e:bflat (x::r)=.bool x::bflat r:=rfl;rw[e,show(i+1)=i+1 by omega]
   simpa[btg]using this
theorem bflat_snoc(L:List (Bool))(r:Bool):bflat (L++[r])=bflat L++[.bool r]:=by simp[bflat]
def later(S:List Int)(a b:Nat):Nat:=if ig S b<ig S a then a else b
theorem linked_len{L:List CueR}{A:List (ByteArray×ByteArray)}(h:linkedB L A=true):L.length≤60∧A.length≤1000:=by
 unfold linkedB at h;simp only[Bool.and_eq_true,decide_eq_true_eq]at h;exact h.1.1

theorem any_num(S:List Int)(p:Int→Bool)(b:Bool)(h:S.any p=b):Hid (num_any S p=b):=lh (by rw[num_any_eq,h])
def hangI(L:List CueR)(k:Nat):Int:=if(cg L k).link=1 then -1 else findI L (cg L k).after
def hangsTo(L:List CueR)(k:Nat):List Int:=(List.range k).map (hangI L)
theorem hangsTo_succ(L:List CueR)(k:Nat):hangsTo L (k+1)=hangsTo L k++[hangI L k]:=by unfold hangsTo;rw[List.range_succ,List.map_append];rfl
theorem hangsTo_len(L:List CueR)(k:Nat):(hangsTo L k).length=k:=by simp[hangsTo]
def hangs(L:List CueR):List Int:=hangsTo L L.length
theorem hangs_len(L:List CueR):(hangs L).length=L.length:=hangsTo_len L _

theorem before_any(ca pa:Option Addr)(L:List CueR)(A:List (ByteArray×ByteArray))(cc pc:Nat)(w:World)(hlen:L.length≤1100)(hI:Cues w.heap.size w ca L):
  Calls Tryz.prog 161 #[.agg #[.slice ca L.length cc,.slice pa A.length pc]] w fun e w'=>Hid (∃v,e=.returned v∧w'.ownsRow w.heap.size 3 1 v (hangs L).length (nflat (hangs L))∧Below w.heap.size w w'):=by
 have hb0:Below w.heap.size w (w.alloc (.cells #[.slice ca L.length cc,.slice pa A.length pc] 29)):=below_new w _;have HI:=lh (hI.grow hb0);clear hI;have HX:Hid (∀wr,Below (w.alloc (.cells #[.slice ca L.length cc,.slice pa A.length pc] 29)).heap.size (w.alloc (.cells #[.slice ca L.length cc,.slice pa A.length pc] 29)) wr→Below w.heap.size w wr∧wr.cell? ⟨w.heap.size,0,none⟩=some (.slice ca L.length cc)∧wr.cell? ⟨w.heap.size,1,none⟩=some (.slice pa A.length pc)):=lh fun wr h=>⟨mono_in _ h,box2 h⟩;have hz0:w.heap.size≤(w.alloc (.cells #[.slice ca L.length cc,.slice pa A.length pc] 29)).heap.size:=hb0.size;clear hb0
 go_enter Tryz.func161,Tryz.ntmps161
 go_wp2
 generalize w.alloc (.cells #[.slice ca L.length cc,.slice pa A.length pc] 29)=W0 at *
 go_loopw [3,10] (fun v i wr=>∃k:Nat,k≤L.length∧i=.int .i64 k∧Below W0.heap.size W0 wr∧Hid (wr.ownsRow W0.heap.size 3 1 v (hangsTo L k).length (nflat (hangsTo L k)))) (fun _ i _=>L.length-(intOf i).toNat)
 case atStart=>exact⟨0,Nat.zero_le _,rfl,br,lh (World.ownsRow_nil _ _ _ _)⟩
 case round=>
  obtain⟨k,hk,rfl,hB,HR⟩:=hrel;obtain⟨_,z0,z1⟩:=HX.out _ hB;have hbz:w.heap.size<wr.heap.size:=wl z0;have HIR:=lh (HI.out.grow hB);have hbs:=hB.size
  by_cases hlt:k<L.length
  ·obtain⟨b,off,rfl,hbl,hc⟩:=HIR.out (by omega)
   obtain⟨d0,d1,d2,d3,d4,d5,d6⟩:=hc k hlt;have HBA:=lh (below_new wr (.cells #[.string (cg L k).name,.string (cg L k).after,.int .i64 (cg L k).link,.int .i64 (cg L k).delay,.slice (cg L k).ma (cg L k).moves.length (cg L k).mc,.int .i64 (cg L k).crew,.int .i64 (cg L k).power] 86));have HL:Hid ((hangsTo L k).length≤1000000):=lh (by rw[hangsTo_len];omega);clear hc
   by_cases l1:(cg L k).link=1
   ·have m1:((cg L k).link !=1)=false:=bne_eq_false_iff_eq.2 l1
    have HH:Hid (hangsTo L (k+1)=hangsTo L k++[-1]):=lh (by rw[hangsTo_succ];unfold hangI;rw[if_pos l1]);clear l1
    go_wp2_with (at_builtin;refine num_append rfl _ _ rfl W0.heap.size _ (hangsTo L k) rfl ((HR.out.alloc _).alloc _) _ (-1) rfl (by simp) HL.out (by simp;omega) ?_;intro v1 w2 hown2 hg2;have hB2:=grown_own ((HR.out.alloc _).alloc _) hg2 ((hB.alloc hbs _).alloc (by simp;omega) _) (by simp;omega) (Nat.le_refl _))
    go_roundw
    case rel=>exact⟨k+1,by omega,by go_num,hB2,lh (by rw[HH.out];exact hown2)⟩
    case measure=>simp[intOf];omega
   ·have m1:((cg L k).link !=1)=true:=bne_iff_ne.2 l1
    have HH:Hid (hangsTo L (k+1)=hangsTo L k++[findI L (cg L k).after]):=lh (by rw[hangsTo_succ];unfold hangI;rw[if_neg l1]);clear l1
    go_wp2_with (first
     | (go_at_call 116;(with_reducible refine(find_any _ L _ _ (cg L k).after _ hlen (HIR.out.grow HBA.out)).mono ?_);rintro e w1 ⟨rfl,hb1⟩;have hB1:=HBA.out.trans (hb1.mono HBA.out.size);have hz1:=hB1.size;have HR1:=lh (ownsRow_below HR.out hB1))
     | (at_builtin;refine num_append rfl _ _ rfl W0.heap.size _ (hangsTo L k) rfl (HR1.out.alloc _) _ (findI L (cg L k).after) rfl (by simp) HL.out (by simp;omega) ?_;intro v1 w2 hown2 hg2;have hB2:=grown_own (HR1.out.alloc _) hg2 ((hB.trans (hB1.mono hbs)).alloc (by omega) _) (by simp;omega) (Nat.le_refl _)))
    go_roundw
    case rel=>exact⟨k+1,by omega,by go_num,hB2,lh (by rw[HH.out];exact hown2)⟩
    case measure=>simp[intOf];omega
  ·obtain rfl:k=L.length:=by omega
   go_wp2
   go_ret;exact lh ⟨_,rfl,ownsRow_base HR.out hz0,(HX.out _ hB).1⟩
end
end Go.Proofs.YtebofaenlhhkaaaGreat
