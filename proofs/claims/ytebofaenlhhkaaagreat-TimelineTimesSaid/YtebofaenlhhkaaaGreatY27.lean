import Derived.Test.YtebofaenlhhkaaaGreatY26
import Derived.Test.YtebofaenlhhkaaaGreatY15
namespace Go.Proofs.YtebofaenlhhkaaaGreat
set_option maxRecDepth 100000
set_option maxHeartbeats 80000000
set_option linter.unusedSimpArgs false
section
open Go.RowKit Go.Shelf
attribute [local go_sem] Oper.semAt_some
theorem AMo(h:Ae)(q:An)(ta:Option Addr)(t:List Int)(tc:Nat)(w:World)(hh:Ax w h)(hm:Ei w.heap.size w q.ma q.moves)(hml:q.moves.length≤1000)(_:q.moves.length≤q.mc)(ht:Bl w.heap.size w ta t)(hb:Dz h=true)(hr:Ix h q=true)(hto:Ka h t):
  Calls Tryz.prog 128 #[.agg #[.string h.name,.int .i64 h.height,.slice h.sa h.sets.length h.sc,.slice h.ra h.roofs.length h.rc],.slice ta t.length tc,.agg #[.string q.name,.string q.after,.int .i64 q.link,.int .i64 q.delay,.slice q.ma q.moves.length q.mc,.int .i64 q.crew,.int .i64 q.power]] w fun e w'=>e=.returned (.agg #[.int .i64 (Gk h t q.moves).1,.int .i64 (Gk h t q.moves).2])∧Below w.heap.size w w':=by
 have hb0:Below w.heap.size w (((w.alloc (Ex h)).alloc (Eu q)).alloc (.cells #[.int .i64 0,.int .i64 0] 49)):=((Aa w _).alloc (by simp) _).alloc (by simp;omega) _
 have HX:Hid (∀w',Below (((w.alloc (Ex h)).alloc (Eu q)).alloc (.cells #[.int .i64 0,.int .i64 0] 49)).heap.size (((w.alloc (Ex h)).alloc (Eu q)).alloc (.cells #[.int .i64 0,.int .i64 0] 49)) w'→Au w' w.heap.size h∧Cx w' (w.heap.size+1) q∧Ax w' h∧Ei w'.heap.size w' q.ma q.moves∧Bl w'.heap.size w' ta t):=lh fun w' z=>
  ⟨(((Au.new w h _).carry (Aa _ _)).carry (Aa _ _)).carry z,((Cx.new (w.alloc _) q _ _ (by simp)).carry (Aa _ _)).carry z,(hh.grow hb0).grow z,(hm.grow hb0).grow z,(ht.grow hb0).grow z⟩
 have HW:Hid (∀w',Below (((w.alloc (Ex h)).alloc (Eu q)).alloc (.cells #[.int .i64 0,.int .i64 0] 49)).heap.size (((w.alloc (Ex h)).alloc (Eu q)).alloc (.cells #[.int .i64 0,.int .i64 0] 49)) w'→Below w.heap.size w w'):=lh fun w' z=>hb0.trans (z.mono hb0.size);have hsl:=hh.slen;have HSL:=lh hsl;have HB:=lh hb;have HOK:=lh (Ef.1 hr).2;have HTO:=lh hto;clear hh hm ht hb0 hb hr hto hsl
 go_enter Tryz.func128,Tryz.ntmps128
 go_upto_region 1 with (fail)
 have hN6:Hj (((w.alloc (Ex h)).alloc (Eu q)).alloc (.cells #[.int .i64 0,.int .i64 0] 49)) (w.heap.size+1+1):=by
  have e:=Hj.new ((w.alloc (Ex h)).alloc (Eu q)) 49;rw[show((w.alloc (Ex h)).alloc (Eu q)).heap.size=w.heap.size+1+1 by simp]at e;exact e
 obtain⟨W0,hW0⟩:=nm ((((w.alloc (Ex h)).alloc (Eu q)).alloc (.cells #[.int .i64 0,.int .i64 0] 49)):World);simp only[hW0]at HX HW hN6⊢;clear hW0;obtain⟨B1,hB1⟩:=nm (w.heap.size);obtain⟨B2,hB2⟩:=nm (w.heap.size+1);obtain⟨B3,hB3⟩:=nm (w.heap.size+1+1);rw[hB3]at hN6⊢;rw[hB2]at HX⊢;rw[hB1]at HX⊢;have HB3:Hid (w.heap.size≤B3):=lh (by omega);clear hB1 hB2 hB3;obtain⟨n₀,hn0⟩:=nm (W0.heap.size);have HN6:=lh hN6;obtain⟨qa,hqa⟩:=nm (q.ma);have HQA:=lh hqa;rw[hqa]at HX⊢;clear hqa hN6
 go_upto_region 2 with (go_at_call 20;go_fit (Ve 0 _);rintro e w1 ⟨rfl,hb1⟩;rw[hn0]at hb1)
 have HXX:Hid (∀w',Below n₀ W0 w'→Au w' B1 h∧Cx w' B2 q∧Ax w' h∧Ei w'.heap.size w' qa q.moves∧Bl w'.heap.size w' ta t):=lh fun w' z=>by rw[←hn0]at z;exact HX.out w' z
 have HWW:Hid (∀w',Below n₀ W0 w'→Below w.heap.size w w'):=lh fun w' z=>by rw[←hn0]at z;exact HW.out w' z
 have HNN:Hid (∀w',Below n₀ W0 w'→Hj w' B3):=lh fun w' z=>by rw[←hn0]at z;exact HN6.out.carry z
 have hn1:n₀≤w1.heap.size:=by have:=hb1.size;omega
 clear HX HW HN6 hn0;have hb2:=hb1.alloc hn1 (.cells #[.int .i64 0,.int .i64 1] 49);have hF2:=FI.put w1 0 1 49;have hn2:n₀≤(w1.alloc (.cells #[.int .i64 0,.int .i64 1] 49)).heap.size:=by simp;omega
 generalize w1.alloc (.cells #[.int .i64 0,.int .i64 1] 49)=W2 at *;obtain⟨B7,hB7⟩:=nm (w1.heap.size);rw[hB7]at hF2 hn1⊢;clear hb1 hB7
 go_upto_region 3 with (fail)
 go_loopw [8,9] (fun iv _ wr=>∃(k:Nat) (b:Int×Int),iv=.int .i64 k∧k≤q.moves.length∧Below n₀ W0 wr∧n₀≤wr.heap.size∧Hid (b=Gk h t (q.moves.take k))∧Hid (FI wr B7 b.1 b.2)) (fun iv _ _=>q.moves.length-(intOf iv).toNat)
 case atStart=>exact⟨0,(0,1),rfl,nz,hb2,hn2,lh (by rw[List.take_zero];rfl),lh hF2⟩
 case round=>
  clear hb2 hF2 hn2;obtain⟨k,b,rfl,hk,hB,hnw,HBK,HF⟩:=hrel;obtain⟨-,⟨c0,c1,c2,c3,c4,c5,c6⟩,hhi,hmv,hnm⟩:=HXX.out _ hB;rw[HQA.out]at c4
  by_cases hlt:k<q.moves.length
  ·obtain⟨mb,mo,hma,hmb,-⟩:=hmv (by omega)
   subst hma;have HSN:=lh (Qv h t q.moves hlt);have HTK:Hid (Ux b):=lh (by rw[HBK.out];exact Wf HB.out HTO.out HOK.out k (by omega));have HMG:=lh (Rj HB.out HTO.out (HOK.out k hlt));have HMW:=lh (Lp HB.out HTO.out (HOK.out k hlt));have HF0:=lh (HOK.out k hlt).2.1;obtain⟨x,hx⟩:=nm (mg q.moves k);have HMK:=lh hx;rw[hx]at HSN HMG HMW HF0;rw[←HBK.out]at HSN;have HDIST:Hid (∀w',Cs n₀ W0 w'→Calls Tryz.prog 87 #[.agg #[.string h.name,.int .i64 h.height,.slice h.sa h.sets.length h.sc,.slice h.ra h.roofs.length h.rc],.slice ta t.length tc,.agg #[.string x.name,.int .i64 x.to,.int .i64 x.spd,.int .i64 x.rise,.int .i64 x.fall]] w' fun e w2=>e=.returned (.int .i64 (Lo h t x))∧Below w'.heap.size w' w2):=lh fun w' z=>ALe h x ta t tc w' (HXX.out _ z.old).2.2.1.toHouseIn0 HSL.out (HXX.out _ z.old).2.2.2.2 HTO.out.1 HF0.out HMW.out;obtain⟨dd,hdd⟩:=nm (Lo h t x);rw[hdd]at HSN HMG HDIST;have HTIME:=lh fun (w':World)=>AKm dd x (Lb dd x) HMG.out (Re HMG.out) w';rw[show Ig dd x (Lb dd x)=tmF dd x from rfl]at HTIME;have HTP:=lh (AOi HMG.out);have vb:=(Bj _ _).1 HTK.out.ok;obtain⟨p,hp⟩:=nm (tmF dd x);rw[hp]at HSN HTIME HTP;have vp:=(Bj _ _).1 HTP.out.ok;have HCM:=lh fun (w':World)=>AOv p.1 p.2 b.1 b.2 HTP.out.pos (by omega) (by omega) (by omega) HTK.out.pos (by omega) (by omega) (by omega) w';clear hhi hmv hnm hx hdd hp vb vp
   go_upto_region 5 with (fail)
   clear c0 c1 c2 c3 c4 c5 c6
   go_cut [9] (fun v9 wx=>∃B9:Nat,v9=.pointer (some ⟨B9,0,none⟩)∧Below n₀ W0 wx∧n₀≤wx.heap.size∧n₀≤B9∧Hid (FI wx B9 p.1 p.2∧FI wx B7 b.1 b.2∧B7≠B9))
   case first=>
    have x0:∀w',Cs n₀ W0 w'→w'.cell? ⟨B1,0,none⟩=some (.string h.name):=fun w' z=>(HXX.out w' z.old).1.1;have x1:∀w',Cs n₀ W0 w'→w'.cell? ⟨B1,1,none⟩=some (.int .i64 h.height):=fun w' z=>(HXX.out w' z.old).1.2.1;have x2:∀w',Cs n₀ W0 w'→w'.cell? ⟨B1,2,none⟩=some (.slice h.sa h.sets.length h.sc):=fun w' z=>(HXX.out w' z.old).1.2.2.1;have x3:∀w',Cs n₀ W0 w'→w'.cell? ⟨B1,3,none⟩=some (.slice h.ra h.roofs.length h.rc):=fun w' z=>(HXX.out w' z.old).1.2.2.2;have c4:∀w',Cs n₀ W0 w'→w'.cell? ⟨B2,4,none⟩=some (.slice (some ⟨mb,mo,none⟩) q.moves.length q.mc):=fun w' z=>by rw[←HQA.out];exact(HXX.out w' z.old).2.1.2.2.2.2.1
    have hmm:∀w',Cs n₀ W0 w'→w'.cell? ⟨mb,mo+k*5,none⟩=some (.string x.name)∧w'.cell? ⟨mb,mo+k*5+1,none⟩=some (.int .i64 x.to)∧w'.cell? ⟨mb,mo+k*5+2,none⟩=some (.int .i64 x.spd)∧w'.cell? ⟨mb,mo+k*5+3,none⟩=some (.int .i64 x.rise)∧w'.cell? ⟨mb,mo+k*5+4,none⟩=some (.int .i64 x.fall):=fun w' z=>by
     obtain⟨mb',mo',e,-,ex⟩:=(HXX.out w' z.old).2.2.2.1 (by omega)
     cases e
     have:=ex k hlt;rw[HMK.out]at this;exact this
    have y0:=fun w' z=>(hmm w' z).1;have y1:=fun w' z=>(hmm w' z).2.1;have y2:=fun w' z=>(hmm w' z).2.2.1;have y3:=fun w' z=>(hmm w' z).2.2.2.1;have y4:=fun w' z=>(hmm w' z).2.2.2.2;clear hmm;have H0:Cs n₀ W0 wr.drew:=(Cs.mk hB hnw).next (br).drew
    have F7_0:=HF.out.carry (br).drew;refine wp_region_held_drew (S:=(Cs n₀ W0)) (by kernel_rfl) H0 (fun hHeld=>?_);obtain⟨W5,hW5⟩:=nm (wr.drew);simp only[hW5]at hHeld H0 F7_0⊢;clear hW5;refine tk 0 ?_;refine tk 1 ?_;refine tk 2 ?_;refine tk 3 ?_;refine tk 4 ?_;refine tk 5 ?_;refine tk 6 ?_;refine tk 8 ?_;refine tk 9 ?_;refine tk 10 ?_;refine tk 11 ?_;refine tk 12 ?_;clear x0 x1 x2 x3 c4 y0 y1 y2 y3 y4;refine rq [7,14] ?_;refine AllReadyH.cons (o:=_) rfl (fun K hK=>?_) (AllReadyH.cons (o:=_) rfl (fun K hK=>?_) AllReadyH.nil)
    ·try simp only[Ba,Bc,Az]
     go_simp
     (go_at_call 87;go_split_ands;go_fit (HDIST.out _ H0);rintro e y1 ⟨rfl,hy1⟩)
     go_wp2_with fail
     have H1:=H0.next hy1;have F7_1:=F7_0.carry hy1;refine hK.out _ _ H1 (fun hHeld=>?_);clear hK K
     try simp only[Act.put,Co,Cp,Cn,Ba,Bc,Az]
     refine rq [13,14] ?_;refine AllReadyH.cons (o:=_) rfl (fun K hK=>?_) (AllReadyH.cons (o:=_) rfl (fun K hK=>?_) AllReadyH.nil)
     focus
      try simp only[Ba,Bc,Az]
      go_simp
      (go_at_call 137;go_split_ands;go_fit (HTIME.out _);rintro e y2 ⟨rfl,hy2⟩)
      go_wp2_with fail
      have H2:=H1.next hy2;have F7_2:=F7_1.carry hy2;refine hK.out _ _ H2 (fun hHeld=>?_);clear hK K
      try simp only[Act.put,Co,Cp,Cn,Ba,Bc,Az]
      refine r1 14 (fun K hK=>?_);rw[if_pos (by rfl)];go_split_ands
      go_wp2_with fail
      have H3:=H2.next (Aa y2 (.cells #[.int .i64 0,.int .i64 0] 49));have F7_3:=F7_2.carry (Aa y2 (.cells #[.int .i64 0,.int .i64 0] 49));have F9_3:=FI.new y2 49;have hlo:n₀≤y2.heap.size:=H2.lo;have hne:B7≠y2.heap.size:=Nat.ne_of_lt F7_2.2.2.2.2;obtain⟨B9,hB9⟩:=nm (y2.heap.size);rw[hB9]at F9_3 hlo hne⊢;clear hB9;generalize y2.alloc (.cells #[.int .i64 0,.int .i64 0] 49)=y3 at *
     rotate_left
     focus
      rw[if_pos (by rfl)];go_split_ands
      go_wp2_with fail
      have H2:=H1.next (Aa y1 (.cells #[.int .i64 0,.int .i64 0] 49));have F7_2:=F7_1.carry (Aa y1 (.cells #[.int .i64 0,.int .i64 0] 49));have F9_2:=FI.new y1 49;have hlo:n₀≤y1.heap.size:=H1.lo;have hne:B7≠y1.heap.size:=Nat.ne_of_lt F7_1.2.2.2.2;obtain⟨B9,hB9⟩:=nm (y1.heap.size);rw[hB9]at F9_2 hlo hne⊢;clear hB9;generalize y1.alloc (.cells #[.int .i64 0,.int .i64 0] 49)=y2 at *;refine hK.out _ _ H2 (fun hHeld=>?_);clear hK K
      try simp only[Act.put,Co,Cp,Cn,Ba,Bc,Az]
      refine r1 13 (fun K hK=>?_)
      try simp only[Ba,Bc,Az]
      go_simp
      (go_at_call 137;go_split_ands;go_fit (HTIME.out _);rintro e y3 ⟨rfl,hy3⟩)
      go_wp2_with fail
      have H3:=H2.next hy3;have F7_3:=F7_2.carry hy3;have F9_3:=F9_2.carry hy3
     rotate_left
     all_goals
      refine hK.out _ _ H3 (fun hHeld=>?_);clear hK K
      try simp only[Act.put,Co,Cp,Cn,Ba,Bc,Az]
      refine r1 15 (fun K hK=>?_);rw[if_pos (by rfl)];go_split_ands;obtain⟨f0,f1,f2,f3,f4⟩:=F9_3
      go_wp2_with fail
      refine hK.out _ _ ((H3.put hlo _).put hlo _) (fun hHeld=>?_);clear hK K
      try simp only[Act.put,Co,Cp,Cn,Ba,Bc,Az]
      refine wpAnyH_done (by kernel_rfl) ?_ _
      go_wp2_with fail
      go_meet
      exact⟨B9,rfl,((H3.put hlo _).put hlo _).old,((H3.put hlo _).put hlo _).lo,hlo,lh ⟨FI.set ⟨f0,f1,f2,f3,f4⟩ _ _,F7_3.other hne _ _,hne⟩⟩
    ·rw[if_pos (by rfl)]
     go_split_ands
     go_wp2_with fail
     have H1:=H0.next (Aa W5 (.cells #[.int .i64 0,.int .i64 0] 49));have F7_1:=F7_0.carry (Aa W5 (.cells #[.int .i64 0,.int .i64 0] 49));have F9_1:=FI.new W5 49;have hlo:n₀≤W5.heap.size:=H0.lo;have hne:B7≠W5.heap.size:=Nat.ne_of_lt F7_0.2.2.2.2;obtain⟨B9,hB9⟩:=nm (W5.heap.size);rw[hB9]at F9_1 hlo hne⊢;clear hB9;generalize W5.alloc (.cells #[.int .i64 0,.int .i64 0] 49)=y1 at *;refine hK.out _ _ H1 (fun hHeld=>?_);clear hK K
     try simp only[Act.put,Co,Cp,Cn,Ba,Bc,Az]
     refine r1 7 (fun K hK=>?_)
     try simp only[Ba,Bc,Az]
     go_simp
     (go_at_call 87;go_split_ands;go_fit (HDIST.out _ H1);rintro e y2 ⟨rfl,hy2⟩)
     go_wp2_with fail
     have H2:=H1.next hy2;have F7_2:=F7_1.carry hy2;have F9_2:=F9_1.carry hy2;refine hK.out _ _ H2 (fun hHeld=>?_);clear hK K
     try simp only[Act.put,Co,Cp,Cn,Ba,Bc,Az]
     refine r1 13 (fun K hK=>?_)
     try simp only[Ba,Bc,Az]
     go_simp
     (go_at_call 137;go_split_ands;go_fit (HTIME.out _);rintro e y3 ⟨rfl,hy3⟩)
     go_wp2_with fail
     have H3:=H2.next hy3;have F7_3:=F7_2.carry hy3;have F9_3:=F9_2.carry hy3;refine hK.out _ _ H3 (fun hHeld=>?_);clear hK K
     try simp only[Act.put,Co,Cp,Cn,Ba,Bc,Az]
     refine r1 15 (fun K hK=>?_);rw[if_pos (by rfl)];go_split_ands;obtain⟨f0,f1,f2,f3,f4⟩:=F9_3
     go_wp2_with fail
     refine hK.out _ _ ((H3.put hlo _).put hlo _) (fun hHeld=>?_);clear hK K
     try simp only[Act.put,Co,Cp,Cn,Ba,Bc,Az]
     refine wpAnyH_done (by kernel_rfl) ?_ _
     go_wp2_with fail
     go_meet
     exact⟨B9,rfl,((H3.put hlo _).put hlo _).old,((H3.put hlo _).put hlo _).lo,hlo,lh ⟨FI.set ⟨f0,f1,f2,f3,f4⟩ _ _,F7_3.other hne _ _,hne⟩⟩
   case rest=>
    obtain⟨B9,rfl,hB8,hn8,hlo,hq⟩:=hcut;obtain⟨q0,q1,q2,q3,q4⟩:=hq.out.1;obtain⟨s0,s1,s2,s3,s4⟩:=hq.out.2.1;clear HF hB hnw HDIST HTIME
    by_cases hcc:0<Iy (p.1*b.2) (b.1*p.2)
    ·have HMF:Hid (Nw p b=p):=lh (by unfold Nw;rw[if_pos hcc])
     have hdc:decide (0<Iy (p.1*b.2) (b.1*p.2))=true:=dT hcc
     go_wp2_with (go_at_call 40;go_fit (HCM.out _);rintro e w9 ⟨rfl,hb9⟩;have hB9:=hB8.trans (hb9.mono hn8);have hn9:n₀≤w9.heap.size:=nt hn8 hb9.size;obtain⟨r0,r1,r2,r3,r4⟩:=FI.carry ⟨q0,q1,q2,q3,q4⟩ hb9;have F10:=lh (show FI w9 B7 b.1 b.2 from FI.carry ⟨s0,s1,s2,s3,s4⟩ hb9);obtain⟨v0,v1,v2,v3,v4⟩:=F10.out)
     have F11:=lh (F10.out.set p.1 p.2);have hs11:n₀≤((w9.setCell ⟨B7,0,none⟩ (.int .i64 p.1)).setCell ⟨B7,1,none⟩ (.int .i64 p.2)).heap.size:=by simp;omega
     have hB11:=(hB9.setCell (show n₀≤(⟨B7,0,none⟩:Addr).block from hn1) (.int .i64 p.1)).setCell (show n₀≤(⟨B7,1,none⟩:Addr).block from hn1) (.int .i64 p.2);go_roundw
     case rel=>exact⟨k+1,p,by go_num,by omega,hB11,hs11,lh (by rw[HSN.out,HMF.out]),F11⟩
     case measure=>simp[intOf];omega
    ·have HMF:Hid (Nw p b=b):=lh (by unfold Nw;rw[if_neg hcc])
     have hdc:decide (0<Iy (p.1*b.2) (b.1*p.2))=false:=dF hcc
     go_wp2_with (go_at_call 40;go_fit (HCM.out _);rintro e w9 ⟨rfl,hb9⟩;have hB9:=hB8.trans (hb9.mono hn8);have hn9:n₀≤w9.heap.size:=nt hn8 hb9.size;have F10:=FI.carry ⟨s0,s1,s2,s3,s4⟩ hb9)
     go_roundw
     case rel=>exact⟨k+1,b,by go_num,by omega,hB9,hn9,lh (by rw[HSN.out,HMF.out]),lh F10⟩
     case measure=>simp[intOf];omega
  ·obtain rfl:k=q.moves.length:=by omega
   rw[List.take_length]at HBK;obtain⟨s0,s1,s2,s3,s4⟩:=HF.out;obtain⟨t0,t1,t2,t3,t4⟩:=HNN.out _ hB;clear hhi hmv hnm
   go_wp2_with fail
   have hr:=Ag (v0:=.int .i64 b.1) (v1:=.int .i64 b.2) t0 t1;refine bodyPost_ret (v:=.agg #[.int .i64 b.1,.int .i64 b.2]) (by simp[results,Tryz.results128,go_sem,hr.1,hr.2]) rfl ⟨by rw[HBK.out],?_⟩;exact((HWW.out _ hB).setCell (show w.heap.size≤(⟨B3,0,none⟩:Addr).block from HB3.out) _).setCell (show w.heap.size≤(⟨B3,1,none⟩:Addr).block from HB3.out) _
theorem AFg(h:Ae)(q:An)(ta:Option Addr)(t:List Int)(tc:Nat)(w:World)(hh:Ax w h)(hm:Ei w.heap.size w q.ma q.moves)(hml:q.moves.length≤1000)(hmc:q.moves.length≤q.mc)(ht:Bl w.heap.size w ta t)(hb:Dz h=true)(hr:Ix h q=true)(hto:Ka h t):
  Calls Tryz.prog 107 #[.agg #[.string h.name,.int .i64 h.height,.slice h.sa h.sets.length h.sc,.slice h.ra h.roofs.length h.rc],.slice ta t.length tc,.agg #[.string q.name,.string q.after,.int .i64 q.link,.int .i64 q.delay,.slice q.ma q.moves.length q.mc,.int .i64 q.crew,.int .i64 q.power]] w fun e w'=>e=.returned (.int .i64 0)∧Below w.heap.size w w':=by
 have hb0:Below w.heap.size w ((w.alloc (Ex h)).alloc (Eu q)):=(Aa w _).alloc (by simp) _
 have HX:Hid (∀w',Below ((w.alloc (Ex h)).alloc (Eu q)).heap.size ((w.alloc (Ex h)).alloc (Eu q)) w'→Au w' w.heap.size h∧Cx w' (w.heap.size+1) q∧Ax w' h∧Ei w'.heap.size w' q.ma q.moves∧Bl w'.heap.size w' ta t):=lh fun w' z=>
  ⟨((Au.new w h _).carry (Aa _ _)).carry z,(Cx.new (w.alloc _) q _ _ (by simp)).carry z,(hh.grow hb0).grow z,(hm.grow hb0).grow z,(ht.grow hb0).grow z⟩
 have HW:Hid (∀w',Below ((w.alloc (Ex h)).alloc (Eu q)).heap.size ((w.alloc (Ex h)).alloc (Eu q)) w'→Below w.heap.size w w'):=lh fun w' z=>hb0.trans (z.mono hb0.size);have hsl:=hh.slen;have HTL:=lh hto.1;have HTO:=lh hto.2;have htl:t.length≤1000:=by have:=hto.1;omega
 have HB:=lh hb;have HR:=lh hr;have HC1:=lh fun (w':World) (z:Ax w' h)=>Ir h w' z;have HC2:=lh fun (w':World) (z:Ax w' h) (z2:Ei w'.heap.size w' q.ma q.moves)=>Ps h q w' z.toHouseIn0 hsl z2 hml hmc;have HD:Hid (((t.length:Int)!=(h.sets.length:Int))=false):=lh (by rw[hto.1];exact bne_self_eq_false _);clear hh hm ht hb0 hb hr hto
 go_enter Tryz.func107,Tryz.ntmps107
 go_upto_region 1 with (fail)
 obtain⟨W0,hW0⟩:=nm (((w.alloc (Ex h)).alloc (Eu q)):World);simp only[hW0]at HX HW⊢;clear hW0;obtain⟨B1,hB1⟩:=nm (w.heap.size);obtain⟨B2,hB2⟩:=nm (w.heap.size+1);rw[hB2]at HX⊢;rw[hB1]at HX⊢;clear hB1 hB2;obtain⟨n₀,hn0⟩:=nm (W0.heap.size);rw[hn0]at HX HW;obtain⟨⟨a0,a1,a2,a3⟩,⟨c0,c1,c2,c3,c4,c5,c6⟩,-,-,-⟩:=HX.out _ (by rw[←hn0];exact br);obtain⟨sa,hsa⟩:=nm (h.sa);have HSA:=lh hsa;rw[hsa]at a2 HC1 HC2⊢;have hd:=HD.out;clear hsa
 go_upto_region 6 with (first
  | (go_at_call 94;go_fit (HC1.out _ (by have:=(HX.out _ (by rw[←hn0];exact br)).2.2.1;exact this));rintro e w1 ⟨rfl,hb1⟩;rw[HB.out];rw[hn0]at hb1;obtain⟨⟨u0,u1,u2,u3⟩,⟨v0,v1,v2,v3,v4,v5,v6⟩,-,-,-⟩:=HX.out _ hb1;rw[HSA.out]at u2)
  | (go_at_call 95;go_fit (HC2.out _ (HX.out _ hb1).2.2.1 (HX.out _ hb1).2.2.2.1);rintro e w2 ⟨rfl,hb2'⟩;rw[HR.out];have hb2:=hb1.trans (hb2'.mono (by have:=hb1.size;omega));obtain⟨⟨x0,x1,x2,x3⟩,-,-,-,-⟩:=HX.out _ hb2;rw[HSA.out]at x2))
 clear a0 a1 a2 a3 c0 c1 c2 c3 c4 c5 c6 u0 u1 u2 u3 v0 v1 v2 v3 v4 v5 v6 x0 x1 x2 x3 hd HD hb2' hb1
 go_loopw [7,8,28] (fun _ _ iv wr=>∃k:Nat,iv=.int .i64 k∧k≤t.length∧Below n₀ W0 wr) (fun _ _ iv _=>t.length-(intOf iv).toNat)
 case atStart=>exact⟨0,rfl,nz,hb2⟩
 case round=>
  clear hb2;obtain⟨k,rfl,hk,hB⟩:=hrel
  by_cases hlt:k<t.length
  ·obtain⟨⟨a0,a1,a2,a3⟩,-,hi,-,hn⟩:=HX.out _ hB
   obtain⟨tb,tf,hta,htb,htx⟩:=hn (by omega);subst hta;have e0:=htx k hlt;obtain⟨sb,so,hsa,hsb,hsx⟩:=hi.sets (by rw[←HTL.out];omega);rw[HSA.out]at hsa a2;subst hsa;have hks:k<h.sets.length:=by rw[←HTL.out];exact hlt
   obtain⟨d0,d1,d2,d3,d4,d5,d6,d7,d8,d9,d10,d11,d12⟩:=hsx k hks;have HBT:Hid (Ai (ig t k) (hg h.sets k).low (hg h.sets k).high=true):=lh (Am.2 (HTO.out k hlt));clear hi hn htx hsx d0 d1 d4 d5 d6 d7 d8 d9 d10 d11 d12;obtain⟨y,hy⟩:=nm (hg h.sets k);rw[hy]at d2 d3 HBT;clear hy;have HGB:=lh (Bu (ig t k) y.low y.high)
   go_wp2_with (go_quiet ((go_at_call 147;exact Calls.quiet_of_same (v:=.bool true) ((HGB.out _).mono fun e w' h=>⟨h.1.trans (by rw[HBT.out]),h.2.symm⟩))))
   go_roundw
   case rel=>exact⟨k+1,by go_num,by omega,Aj hB _⟩
   case measure=>simp[intOf];omega
  ·obtain rfl:k=t.length:=by omega
   go_wp2_with fail
   go_ret;exact⟨rfl,HW.out _ hB⟩
theorem ANd(h:Ae)(q:An)(ta:Option Addr)(t:List Int)(tc:Nat)(w:World)(hh:Ax w h)(hm:Ei w.heap.size w q.ma q.moves)(hml:q.moves.length≤1000)(hmc:q.moves.length≤q.mc)(ht:Bl w.heap.size w ta t)(hb:Dz h=true)(hr:Ix h q=true)(hto:Ka h t):
  Calls Tryz.prog 74 #[.agg #[.string h.name,.int .i64 h.height,.slice h.sa h.sets.length h.sc,.slice h.ra h.roofs.length h.rc],.slice ta t.length tc,.agg #[.string q.name,.string q.after,.int .i64 q.link,.int .i64 q.delay,.slice q.ma q.moves.length q.mc,.int .i64 q.crew,.int .i64 q.power]] w fun e w'=>e=.returned (.tuple #[.agg #[.int .i64 (Gk h t q.moves).1,.int .i64 (Gk h t q.moves).2],.int .i64 0])∧Below w.heap.size w w':=by
 have hb0:Below w.heap.size w (((w.alloc (Ex h)).alloc (Eu q)).alloc (.cells #[.int .i64 0,.int .i64 0] 49)):=((Aa w _).alloc (by simp) _).alloc (by simp;omega) _
 have HX:Hid (∀w',Below (((w.alloc (Ex h)).alloc (Eu q)).alloc (.cells #[.int .i64 0,.int .i64 0] 49)).heap.size (((w.alloc (Ex h)).alloc (Eu q)).alloc (.cells #[.int .i64 0,.int .i64 0] 49)) w'→Au w' w.heap.size h∧Cx w' (w.heap.size+1) q∧Ax w' h∧Ei w'.heap.size w' q.ma q.moves∧Bl w'.heap.size w' ta t):=lh fun w' z=>
  ⟨(((Au.new w h _).carry (Aa _ _)).carry (Aa _ _)).carry z,((Cx.new (w.alloc _) q _ _ (by simp)).carry (Aa _ _)).carry z,(hh.grow hb0).grow z,(hm.grow hb0).grow z,(ht.grow hb0).grow z⟩
 have HW:Hid (∀w',Below (((w.alloc (Ex h)).alloc (Eu q)).alloc (.cells #[.int .i64 0,.int .i64 0] 49)).heap.size (((w.alloc (Ex h)).alloc (Eu q)).alloc (.cells #[.int .i64 0,.int .i64 0] 49)) w'→Below w.heap.size w w'):=lh fun w' z=>hb0.trans (z.mono hb0.size);have HCV:=lh fun (w':World) (z:Ax w' h) (z2:Ei w'.heap.size w' q.ma q.moves) (z3:Bl w'.heap.size w' ta t)=>AFg h q ta t tc w' z z2 hml hmc z3 hb hr hto;have hsl:=hh.slen;have HSL:=lh hsl;have HB:=lh hb;have HOK:=lh (Ef.1 hr).2;have HTO:=lh hto;clear hh hm ht hb0 hb hr hto hsl
 go_enter Tryz.func74,Tryz.ntmps74
 go_upto_region 1 with (fail)
 have hN6:Hj (((w.alloc (Ex h)).alloc (Eu q)).alloc (.cells #[.int .i64 0,.int .i64 0] 49)) (w.heap.size+1+1):=by
  have e:=Hj.new ((w.alloc (Ex h)).alloc (Eu q)) 49;rw[show((w.alloc (Ex h)).alloc (Eu q)).heap.size=w.heap.size+1+1 by simp]at e;exact e
 obtain⟨W0,hW0⟩:=nm ((((w.alloc (Ex h)).alloc (Eu q)).alloc (.cells #[.int .i64 0,.int .i64 0] 49)):World);simp only[hW0]at HX HW hN6⊢;clear hW0;obtain⟨B1,hB1⟩:=nm (w.heap.size);obtain⟨B2,hB2⟩:=nm (w.heap.size+1);obtain⟨B3,hB3⟩:=nm (w.heap.size+1+1);rw[hB3]at hN6⊢;rw[hB2]at HX⊢;rw[hB1]at HX⊢;have HB3:Hid (w.heap.size≤B3):=lh (by omega);clear hB1 hB2 hB3;obtain⟨n₀,hn0⟩:=nm (W0.heap.size);have HN6:=lh hN6;obtain⟨qa,hqa⟩:=nm (q.ma);have HQA:=lh hqa;rw[hqa]at HX HCV⊢;clear hqa hN6;obtain⟨⟨a0,a1,a2,a3⟩,⟨c0,c1,c2,c3,c4,c5,c6⟩,-,-,-⟩:=HX.out _ br;rw[HQA.out]at c4
 go_upto_region 5 with (go_at_call 107;go_fit (HCV.out _ (HX.out _ br).2.2.1 (HX.out _ br).2.2.2.1 (HX.out _ br).2.2.2.2);rintro e w1 ⟨rfl,hb1⟩;rw[hn0]at hb1)
 have HXX:Hid (∀w',Below n₀ W0 w'→Au w' B1 h∧Cx w' B2 q∧Ax w' h∧Ei w'.heap.size w' qa q.moves∧Bl w'.heap.size w' ta t):=lh fun w' z=>by rw[←hn0]at z;exact HX.out w' z
 have HWW:Hid (∀w',Below n₀ W0 w'→Below w.heap.size w w'):=lh fun w' z=>by rw[←hn0]at z;exact HW.out w' z
 have HNN:Hid (∀w',Below n₀ W0 w'→Hj w' B3):=lh fun w' z=>by rw[←hn0]at z;exact HN6.out.carry z
 have hn1:n₀≤w1.heap.size:=by have:=hb1.size;omega
 clear a0 a1 a2 a3 c0 c1 c2 c3 c4 c5 c6 HX HW HCV HN6 hn0;have hb2:=hb1.alloc hn1 (.cells #[.int .i64 0,.int .i64 1] 49);have hF2:=FI.put w1 0 1 49;have hn2:n₀≤(w1.alloc (.cells #[.int .i64 0,.int .i64 1] 49)).heap.size:=by simp;omega
 generalize w1.alloc (.cells #[.int .i64 0,.int .i64 1] 49)=W2 at *;obtain⟨B9,hB9⟩:=nm (w1.heap.size);rw[hB9]at hF2 hn1⊢;clear hb1 hB9;obtain⟨-,⟨c0,c1,c2,c3,c4,c5,c6⟩,-,-,-⟩:=HXX.out _ hb2;rw[HQA.out]at c4
 go_upto_region 6 with (fail)
 clear c0 c1 c2 c3 c4 c5 c6
 go_loopw [11,12,13,14,15,16,29] (fun _ _ _ _ _ _ iv wr=>∃(k:Nat) (b:Int×Int),iv=.int .i64 k∧k≤q.moves.length∧Below n₀ W0 wr∧n₀≤wr.heap.size∧Hid (b=Gk h t (q.moves.take k))∧Hid (FI wr B9 b.1 b.2)) (fun _ _ _ _ _ _ iv _=>q.moves.length-(intOf iv).toNat)
 case atStart=>exact⟨0,(0,1),rfl,nz,hb2,hn2,lh (by rw[List.take_zero];rfl),lh hF2⟩
 case round=>
  clear hb2 hF2 hn2;obtain⟨k,b,rfl,hk,hB,hnw,HBK,HF⟩:=hrel
  by_cases hlt:k<q.moves.length
  ·obtain⟨⟨a0,a1,a2,a3⟩,-,hhi,hmv,hnm⟩:=HXX.out _ hB
   obtain⟨mb,mo,hma,hmb,hmx⟩:=hmv (by omega);subst hma;obtain⟨d0,d1,d2,d3,d4⟩:=hmx k hlt;have HSN:=lh (Qv h t q.moves hlt);have HTK:Hid (Ux b):=lh (by rw[HBK.out];exact Wf HB.out HTO.out HOK.out k (by omega));have HMG:=lh (Rj HB.out HTO.out (HOK.out k hlt));have HMW:=Lp HB.out HTO.out (HOK.out k hlt);have hf0:=(HOK.out k hlt).2.1;have hf1:=(Jb hf0).1;have hft:(Cv h.sets (mg q.moves k).name).toNat<t.length:=by have:=HTO.out.1;omega
   obtain⟨tb,tf,hta,htb,htx⟩:=hnm (by omega);subst hta;obtain⟨x,hx⟩:=nm (mg q.moves k);rw[hx]at d0 d1 d2 d3 d4 HSN HMG HMW hf0 hf1 hft;rw[←HBK.out]at HSN;obtain⟨f,hf⟩:=nm (Cv h.sets x.name);have HFN:=lh hf;rw[hf]at HMW hf0 hf1 hft;have hf2:f<(t.length:Int):=by omega
   obtain⟨v,hv⟩:=nm (ig t f.toNat);have HDV:Hid (Lo h t x=if x.to-v<0 then 0-(x.to-v)else x.to-v):=lh (by unfold Lo;rw[hf,hv]);rw[hv]at HMW;obtain⟨D,hD⟩:=nm (x.to-v);rw[hD]at HDV;have hsub:IntKind.i64.wrap (x.to-v)=D:=by rw[←hD];simp only[IntKind.wrap_i64];omega
   have hneg:IntKind.i64.wrap (-D)=-D:=by simp only[IntKind.wrap_i64];omega
   obtain⟨dd,hdd⟩:=nm (Lo h t x);rw[hdd]at HSN HMG HDV;have HTM:=lh fun (w':World)=>AQd dd x (Lb dd x) (fun _=>Re HMG.out) w';rw[HMG.out,show Ig dd x (Lb dd x)=tmF dd x from rfl]at HTM;have HTP:=lh (AOi HMG.out);have HMX:Hid (max D (-D)=dd):=lh (by rw[HDV.out];split<;>omega);obtain⟨p,hp⟩:=nm (tmF dd x);rw[hp]at HSN HTM HTP;have HCM:=lh fun (w':World)=>AIw p.1 p.2 b.1 b.2 HTP.out.ok HTK.out.ok w';clear hdd hp;clear hhi hmv hnm hmx hx hf HMW hD;have HSETC:=lh fun (w':World) (z:HouseIn0 w' h)=>Xs h x.name w' z HSL.out;have hBX:=(hB.alloc hnw (.cells #[.string x.name,.int .i64 x.to,.int .i64 x.spd,.int .i64 x.rise,.int .i64 x.fall] 94));have HAX:Hid (Jx (wr.alloc (.cells #[.string x.name,.int .i64 x.to,.int .i64 x.spd,.int .i64 x.rise,.int .i64 x.fall] 94)) wr.heap.size x):=lh (Jx.new wr x _);have HF3:=lh (HF.out.carry (Aa wr (.cells #[.string x.name,.int .i64 x.to,.int .i64 x.spd,.int .i64 x.rise,.int .i64 x.fall] 94)));have hnx:n₀≤(wr.alloc (.cells #[.string x.name,.int .i64 x.to,.int .i64 x.spd,.int .i64 x.rise,.int .i64 x.fall] 94)).heap.size:=by simp;omega
   clear HF hB
   go_upto_region 8 with (fail)
   generalize wr.alloc (.cells #[.string x.name,.int .i64 x.to,.int .i64 x.spd,.int .i64 x.rise,.int .i64 x.fall] 94)=W3 at *;obtain⟨B4,hB4⟩:=nm (wr.heap.size);rw[hB4]at HAX⊢;clear hB4 d0 d1 d2 d3 d4 a0 a1 a2 a3 hnw;have hn6:n₀≤W3.drew.heap.size:=hnx;have F6:=HF3.out.carry (br).drew;have x0:∀w',Gq n₀ W0 B4 x w'→w'.cell? ⟨B1,0,none⟩=some (.string h.name):=fun w' z=>(HXX.out w' z.old).1.1;have x1:∀w',Gq n₀ W0 B4 x w'→w'.cell? ⟨B1,1,none⟩=some (.int .i64 h.height):=fun w' z=>(HXX.out w' z.old).1.2.1;have x2:∀w',Gq n₀ W0 B4 x w'→w'.cell? ⟨B1,2,none⟩=some (.slice h.sa h.sets.length h.sc):=fun w' z=>(HXX.out w' z.old).1.2.2.1;have x3:∀w',Gq n₀ W0 B4 x w'→w'.cell? ⟨B1,3,none⟩=some (.slice h.ra h.roofs.length h.rc):=fun w' z=>(HXX.out w' z.old).1.2.2.2;have y0:∀w',Gq n₀ W0 B4 x w'→w'.cell? ⟨B4,0,none⟩=some (.string x.name):=fun w' z=>z.mv.1;have y1:∀w',Gq n₀ W0 B4 x w'→w'.cell? ⟨B4,1,none⟩=some (.int .i64 x.to):=fun w' z=>z.mv.2.1
   have z0:∀w',Gq n₀ W0 B4 x w'→w'.cell? ⟨tb,tf+f.toNat,none⟩=some (.int .i64 v):=fun w' z=>by
    obtain⟨tb',tf',e,_,ex⟩:=(HXX.out w' z.old).2.2.2.2 (by omega)
    cases e
    rw[←hv];exact ex _ hft
   clear hv htx;refine wp_region_held_drew (S:=(Gq n₀ W0 B4 x)) (by kernel_rfl) (⟨hBX.drew,HAX.out.carry (br).drew⟩) (fun hHeld=>?_);refine tk 0 ?_;refine tk 1 ?_;refine tk 2 ?_;refine tk 3 ?_;refine tk 4 ?_;refine tk 5 ?_;refine r1 6 (fun K hK=>?_)
   try simp only[Ba,Bc,Az]
   go_simp
   (go_at_call 98;go_split_ands;go_fit (HSETC.out _ (HXX.out _ hHeld.old).2.2.1.toHouseIn0);rintro e w6 ⟨rfl,hb6⟩;rw[HFN.out];have how:n₀≤w6.heap.size:=nt hn6 hb6.size;have hHeld6:=hHeld.old.trans (hb6.mono hn6);have hMv6:=hHeld.mv.carry hb6;have F7:=F6.carry hb6)
   go_wp2_with fail
   refine hK.out _ _ (⟨hHeld6,hMv6⟩) (fun hHeld=>?_);clear hK K
   try simp only[Act.put,Co,Cp,Cn,Ba,Bc,Az]
   refine tk 7 ?_;refine tk 8 ?_;refine tk 9 ?_;refine tk 10 ?_;refine wpAnyH_done (by kernel_rfl) ?_ _;clear x0 x1 x2 x3 y0 y1 z0 hHeld hsub;obtain⟨m0,m1,m2,m3,m4⟩:=hMv6;have hmax:=HMX.out
   go_upto_region 10 with (first
    | (go_at_call 108;go_fit (HTM.out _);rintro e w7 ⟨rfl,hb7⟩;have hB7:=hHeld6.trans (hb7.mono how);have hn7:n₀≤w7.heap.size:=nt how hb7.size;have F8:=F7.carry hb7))
   clear hmax hneg m0 m1 m2 m3 m4;have hB8:=hB7.alloc hn7 (.cells #[.int .i64 p.1,.int .i64 p.2] 49);have hn8:n₀≤(w7.alloc (.cells #[.int .i64 p.1,.int .i64 p.2] 49)).heap.size:=by simp;omega
   have F9:=F8.carry (Aa w7 (.cells #[.int .i64 p.1,.int .i64 p.2] 49));have P9:=FI.put w7 p.1 p.2 49;generalize w7.alloc (.cells #[.int .i64 p.1,.int .i64 p.2] 49)=W8 at *;obtain⟨B13,hB13⟩:=nm (w7.heap.size);rw[hB13]at P9 hn7⊢;have hne:B13≠B9:=by rw[←hB13];have:=F8.2.2.2.2;omega
   clear hB13 hb7 F8 F7 hb6;obtain⟨q0,q1,q2,q3,q4⟩:=P9;obtain⟨s0,s1,s2,s3,s4⟩:=F9
   by_cases hcc:0<Iy (p.1*b.2) (b.1*p.2)
   ·have HMF:Hid (Nw p b=p):=lh (by unfold Nw;rw[if_pos hcc])
    have hdc:decide (0<Iy (p.1*b.2) (b.1*p.2))=true:=dT hcc
    go_wp2_with (go_at_call 109;go_fit (HCM.out _);rintro e w9 ⟨rfl,hb9⟩;have hB9:=hB8.trans (hb9.mono hn8);have hn9:n₀≤w9.heap.size:=nt hn8 hb9.size;obtain⟨r0,r1,r2,r3,r4⟩:=FI.carry ⟨q0,q1,q2,q3,q4⟩ hb9;have F10:=lh (show FI w9 B9 b.1 b.2 from FI.carry ⟨s0,s1,s2,s3,s4⟩ hb9);obtain⟨v0,v1,v2,v3,v4⟩:=F10.out)
    have F11:=lh (F10.out.set p.1 p.2);have hs11:n₀≤((w9.setCell ⟨B9,0,none⟩ (.int .i64 p.1)).setCell ⟨B9,1,none⟩ (.int .i64 p.2)).heap.size:=by simp;omega
    have hB11:=(hB9.setCell (show n₀≤(⟨B9,0,none⟩:Addr).block from hn1) (.int .i64 p.1)).setCell (show n₀≤(⟨B9,1,none⟩:Addr).block from hn1) (.int .i64 p.2);go_roundw
    case rel=>exact⟨k+1,p,by go_num,by omega,hB11,hs11,lh (by rw[HSN.out,HMF.out]),F11⟩
    case measure=>simp[intOf];omega
   ·have HMF:Hid (Nw p b=b):=lh (by unfold Nw;rw[if_neg hcc])
    have hdc:decide (0<Iy (p.1*b.2) (b.1*p.2))=false:=dF hcc
    go_wp2_with (go_at_call 109;go_fit (HCM.out _);rintro e w9 ⟨rfl,hb9⟩;have hB9:=hB8.trans (hb9.mono hn8);have hn9:n₀≤w9.heap.size:=nt hn8 hb9.size;have F10:=FI.carry ⟨s0,s1,s2,s3,s4⟩ hb9)
    go_roundw
    case rel=>exact⟨k+1,b,by go_num,by omega,hB9,hn9,lh (by rw[HSN.out,HMF.out]),lh F10⟩
    case measure=>simp[intOf];omega
  ·obtain rfl:k=q.moves.length:=by omega
   rw[List.take_length]at HBK;obtain⟨s0,s1,s2,s3,s4⟩:=HF.out;obtain⟨t0,t1,t2,t3,t4⟩:=HNN.out _ hB
   go_wp2_with fail
   have hr:=Ag (v0:=.int .i64 b.1) (v1:=.int .i64 b.2) t0 t1;refine bodyPost_ret (v:=.tuple #[.agg #[.int .i64 b.1,.int .i64 b.2],.int .i64 0]) (by simp[results,Tryz.results74,go_sem,hr.1,hr.2]) rfl ⟨by rw[HBK.out],?_⟩;exact((HWW.out _ hB).setCell (show w.heap.size≤(⟨B3,0,none⟩:Addr).block from HB3.out) _).setCell (show w.heap.size≤(⟨B3,1,none⟩:Addr).block from HB3.out) _
end
section
open Go.RowKit Go.Shelf
theorem ASb{wr W W':World}(h:Below wr.heap.size wr W)(hb:Below W.heap.size W W'):Below wr.heap.size wr W':=h.trans (hb.mono h.size)
theorem Xj(L:List An)(s:ByteArray)(h:0≤Cj L s):(Cj L s).toNat<L.length∧(cg L (Cj L s).toNat).name=s∧Cj L s=((Cj L s).toNat:Int):=by
 rcases Fw L (fun r=>decide (r.name=s))with ⟨e,_⟩ | ⟨k,hk,e,h1,_⟩
 ·exact absurd h (by show ¬0≤Gu L _;rw[e];decide)
 ·have e':Cj L s=k:=e
  rw[e',Int.toNat_natCast];exact⟨hk,of_decide_eq_true h1,rfl⟩
/-! ### Slices of bool -/

def btg(L:List (Bool))(i:Nat):Bool:=(L[i]?).getD false
def Kb(L:List (Bool)):List Value:=L.flatMap fun r=>[.bool r]
theorem AOl(L:List (Bool))(i:Nat)(hi:i<L.length):(Kb L)[i]? =some (.bool (btg L i)):=by
 induction L generalizing i with
 | nil=>simp at hi
 | cons x r ih=>
  match i with
  | 0=>exact rfl
  | i+1=>
   have:=ih i (by simpa using hi);have e:Kb (x::r)=.bool x::Kb r:=rfl;rw[e,show(i+1)=i+1 by omega]
   simpa[btg]using this
theorem AFu(L:List (Bool))(r:Bool):Kb (L++[r])=Kb L++[.bool r]:=by simp[Kb]
theorem APa:(Tryz.prog.info? 9).map (fun i=>(i.zero,i.size,i.bytes))=some (some (.string ⟨#[]⟩),1,16):=by kernel_rfl

theorem Wj{ops:Array Oper}{rest:List Oper}{o:Oper}{a:Act}{w:World}{Q:Exit→Act→World→Prop}(hgd:o.guard=none)(s x:Operand)
  (ho:o.op=.call {callee:=.builtin .append,args:=#[s,x],argTypes:=#[72,72]})
  (base:Nat) (v:Value) (L:List (ByteArray)) (hs:a.eval s=v) (hown:w.ownsRow base 9 1 v L.length (Lu L))
  (bl:Nat) (y:ByteArray) (hx:a.eval x=.slice (some ⟨bl,0,none⟩) 1 1) (hc:w.cell? ⟨bl,0,none⟩=some (.string y)) (hl:L.length≤1000000) (hbase:base≤w.heap.size)
  (h:∀v' w',w'.ownsRow base 9 1 v' (L++[y]).length (Lu (L++[y]))→w.grownBy w' v.ownBlock→wpList Tryz.prog ops Q rest (a.put o.dst v') w'):wpList Tryz.prog ops Q (o::rest) a w:=by
 obtain⟨i0,hi,hz0,hz1,hz2⟩:=info_parts APa;refine wpList_append_own _ hgd s x 72 ho base 9 i0 _ 1 16 Tryz.underlying72 hi hz0 hz1 hz2 rfl (by decide) v L.length (Lu L) hs hown ⟨bl,0,none⟩ 1 1 [.string y] hx rfl ?_ (by simp[Value.oneCell']) (by unfold maxLen;omega) (by omega) hbase ?_
 ·have c0:=hc
  intro j u hj;rw[Go.WideShapes.add_plain,Nat.zero_add]
  match j,hj with
  | 0,hj=>simp at hj;subst hj;exact c0
 ·intro v' w' h1 h2 _
  refine h v' w' ?_ h2;rw[AGx,List.length_append];exact h1
def AWd(S:List Int)(a b:Nat):Nat:=if ig S b<ig S a then a else b
theorem Rg{L:List An}{A:List (ByteArray×ByteArray)}(h:Da L A=true):L.length≤60∧A.length≤1000:=by
 unfold Da at h;simp only[Bool.and_eq_true,decide_eq_true_eq]at h;exact h.1.1

theorem Vq(S:List Int)(p:Int→Bool)(b:Bool)(h:S.any p=b):Hid (Vi S p=b):=lh (by rw[AGb,h])
def Nz(L:List An)(k:Nat):Int:=if(cg L k).link=1 then -1 else Cj L (cg L k).after
def Fc(L:List An)(k:Nat):List Int:=(List.range k).map (Nz L)
theorem Se(L:List An)(k:Nat):Fc L (k+1)=Fc L k++[Nz L k]:=by unfold Fc;rw[List.range_succ,List.map_append];rfl
theorem Un(L:List An)(k:Nat):(Fc L k).length=k:=by simp[Fc]
def Ci(L:List An):List Int:=Fc L L.length
theorem Kq(L:List An):(Ci L).length=L.length:=Un L _

theorem AFr(ca pa:Option Addr)(L:List An)(A:List (ByteArray×ByteArray))(cc pc:Nat)(w:World)(hlen:L.length≤1100)(hI:Gs w.heap.size w ca L):
  Calls Tryz.prog 161 #[.agg #[.slice ca L.length cc,.slice pa A.length pc]] w fun e w'=>Hid (∃v,e=.returned v∧w'.ownsRow w.heap.size 3 1 v (Ci L).length (Ap (Ci L))∧Below w.heap.size w w'):=by
 have hb0:Below w.heap.size w (w.alloc (.cells #[.slice ca L.length cc,.slice pa A.length pc] 29)):=Aa w _;have HI:=lh (hI.grow hb0);clear hI;have HX:Hid (∀wr,Below (w.alloc (.cells #[.slice ca L.length cc,.slice pa A.length pc] 29)).heap.size (w.alloc (.cells #[.slice ca L.length cc,.slice pa A.length pc] 29)) wr→Below w.heap.size w wr∧wr.cell? ⟨w.heap.size,0,none⟩=some (.slice ca L.length cc)∧wr.cell? ⟨w.heap.size,1,none⟩=some (.slice pa A.length pc)):=lh fun wr h=>⟨Dh _ h,On h⟩;have hz0:w.heap.size≤(w.alloc (.cells #[.slice ca L.length cc,.slice pa A.length pc] 29)).heap.size:=hb0.size;clear hb0
 go_enter Tryz.func161,Tryz.ntmps161
 go_wp2
 generalize w.alloc (.cells #[.slice ca L.length cc,.slice pa A.length pc] 29)=W0 at *
 go_loopw [3,10] (fun v i wr=>∃k:Nat,k≤L.length∧i=.int .i64 k∧Below W0.heap.size W0 wr∧Hid (wr.ownsRow W0.heap.size 3 1 v (Fc L k).length (Ap (Fc L k)))) (fun _ i _=>L.length-(intOf i).toNat)
 case atStart=>exact⟨0,nz,rfl,br,lh (World.ownsRow_nil _ _ _ _)⟩
 case round=>
  obtain⟨k,hk,rfl,hB,HR⟩:=hrel;obtain⟨_,z0,z1⟩:=HX.out _ hB;have hbz:w.heap.size<wr.heap.size:=wl z0;have HIR:=lh (HI.out.grow hB);have hbs:=hB.size
  by_cases hlt:k<L.length
  ·obtain⟨b,off,rfl,hbl,hc⟩:=HIR.out (by omega)
   obtain⟨d0,d1,d2,d3,d4,d5,d6⟩:=hc k hlt;have HBA:=lh (Aa wr (.cells #[.string (cg L k).name,.string (cg L k).after,.int .i64 (cg L k).link,.int .i64 (cg L k).delay,.slice (cg L k).ma (cg L k).moves.length (cg L k).mc,.int .i64 (cg L k).crew,.int .i64 (cg L k).power] 86));have HL:Hid ((Fc L k).length≤1000000):=lh (by rw[Un];omega);clear hc
   by_cases l1:(cg L k).link=1
   ·have m1:((cg L k).link !=1)=false:=bne_eq_false_iff_eq.2 l1
    have HH:Hid (Fc L (k+1)=Fc L k++[-1]):=lh (by rw[Se];unfold Nz;rw[if_pos l1]);clear l1
    go_wp2_with (at_builtin;refine Fe rfl _ _ rfl W0.heap.size _ (Fc L k) rfl ((HR.out.alloc _).alloc _) _ (-1) rfl (by simp) HL.out (by simp;omega) ?_;intro v1 w2 hown2 hg2;have hB2:=Hb ((HR.out.alloc _).alloc _) hg2 ((hB.alloc hbs _).alloc (by simp;omega) _) (by simp;omega) nr)
    go_roundw
    case rel=>exact⟨k+1,by omega,by go_num,hB2,lh (by rw[HH.out];exact hown2)⟩
    case measure=>simp[intOf];omega
   ·have m1:((cg L k).link !=1)=true:=bne_iff_ne.2 l1
    have HH:Hid (Fc L (k+1)=Fc L k++[Cj L (cg L k).after]):=lh (by rw[Se];unfold Nz;rw[if_neg l1]);clear l1
    go_wp2_with (first
     | (go_at_call 116;go_fit (Dc _ L _ _ (cg L k).after _ hlen (HIR.out.grow HBA.out));rintro e w1 ⟨rfl,hb1⟩;have hB1:=HBA.out.trans (hb1.mono HBA.out.size);have hz1:=hB1.size;have HR1:=lh (Ac HR.out hB1))
     | (at_builtin;refine Fe rfl _ _ rfl W0.heap.size _ (Fc L k) rfl (HR1.out.alloc _) _ (Cj L (cg L k).after) rfl (by simp) HL.out (by simp;omega) ?_;intro v1 w2 hown2 hg2;have hB2:=Hb (HR1.out.alloc _) hg2 ((hB.trans (hB1.mono hbs)).alloc (by omega) _) (by simp;omega) nr))
    go_roundw
    case rel=>exact⟨k+1,by omega,by go_num,hB2,lh (by rw[HH.out];exact hown2)⟩
    case measure=>simp[intOf];omega
  ·obtain rfl:k=L.length:=by omega
   go_wp2
   go_ret;exact lh ⟨_,rfl,Bn HR.out hz0,(HX.out _ hB).1⟩
end
end Go.Proofs.YtebofaenlhhkaaaGreat
