import Derived.Test.YtebofaenlhhkaaaGreatY33
namespace Go.Proofs.YtebofaenlhhkaaaGreat
set_option maxRecDepth 100000
set_option maxHeartbeats 80000000
section
open Go.RowKit Go.Shelf
attribute [local go_sem] Oper.semAt_some
structure Th(w:World)(h:Ae)(s:Aq)(ta:Option Addr)(P:List Ew)(sa:Option Addr)(S:List Int):Prop where
 hh:Ax w h
 hs:Bg w s
 hT:Fi w ta h s.cues P
 hS:Bl w.heap.size w sa S
theorem Th.grow{w w':World}{h:Ae}{s:Aq}{ta:Option Addr}{P:List Ew}{sa:Option Addr}{S:List Int}(x:Th w h s ta P sa S)(hb:Below w.heap.size w w'):Th w' h s ta P sa S:=⟨x.hh.grow hb,x.hs.grow hb,x.hT.grow hb,x.hS.grow hb⟩
theorem Pa(w:World)(s:Aq):Bo (w.alloc (Uo s)) w.heap.size s:=by unfold Bo;simp
theorem ATx{w:World}{h:Ae}{s:Aq}{ta:Option Addr}{P:List Ew}{sa:Option Addr}{S:List Int}(tc:Nat)(na:Option Addr)(N:List Int)(sc nc:Nat)(x:Th w h s ta P sa S):
  ∃W0,(((w.alloc (.cells #[.slice ta P.length tc,.slice sa S.length sc,.slice na N.length nc] 109)).alloc (Ex h)).alloc (Uo s))=W0∧Hid (∀w',Below W0.heap.size W0 w'→PC w' w.heap.size (.slice ta P.length tc) (.slice sa S.length sc) (.slice na N.length nc)∧Au w' (w.heap.size+1) h∧Bo w' (w.heap.size+1+1) s∧Th w' h s ta P sa S∧Below w.heap.size w w'):=by
 have hb:Below w.heap.size w (((w.alloc (.cells #[.slice ta P.length tc,.slice sa S.length sc,.slice na N.length nc] 109)).alloc (Ex h)).alloc (Uo s)):=((Aa w _).alloc (by simp) _).alloc (by simp;omega) _;have hH:=(Au.new (w.alloc (.cells #[.slice ta P.length tc,.slice sa S.length sc,.slice na N.length nc] 109)) h 25).carry (Aa _ (Uo s));rw[show(w.alloc (.cells #[.slice ta P.length tc,.slice sa S.length sc,.slice na N.length nc] 109)).heap.size=w.heap.size+1 by simp]at hH;have hS':=Pa ((w.alloc (.cells #[.slice ta P.length tc,.slice sa S.length sc,.slice na N.length nc] 109)).alloc (Ex h)) s;rw[show((w.alloc (.cells #[.slice ta P.length tc,.slice sa S.length sc,.slice na N.length nc] 109)).alloc (Ex h)).heap.size=w.heap.size+1+1 by simp]at hS';exact⟨_,rfl,lh fun w' z=>⟨(((PC.put w (.slice ta P.length tc) (.slice sa S.length sc) (.slice na N.length nc) 109).carry (Aa _ _)).carry (Aa _ _)).carry z,hH.carry z,hS'.carry z,(x.grow hb).grow z,hb.trans (z.mono hb.size)⟩⟩
def APe(w w':World)(v:Value)(r:List Pc×Int):Prop:=(r.2=0→w'.ownsRow w.heap.size 122 8 v r.1.length (Ce r.1))∧(r.2≠0→v=.slice none 0 0)
theorem Zb(h:Ae)(s:Aq)(ta:Option Addr)(P:List Ew)(tc:Nat)(sa na:Option Addr)(S N:List Int)(sc nc k:Nat)(w:World)(hx:Th w h s ta P sa S)(hSl:S.length=s.cues.length)(hok:Hv h s)(hk:k<h.sets.length)(hb1:∀i,i<s.cues.length→0≤ig S i∧ig S i≤1099511627776):
  Calls Tryz.prog 48 #[.agg #[.slice ta P.length tc,.slice sa S.length sc,.slice na N.length nc],.agg #[.string h.name,.int .i64 h.height,.slice h.sa h.sets.length h.sc,.slice h.ra h.roofs.length h.rc],.agg #[.slice s.ca s.cues.length s.cc,.slice s.pa s.pairs.length s.pc],.int .i64 k] w fun e w'=>Hid (∃v,e=.returned (.tuple #[v,.int .i64 (He h s.cues S k).2])∧APe w w' v (He h s.cues S k))∧Below w.heap.size w w':=by
 have hcl:=hok.cues;have hcc:s.cues.length≤s.cc:=hx.hs.ccap;have hsc:h.sets.length≤h.sc:=hx.hh.scap;have HML:=lh hx.hs.mlen;have HCP:=lh hx.hs.mcap;have HSL:=lh hSl;have HOK:=lh hok;have HB1:=lh hb1;have HPL:=lh hx.hT.rows.len;have HTR:=lh hx.hT.rows;obtain⟨W0,hW0,HX⟩:=ATx tc na N sc nc hx;have k0:0≤(k:Int):=by omega
 have k1:(k:Int)<(h.sets.length:Int):=by omega
 obtain⟨Hh,hHh⟩:=nm ((hg h.sets k).high);obtain⟨nme,hnm⟩:=nm ((hg h.sets k).name);obtain⟨ca,hca⟩:=nm (s.ca);have HCA:=lh hca;obtain⟨hb,ho,hha,hhl,hhc⟩:=(HX.out _ br).2.2.2.1.hh.sets (by omega);have HHC:Hid (W0.cell? ⟨hb,ho+k*13,none⟩=some (.string nme)∧W0.cell? ⟨hb,ho+k*13+3,none⟩=some (.int .i64 Hh)):=lh (by obtain⟨e0,_,_,e3,_⟩:=hhc k hk;rw[hnm]at e0;rw[hHh]at e3;exact⟨e0,e3⟩);have HHA:=lh hha;have HHL:=lh hhl;have HNM:=lh hnm;have HP0:Hid (Cq h s.cues S k 0=([⟨0,1,Hh,1,0,1,0,1⟩],0)):=lh (by rw[←hHh];rfl);clear hx hSl hok hb1 hHh hnm hca hha hhl hhc
 go_enter Tryz.func48,Tryz.ntmps48
 go_upto_region 1 with (fail)
 try simp only[hW0]
 clear hW0
 go_upto_region 2 with (go_at_call 76;go_fit (Gt 0 _);rintro e w1 ⟨rfl,hb1⟩)
 have hbz:=hb1.alloc hb1.size (.cells #[.int .i64 0,.int .i64 1] 49);have hfz:=FI.put w1 0 1 49;clear hb1;obtain⟨Bz,hBz⟩:=nm (w1.heap.size);obtain⟨W1,hW1⟩:=nm (w1.alloc (.cells #[.int .i64 0,.int .i64 1] 49));rw[hW1]at hbz hfz;simp only[hW1];rw[hBz]at hfz;simp only[hBz];clear hW1 hBz;have HB1':Hid (Below W0.heap.size W0 W1):=lh hbz;have HX1:Hid (∀w',Below W1.heap.size W1 w'→Below W0.heap.size W0 w'):=lh fun w' z=>hbz.trans (z.mono hbz.size)
 go_cut [11] (fun v wx=>Below W1.heap.size W1 wx∧Hid (wx.ownsRow W1.heap.size 122 8 v 1 (Ce [⟨0,1,Hh,1,0,1,0,1⟩])))
 case first=>
  have z0:∀w',Below W1.heap.size W1 w'→w'.cell? ⟨Bz,0,none⟩=some (.int .i64 0):=fun w' z=>(hfz.carry z).1;have z1:∀w',Below W1.heap.size W1 w'→w'.cell? ⟨Bz,1,none⟩=some (.int .i64 1):=fun w' z=>(hfz.carry z).2.1;have e2:∀w',Below W1.heap.size W1 w'→w'.cell? ⟨w.heap.size+1,2,none⟩=some (.slice (some ⟨hb,ho,none⟩) h.sets.length h.sc):=fun w' z=>by have:=(HX.out _ (HX1.out _ z)).2.1.2.2.1;rwa [HHA.out]at this
  have e3:∀w',Below W1.heap.size W1 w'→w'.cell? ⟨hb,ho+k*13+3,none⟩=some (.int .i64 Hh):=fun w' z=>((HX1.out _ z).cell (p:=⟨hb,_,none⟩) HHL.out).trans HHC.out.2;refine wp_region_held_drew (S:=fun w'=>Below W1.heap.size W1 w') (by kernel_rfl) (br).drew (fun hHeld=>?_);refine tk 0 ?_;refine tk 1 ?_;refine tk 2 ?_;refine tk 3 ?_;refine tk 4 ?_;refine tk 5 ?_;refine tk 6 ?_;refine tk 8 ?_;refine tk 9 ?_;refine cl 7 (Gt Hh _) (fun _ hb=>hHeld.trans (hb.mono hHeld.size)) (fun y1 hb2 hH1=>?_);refine tk 10 ?_;refine ry [11] (vl 11 (w1:=y1.alloc (.cells #[.int .i64 0,.int .i64 1,.int .i64 Hh,.int .i64 1,.int .i64 0,.int .i64 1,.int .i64 0,.int .i64 1] 122)) (hH1.alloc hH1.size _) (fun hH2=>?_) nl);refine tk 12 ?_;refine dn ?_
  go_wp2_with fail
  go_meet
  have hol:=World.ownsRow_lit (base:=W1.heap.size) (e:=122) (size:=8) y1 #[.int .i64 0,.int .i64 1,.int .i64 Hh,.int .i64 1,.int .i64 0,.int .i64 1,.int .i64 0,.int .i64 1] 1 hH1.size (by unfold maxLen;omega) rfl;exact⟨hH2,lh hol⟩
 case rest=>
 obtain⟨hB,HO⟩:=hcut;clear hbz hfz;have hw0:=HX1.out _ hB;obtain⟨-,⟨a0,a1,a2,a3⟩,⟨s0,s1⟩,-⟩:=HX.out _ hw0;rw[HCA.out]at s0
 go_upto_region 4 with (fail)
 clear a0 a1 a2 a3 s0 s1 hw0
 go_loopw [11,39] (fun v11 iv wr=>∃n:Nat,iv=.int .i64 n∧n≤s.cues.length∧Below W1.heap.size W1 wr∧Hid ((Cq h s.cues S k n).2=0∧wr.ownsRow W1.heap.size 122 8 v11 (Cq h s.cues S k n).1.length (Ce (Cq h s.cues S k n).1))) (fun _ iv _=>s.cues.length-(intOf iv).toNat)
 case atStart=>exact⟨0,rfl,nz,hB,lh (by rw[HP0.out];exact⟨rfl,HO.out⟩)⟩
 case round=>
  clear hB HO;obtain⟨n,rfl,hn,hB,HO⟩:=hrel;obtain⟨wi,rfl⟩:∃wo:World,wo=wr:=⟨_,rfl⟩
  by_cases hlt:n<s.cues.length
  case neg=>
   obtain rfl:n=s.cues.length:=by omega
   have hws:w.heap.size≤W1.heap.size:=(HX.out _ (HX1.out _ br)).2.2.2.2.size;have hwb:=(HX.out _ (HX1.out _ hB)).2.2.2.2;obtain⟨xa,xc,rfl,hxl,hxm,-,-⟩:=Ia HO.out.2;have HP:=lh HO.out.1;obtain⟨O,hO⟩:=nm ((Cq h s.cues S k s.cues.length).1);rw[hO]at HO hxl;simp only[hO];have HOO:=lh hO;clear hO;have hol:O.length≤1000:=by rw[←HOO.out];have:=(Lc h s.cues S k _ HP.out).2;omega
   by_cases hL:(200:Int)<(O.length:Int)
   ·have HE:Hid (He h s.cues S k=([],4)):=lh (AFt HP.out (by rw[HOO.out];omega))
    go_wp2_with fail
    go_ret2
    exact⟨lh ⟨_,by first | rfl | (rw[HE.out];rfl) | rw[HE.out],by rw[HE.out];exact⟨fun e=>absurd e (by decide),fun _=>rfl⟩⟩,hwb⟩
   ·have HE:Hid (He h s.cues S k=(O,0)):=lh (by rw[ACz HP.out (by rw[HOO.out];omega),←HOO.out,←HP.out])
    go_wp2_with fail
    go_ret2
    exact⟨lh ⟨_,by first | rfl | (rw[HE.out];rfl) | rw[HE.out],by rw[HE.out];exact⟨fun _=>Bn HO.out.2 hws,fun e=>absurd rfl e⟩⟩,hwb⟩
  obtain⟨xb,xo,hxa,hxb,hxc⟩:=(HX.out _ (HX1.out _ hB)).2.2.2.1.hs.lies (by omega);rw[HCA.out]at hxa;subst hxa;obtain⟨c0,c1,c2,c3,c4,c5,c6⟩:=hxc n hlt;obtain⟨q,hq⟩:=nm (cg s.cues n);rw[hq]at c0 c1 c2 c3 c4 c5 c6;have HQ:=lh hq;have i0:0≤(n:Int):=by omega
  have i1:(n:Int)<(s.cues.length:Int):=by omega
  have iw:IntKind.i64.wrap ((n:Int)+1)=(n:Int)+1:=IntWalk.i64_in _ (by omega);have hbn:=Aa wi (Eu q);have hqn:=Cx.new wi q 86 _ rfl;clear hq hxc
  go_upto_region 6 with (fail)
  clear c0 c1 c2 c3 c4 c5 c6;obtain⟨Bq,hBq⟩:=nm (wi.heap.size);obtain⟨Wq,hWq⟩:=nm (wi.alloc (Eu q));rw[hWq]at hbn hqn;simp only[hWq];rw[hBq]at hqn;simp only[hBq];have hle:=hB.size;have HBQ:Hid (Below W1.heap.size W1 Wq):=lh (hB.trans (hbn.mono hle));have HOQ:=lh (Ac HO.out.2 hbn);have HP:=lh HO.out.1;have HQA:Hid (∀w',Below Wq.heap.size Wq w'→Cx w' Bq q):=lh fun w' z=>hqn.carry z;have HXQ:Hid (∀w',Below Wq.heap.size Wq w'→Below W0.heap.size W0 w'):=lh fun w' z=>HX1.out _ (HBQ.out.trans (z.mono HBQ.out.size));obtain⟨O,hO⟩:=nm ((Cq h s.cues S k n).1);rw[hO]at HOQ;have HOO:=lh hO;obtain⟨m,hm⟩:=nm (Oo q.moves nme);obtain⟨b,hbb⟩:=nm (mvB q.moves nme);have HM:=lh hm;have HBB:=lh hbb;clear hWq hBq hbn hqn hB HO hO hle
  go_cut [14,15] (fun v14 v15 wx=>∃(Bm:Nat) (W4:World),W4=wx∧v14=.pointer (some ⟨Bm,0,none⟩)∧v15=.bool b∧Below Wq.heap.size Wq wx∧Hid (Jx wx Bm m)∧Hid (Wq.heap.size≤Bm))
  case first=>
   have f0:∀w',Below Wq.heap.size Wq w'→Cx w' Bq q:=HQA.out;have q0:∀w',Below Wq.heap.size Wq w'→w'.cell? ⟨Bq,0,none⟩=some (.string q.name):=fun w' z=>(f0 w' z).1;have q1:∀w',Below Wq.heap.size Wq w'→w'.cell? ⟨Bq,1,none⟩=some (.string q.after):=fun w' z=>(f0 w' z).2.1;have q2:∀w',Below Wq.heap.size Wq w'→w'.cell? ⟨Bq,2,none⟩=some (.int .i64 q.link):=fun w' z=>(f0 w' z).2.2.1;have q3:∀w',Below Wq.heap.size Wq w'→w'.cell? ⟨Bq,3,none⟩=some (.int .i64 q.delay):=fun w' z=>(f0 w' z).2.2.2.1;have q4:∀w',Below Wq.heap.size Wq w'→w'.cell? ⟨Bq,4,none⟩=some (.slice q.ma q.moves.length q.mc):=fun w' z=>(f0 w' z).2.2.2.2.1;have q5:∀w',Below Wq.heap.size Wq w'→w'.cell? ⟨Bq,5,none⟩=some (.int .i64 q.crew):=fun w' z=>(f0 w' z).2.2.2.2.2.1;have q6:∀w',Below Wq.heap.size Wq w'→w'.cell? ⟨Bq,6,none⟩=some (.int .i64 q.power):=fun w' z=>(f0 w' z).2.2.2.2.2.2;have e2:∀w',Below Wq.heap.size Wq w'→w'.cell? ⟨w.heap.size+1,2,none⟩=some (.slice (some ⟨hb,ho,none⟩) h.sets.length h.sc):=fun w' z=>by have:=(HX.out _ (HXQ.out _ z)).2.1.2.2.1;rwa [HHA.out]at this
   have e3:∀w',Below Wq.heap.size Wq w'→w'.cell? ⟨hb,ho+k*13,none⟩=some (.string nme):=fun w' z=>((HXQ.out _ z).cell (p:=⟨hb,_,none⟩) HHL.out).trans HHC.out.1
   have HTM:Hid (∀w',Below Wq.heap.size Wq w'→Calls Tryz.prog 79 #[.agg #[.string q.name,.string q.after,.int .i64 q.link,.int .i64 q.delay,.slice q.ma q.moves.length q.mc,.int .i64 q.crew,.int .i64 q.power],.string nme] w' fun e w2=>e=.returned (.tuple #[.agg #[.string m.name,.int .i64 m.to,.int .i64 m.spd,.int .i64 m.rise,.int .i64 m.fall],.bool b])∧Below w'.heap.size w' w2):=lh fun w' z=>by
    have hmv:=(HX.out _ (HXQ.out _ z)).2.2.2.1.hs.each n hlt;have hml:=HML.out n hlt;have hmc:=HCP.out n hlt;rw[HQ.out]at hmv hml hmc;have:=Xw q nme w' hmv hml hmc
    rwa [hm,hbb]at this
   clear hm hbb f0;have hD:Below Wq.heap.size Wq Wq.drew:=(br).drew;refine wp_region_held_drew (S:=fun w'=>Below Wq.heap.size Wq w') (by kernel_rfl) hD (fun hHeld=>?_);refine tk 0 ?_;refine tk 1 ?_;refine tk 2 ?_;refine tk 3 ?_;refine tk 4 ?_;refine tk 5 ?_;refine tk 6 ?_;refine ry [7,11] (rc 7 (HTM.out _ hHeld) (fun _ hb=>hHeld.trans (hb.mono hHeld.size)) (fun y1 hb2 hH1=>?_) (al 11 (.cells #[.string ⟨#[]⟩,.int .i64 0,.int .i64 0,.int .i64 0,.int .i64 0] 94) (hHeld.alloc hHeld.size _) (fun Bm y1 eB ey hH1=>?_) nl))
   ·refine tk 8 ?_;refine tk 9 ?_;refine tk 10 ?_
    refine ry [11] (al 11 (.cells #[.string ⟨#[]⟩,.int .i64 0,.int .i64 0,.int .i64 0,.int .i64 0] 94) (hH1.alloc hH1.size _) (fun Bm y2 eB ey hH2=>?_) nl);have hz:ZMv y2 Bm:=by rw[←ey,←eB];exact ZMv.new _
    have hlo:Wq.heap.size≤Bm:=by rw[←eB];exact hH1.size
    clear ey eB;have hzz:=hz.some;obtain⟨⟨g0,g1,g2,g3,g4⟩,hff⟩:=hz;have hst:Below Wq.heap.size Wq (Ak y2 Bm 0 [.string m.name,.int .i64 m.to,.int .i64 m.spd,.int .i64 m.rise,.int .i64 m.fall]):=Dl (m:=Wq.heap.size) (b:=Bm) (W:=Wq) [.string m.name,.int .i64 m.to,.int .i64 m.spd,.int .i64 m.rise,.int .i64 m.fall] y2 0 hH2 hlo;have hmf:=Vo m hzz;refine ry [12] (vl 12 (w1:=Ak y2 Bm 0 [.string m.name,.int .i64 m.to,.int .i64 m.spd,.int .i64 m.rise,.int .i64 m.fall]) hst (fun hH3=>?_) nl);refine tk 13 ?_;refine dn ?_
    go_wp2_with fail
    go_meet
    exact⟨Bm,_,rfl,rfl,rfl,hst,lh hmf,lh hlo⟩
   ·have hz1:ZMv y1 Bm:=by rw[←ey,←eB];exact ZMv.new _
    have hlo:Wq.heap.size≤Bm:=by rw[←eB];exact hHeld.size
    clear ey eB;refine ry [7] (rc 7 (HTM.out _ hH1) (fun _ hb=>hH1.trans (hb.mono hH1.size)) (fun y2 hb2 hH2=>?_) nl);refine tk 8 ?_;refine tk 9 ?_;refine tk 10 ?_;have hz:=hz1.carry hb2;have hzz:=hz.some;obtain⟨⟨g0,g1,g2,g3,g4⟩,hff⟩:=hz;have hst:Below Wq.heap.size Wq (Ak y2 Bm 0 [.string m.name,.int .i64 m.to,.int .i64 m.spd,.int .i64 m.rise,.int .i64 m.fall]):=Dl (m:=Wq.heap.size) (b:=Bm) (W:=Wq) [.string m.name,.int .i64 m.to,.int .i64 m.spd,.int .i64 m.rise,.int .i64 m.fall] y2 0 hH2 hlo;have hmf:=Vo m hzz;refine ry [12] (vl 12 (w1:=Ak y2 Bm 0 [.string m.name,.int .i64 m.to,.int .i64 m.spd,.int .i64 m.rise,.int .i64 m.fall]) hst (fun hH3=>?_) nl);refine tk 13 ?_;refine dn ?_
    go_wp2_with fail
    go_meet
    exact⟨Bm,_,rfl,rfl,rfl,hst,lh hmf,lh hlo⟩
  case rest=>
  obtain⟨Bm,W4,rfl,rfl,rfl,hB4,HMA,HBM⟩:=hcut;have hpos:1≤O.length:=by rw[←HOO.out];exact(Lc h s.cues S k n HP.out).1
  obtain⟨xa,c0,rfl,hxl,hxm,-,-⟩:=Ia HOQ.out;obtain⟨g0,rfl,hg1,hg2⟩:=Ws HOQ.out (by omega);have HG1:=lh hg1;have HG2:=lh hg2;clear hxl hxm hg1 hg2 hpos;obtain⟨⟨a0,a1,a2,-,-,-,-⟩,-,-,hin,-⟩:=HX.out _ (HXQ.out _ hB4);obtain⟨tb,tf,hta,htb,htx⟩:=hin.hT.lies (by have:=HPL.out;omega);subst hta;have t0:=htx n (by have:=HPL.out;omega);have hrl:(lg P n).xs.length=h.sets.length:=by rw[HTR.out.eq n hn,Me]
  obtain⟨zb,zf,hza,hzb,hzx⟩:=hin.hT.each n (by have:=HPL.out;omega) (by omega);have t1:=hzx k (by omega);rw[hza,hrl]at t0;rw[HTR.out.eq n hn]at t1;obtain⟨z,hz⟩:=nm (ig (Ez h s.cues n) k);rw[hz]at t1;have HZ:=lh hz;obtain⟨z0,z1⟩:=AVz HOK.out hk hlt hz;have p1:(n:Int)<(P.length:Int):=by have:=HPL.out;omega
  obtain⟨trc,htrc⟩:=nm ((lg P n).c);rw[htrc]at t0;obtain⟨sb,sf,hsa,-,-⟩:=hin.hS (by rw[HSL.out];omega);subst hsa
  have HSC:Hid (∀w',Below W0.heap.size W0 w'→w'.cell? ⟨sb,sf+n,none⟩=some (.int .i64 (ig S n))):=lh fun w' y=>by
   obtain⟨b',o',e,-,ex⟩:=(HX.out w' y).2.2.2.1.hS (by rw[HSL.out];omega)
   cases e
   exact ex n (by rw[HSL.out];omega)
  clear hz hzx hza hrl htx htrc hin
  go_upto_region 8 with (fail)
  clear t0 t1 a0 a1 a2 p1;have HSTAY:Hid (b=false∨m.to=z→Cq h s.cues S k (n+1)=Cq h s.cues S k n):=lh fun e=>Ol (by rw[HQ.out,HNM.out,HBB.out,HM.out,HZ.out];exact e);have HB1W:Hid (Below W1.heap.size W1 W4):=lh (HBQ.out.trans (hB4.mono HBQ.out.size));have HO4:=lh (Ac HOQ.out hB4);obtain⟨m0,m1,m2,m3,m4⟩:=HMA.out
  by_cases hstay:b=false∨m.to=z
  case pos=>
   have HE:Hid (Cq h s.cues S k (n+1)=Cq h s.cues S k n):=lh (HSTAY.out hstay)
   by_cases hbf:b=false
   ·subst hbf
    go_wp2_with fail
    go_roundw
    case rel=>exact⟨n+1,by go_num,by omega,HB1W.out,lh ⟨by rw[HE.out];exact HP.out,by rw[HE.out,HOO.out];exact HO4.out⟩⟩
    case measure=>simp[intOf];omega
   ·obtain rfl:b=true:=by cases b<;>simp_all
    obtain hez:m.to=z:=by simpa using hstay
    have hnb:(m.to==z)=true:=by simpa using hez
    go_wp2_with fail
    go_roundw
    case rel=>exact⟨n+1,by go_num,by omega,HB1W.out,lh ⟨by rw[HE.out];exact HP.out,by rw[HE.out,HOO.out];exact HO4.out⟩⟩
    case measure=>simp[intOf];omega
  obtain⟨hbt,hne⟩:b=true∧m.to≠z:=⟨by cases b<;>simp_all,fun e=>hstay (.inr e)⟩;subst hbt;have hnb:(m.to==z)=false:=by simpa using hne
  obtain⟨-,-,to0,to1,HG0⟩:=ATs (nme:=nme) (m:=m) (z:=z) HOK.out hk hlt (by rw[HQ.out];exact HBB.out) (by rw[HQ.out];exact HM.out) HZ.out;obtain⟨d,hd⟩:=nm ((if z≤m.to then m.to-z else z-m.to));rw[hd]at HG0;have HG:=lh HG0;obtain⟨Wc,hWc⟩:=nm (Dg d m.rise m.fall (Lb d m));have HWC:=lh hWc;obtain⟨s0,hs0⟩:=nm (ig S n);have HS0:=lh hs0;have HGO:Hid (Cq h s.cues S k (n+1)=Ea s0 z (decide (z<m.to)) O Wc Wc.length):=lh (by rw[←hs0,←HOO.out];exact Tw HP.out (by rw[HQ.out,HNM.out];exact HBB.out) (by rw[HQ.out,HNM.out];exact HM.out) HZ.out hne hd hWc);rw[hs0]at HSC;have HMX:Hid (max (m.to-z) (z-m.to)=d):=lh (by rw[←hd];split<;>omega);obtain⟨up,hup⟩:=nm (decide (z<m.to));rw[hup]at HGO;have HUP:=lh hup;have hmlt:Bm<W4.heap.size:=wl m1;have HML4:=lh hmlt;clear hWc hs0 HG0 hd hup hmlt
  go_upto_region 13 with (go_at_call 80;rw[HMX.out];go_fit (ALu HG.out HWC.out _);rintro e w6 ⟨⟨cb,cc,rfl,hcb1,hcb2,hcc,HPC⟩,hb6⟩)
  have HCB1:=lh hcb1;have HCB2:=lh hcb2;have HW6:Hid (Below W1.heap.size W1 w6):=lh (HB1W.out.trans (hb6.mono HB1W.out.size));have HM6:Hid (w6.cell? ⟨Bm,1,none⟩=some (.int .i64 m.to)∧Bm<w6.heap.size∧Bm≠g0):=lh ⟨ct hb6 m1 HML4.out,Nat.lt_of_lt_of_le HML4.out hb6.size,by have:=HG2.out;have:=HBM.out;omega⟩;have HC6:Hid (cb≠g0):=lh (by have:=HG2.out;have:=hB4.size;omega);have HOW:Hid (w6.ownsRow W1.heap.size 122 8 (.slice (some ⟨g0,0,none⟩) O.length c0) O.length (Ce O)):=lh (Ac HO4.out hb6);clear m0 m1 m2 m3 m4 hcb1 hcb2 hb6 HO4
  go_loopw [11,90] (fun v jv wx=>∃j g n' c:Nat,v=.slice (some ⟨g,0,none⟩) n' c∧jv=.int .i64 j∧j≤Wc.length∧Hid (Pe w6 wx g0 (.slice (some ⟨g,0,none⟩) n' c))∧Hid (n'=(Ea s0 z up O Wc j).1.length∧(Ea s0 z up O Wc j).2=0∧wx.ownsRow W1.heap.size 122 8 (.slice (some ⟨g,0,none⟩) n' c) n' (Ce (Ea s0 z up O Wc j).1))) (fun _ jv _=>Wc.length-(intOf jv).toNat)
  case atStart=>exact⟨0,g0,O.length,c0,rfl,rfl,nz,lh (Pe.start rfl),lh ⟨rfl,rfl,HOW.out⟩⟩
  case round=>
   clear HOW;obtain⟨j,g,n',c,rfl,rfl,hj,HK,HW⟩:=hrel;obtain⟨wj,rfl⟩:∃wo:World,wo=wr:=⟨_,rfl⟩
   by_cases hlj:j<Wc.length
   case neg=>
    obtain rfl:j=Wc.length:=by omega
    have HBX:Hid (Below W1.heap.size W1 wj):=lh (HK.out.under HW6.out HW6.out.size HG1.out)
    go_wp2_with fail
    go_roundw
    case rel=>exact⟨n+1,by go_num,by omega,HBX.out,lh ⟨by rw[HGO.out];exact HW.out.2.1,by obtain⟨e,-,o⟩:=HW.out;rw[HGO.out,←e];exact o⟩⟩
    case measure=>simp[intOf];omega
   obtain⟨hkg,hkl⟩:=HK.out;obtain⟨c0,c1,c2,c3,c4,c5,c6,c7⟩:=HK.out.pcs HCB2.out HC6.out HPC.out hlj;obtain⟨p,hp⟩:=nm (Al Wc j);rw[hp]at c0 c1 c2 c3 c4 c5 c6 c7;have HPK:Hid (Oz p):=lh (by rw[←hp];exact AMa HG.out HWC.out hlj);have HPJ:=lh hp;have j0:0≤(j:Int):=by omega
   have j1:(j:Int)<(Wc.length:Int):=by omega
   have hwl:Wc.length≤4:=by rw[←HWC.out];exact Xe _ _ _ _
   have jw:IntKind.i64.wrap ((j:Int)+1)=(j:Int)+1:=IntWalk.i64_in _ (by omega);have hbn:=Aa wj (.cells #[.int .i64 p.f0,.int .i64 p.f1,.int .i64 p.a0,.int .i64 p.a1,.int .i64 p.b0,.int .i64 p.b1,.int .i64 p.c0,.int .i64 p.c1] 122);have hpn:=PB.new wj p 122;clear hp hkg hkl
   go_upto_region 15 with (fail)
   clear c0 c1 c2 c3 c4 c5 c6 c7;obtain⟨Bt,hBt⟩:=nm (wj.heap.size);obtain⟨Wt,hWt⟩:=nm (wj.alloc (.cells #[.int .i64 p.f0,.int .i64 p.f1,.int .i64 p.a0,.int .i64 p.a1,.int .i64 p.b0,.int .i64 p.b1,.int .i64 p.c0,.int .i64 p.c1] 122));rw[hWt]at hbn hpn;simp only[hWt];rw[hBt]at hpn;simp only[hBt];have HKT:Hid (∀w',Below Wt.heap.size Wt w'→Pe w6 w' g0 (.slice (some ⟨g,0,none⟩) n' c)):=lh fun w' y=>(HK.out.below hbn).below y;have HRT:Hid (Wt.ownsRow W1.heap.size 122 8 (.slice (some ⟨g,0,none⟩) n' c) n' (Ce (Ea s0 z up O Wc j).1)):=lh (Ac HW.out.2.2 hbn);have HXT:Hid (∀w',Below Wt.heap.size Wt w'→Below W1.heap.size W1 w'):=lh fun w' y=>(HKT.out w' y).under HW6.out HW6.out.size HG1.out;have HPT:Hid (∀w',Below Wt.heap.size Wt w'→PB w' Bt p):=lh fun w' y=>hpn.carry y;obtain⟨Y,hY⟩:=nm (Ep p s0 z up);have HY:=lh hY
   have HTP:Hid (∀w',Calls Tryz.prog 81 #[.agg #[.int .i64 p.f0,.int .i64 p.f1,.int .i64 p.a0,.int .i64 p.a1,.int .i64 p.b0,.int .i64 p.b1,.int .i64 p.c0,.int .i64 p.c1],.int .i64 s0,.int .i64 z,.bool up] w' fun e w2=>e=.returned (.tuple #[.agg #[.int .i64 Y.1.f0,.int .i64 Y.1.f1,.int .i64 Y.1.a0,.int .i64 Y.1.a1,.int .i64 Y.1.b0,.int .i64 Y.1.b1,.int .i64 Y.1.c0,.int .i64 Y.1.c1],.int .i64 Y.2])∧Below w'.heap.size w' w2):=lh fun w'=>by
    have:=AFe p s0 z up (by have:=HB1.out n hlt;rw[HS0.out]at this;exact this.1) (by have:=HB1.out n hlt;rw[HS0.out]at this;exact this.2) z0 z1 HPK.out.f HPK.out.a (ATa HPK.out.b) (ATa HPK.out.c) w'
    rwa [hY]at this
   clear hBt hWt hbn hpn hY HK
   go_cut [21,22] (fun v21 v22 wx=>∃(By:Nat) (w9:World),w9=wx∧v21=.pointer (some ⟨By,0,none⟩)∧v22=.int .i64 Y.2∧Below Wt.heap.size Wt wx∧Hid (PB wx By Y.1))
   case first=>
    have f0:∀w',Below Wt.heap.size Wt w'→PB w' Bt p:=HPT.out;have q0:∀w',Below Wt.heap.size Wt w'→w'.cell? ⟨Bt,0,none⟩=some (.int .i64 p.f0):=fun w' y=>(f0 w' y).c0;have q1:∀w',Below Wt.heap.size Wt w'→w'.cell? ⟨Bt,1,none⟩=some (.int .i64 p.f1):=fun w' y=>(f0 w' y).c1;have q2:∀w',Below Wt.heap.size Wt w'→w'.cell? ⟨Bt,2,none⟩=some (.int .i64 p.a0):=fun w' y=>(f0 w' y).c2;have q3:∀w',Below Wt.heap.size Wt w'→w'.cell? ⟨Bt,3,none⟩=some (.int .i64 p.a1):=fun w' y=>(f0 w' y).c3;have q4:∀w',Below Wt.heap.size Wt w'→w'.cell? ⟨Bt,4,none⟩=some (.int .i64 p.b0):=fun w' y=>(f0 w' y).c4;have q5:∀w',Below Wt.heap.size Wt w'→w'.cell? ⟨Bt,5,none⟩=some (.int .i64 p.b1):=fun w' y=>(f0 w' y).c5;have q6:∀w',Below Wt.heap.size Wt w'→w'.cell? ⟨Bt,6,none⟩=some (.int .i64 p.c0):=fun w' y=>(f0 w' y).c6;have q7:∀w',Below Wt.heap.size Wt w'→w'.cell? ⟨Bt,7,none⟩=some (.int .i64 p.c1):=fun w' y=>(f0 w' y).c7;have e1:∀w',Below Wt.heap.size Wt w'→w'.cell? ⟨w.heap.size,1,none⟩=some (.slice (some ⟨sb,sf,none⟩) S.length sc):=fun w' y=>(HX.out _ (HX1.out _ (HXT.out w' y))).1.2.1;have e2:∀w',Below Wt.heap.size Wt w'→w'.cell? ⟨sb,sf+n,none⟩=some (.int .i64 s0):=fun w' y=>HSC.out _ (HX1.out _ (HXT.out w' y));have e3:∀w',Below Wt.heap.size Wt w'→w'.cell? ⟨Bm,1,none⟩=some (.int .i64 m.to):=fun w' y=>((HKT.out w' y).cell (p:=⟨Bm,1,none⟩) HM6.out.2.1 HM6.out.2.2).trans HM6.out.1;have sl:(n:Int)<(S.length:Int):=by rw[HSL.out];exact i1
    have hup:decide (z<m.to)=up:=HUP.out;clear f0;have hD:Below Wt.heap.size Wt Wt.drew:=(br).drew;refine wp_region_held_drew (S:=fun w'=>Below Wt.heap.size Wt w') (by kernel_rfl) hD (fun hHeld=>?_);refine tk 0 ?_;refine tk 1 ?_;refine tk 2 ?_;refine tk 3 ?_;refine tk 4 ?_;refine tk 5 ?_;refine tk 6 ?_;refine tk 7 ?_;refine tk 8 ?_;refine tk 9 ?_;refine tk 10 ?_
    try simp only[hup]
    refine ry [11,15] (rc 11 (HTP.out _) (fun _ hb=>hHeld.trans (hb.mono hHeld.size)) (fun y1 hb2 hH1=>?_) (al 15 (.cells #[.int .i64 0,.int .i64 0,.int .i64 0,.int .i64 0,.int .i64 0,.int .i64 0,.int .i64 0,.int .i64 0] 122) (hHeld.alloc hHeld.size _) (fun By y1 eB ey hH1=>?_) nl))
    ·refine tk 12 ?_;refine tk 13 ?_;refine tk 14 ?_
     refine ry [15] (al 15 (.cells #[.int .i64 0,.int .i64 0,.int .i64 0,.int .i64 0,.int .i64 0,.int .i64 0,.int .i64 0,.int .i64 0] 122) (hH1.alloc hH1.size _) (fun By y2 eB ey hH2=>?_) nl);have hz:PB y2 By ⟨0,0,0,0,0,0,0,0⟩:=by rw[←ey,←eB];exact PB.new _ ⟨0,0,0,0,0,0,0,0⟩ _
     have hlo:Wt.heap.size≤By:=by rw[←eB];exact hH1.size
     clear ey eB;have hmf:=AIf Y.1 hz;have hst:Below Wt.heap.size Wt (Ak y2 By 0 [.int .i64 Y.1.f0,.int .i64 Y.1.f1,.int .i64 Y.1.a0,.int .i64 Y.1.a1,.int .i64 Y.1.b0,.int .i64 Y.1.b1,.int .i64 Y.1.c0,.int .i64 Y.1.c1]):=Dl _ y2 0 hH2 hlo;obtain⟨g0,g1,g2,g3,g4,g5,g6,g7,hff⟩:=hz;refine ry [16] (vl 16 (w1:=Ak y2 By 0 [.int .i64 Y.1.f0,.int .i64 Y.1.f1,.int .i64 Y.1.a0,.int .i64 Y.1.a1,.int .i64 Y.1.b0,.int .i64 Y.1.b1,.int .i64 Y.1.c0,.int .i64 Y.1.c1]) hst (fun hH3=>?_) nl);refine tk 17 ?_;refine dn ?_
     go_wp2_with fail
     go_meet
     exact⟨By,_,rfl,rfl,rfl,hst,lh hmf⟩
    ·have hz1:PB y1 By ⟨0,0,0,0,0,0,0,0⟩:=by rw[←ey,←eB];exact PB.new _ ⟨0,0,0,0,0,0,0,0⟩ _
     have hlo:Wt.heap.size≤By:=by rw[←eB];exact hHeld.size
     clear ey eB;refine ry [11] (rc 11 (HTP.out _) (fun _ hb=>hH1.trans (hb.mono hH1.size)) (fun y2 hb2 hH2=>?_) nl);refine tk 12 ?_;refine tk 13 ?_;refine tk 14 ?_;have hz:=hz1.carry hb2;have hmf:=AIf Y.1 hz;have hst:Below Wt.heap.size Wt (Ak y2 By 0 [.int .i64 Y.1.f0,.int .i64 Y.1.f1,.int .i64 Y.1.a0,.int .i64 Y.1.a1,.int .i64 Y.1.b0,.int .i64 Y.1.b1,.int .i64 Y.1.c0,.int .i64 Y.1.c1]):=Dl _ y2 0 hH2 hlo;obtain⟨g0,g1,g2,g3,g4,g5,g6,g7,hff⟩:=hz;refine ry [16] (vl 16 (w1:=Ak y2 By 0 [.int .i64 Y.1.f0,.int .i64 Y.1.f1,.int .i64 Y.1.a0,.int .i64 Y.1.a1,.int .i64 Y.1.b0,.int .i64 Y.1.b1,.int .i64 Y.1.c0,.int .i64 Y.1.c1]) hst (fun hH3=>?_) nl);refine tk 17 ?_;refine dn ?_
     go_wp2_with fail
     go_meet
     exact⟨By,_,rfl,rfl,rfl,hst,lh hmf⟩
   case rest=>
   obtain⟨By,w9,rfl,rfl,rfl,hB9,HPY⟩:=hcut;have HB9:Hid (Below W1.heap.size W1 w9):=lh (HXT.out _ hB9);have HK9:=lh (HKT.out _ hB9);have HR9:Hid (w9.ownsRow W1.heap.size 122 8 (.slice (some ⟨g,0,none⟩) n' c) n' (Ce (Ea s0 z up O Wc j).1)):=lh (Ac HRT.out hB9);have HYE:Hid (Ep (Al Wc j) s0 z up=Y):=lh (by rw[HPJ.out];exact HY.out)
   by_cases he:Y.2=0
   case neg=>
    have hF:Ea s0 z up O Wc (j+1)=([],Y.2):=by rw[AHm HW.out.2.1 (by rw[HYE.out];exact he),HYE.out]
    have hF2:Cq h s.cues S k (n+1)=([],Y.2):=by rw[HGO.out,Zr (k:=j+1) (by rw[hF];exact he) _ hlj,hF]
    have HE:Hid (He h s.cues S k=([],Y.2)):=lh (by rw[AMe (n:=n+1) hlt (by rw[hF2];exact he),hF2]);have hwb:=(HX.out _ (HX1.out _ HB9.out)).2.2.2.2;have hye:(Y.2==0)=false:=by simpa using he
    clear hF hF2
    go_wp2_with fail
    go_ret2
    exact⟨lh ⟨_,by first | rfl | (rw[HE.out];rfl) | rw[HE.out],by rw[HE.out];exact⟨fun e=>absurd e he,fun _=>rfl⟩⟩,hwb⟩
   have hye:(Y.2==0)=true:=by simpa using he
   obtain⟨Oj,hOj⟩:=nm ((Ea s0 z up O Wc j).1);have hlen:=Ud s0 z up O Wc j HW.out.2.1;have hol:O.length≤300:=by rw[←HOO.out];have:=(Lc h s.cues S k n HP.out).2;omega
   have hop:1≤O.length:=by rw[←HOO.out];exact(Lc h s.cues S k n HP.out).1
   have hnl:=HW.out.1;have HN:Hid (Ea s0 z up O Wc (j+1)=(Rb Oj Y.1,0)):=lh (by rw[AFw HW.out.2.1 (by rw[HYE.out];exact he),HYE.out,hOj]);rw[hOj]at hlen hnl HR9;obtain⟨n1,hn'⟩:∃n1,n'=n1+1:=⟨n'-1,by omega⟩;have HNN:=lh hn';have HNJ:Hid (Oj.length=n'):=lh hnl.symm;have HNL:Hid (Oj.length=n1+1):=lh (by omega);have hn1:n1≤400:=by omega
   obtain⟨y0,y1,y2,y3,y4,y5,y6,y7,yf⟩:=HPY.out
   have hpr:Yi w9.heap.size w9 (some ⟨g,0,none⟩) Oj:=by
    have:=HR9.out;rw[hnl]at this;obtain⟨a,c',e,-,-,-,hh⟩:=Ia this
    cases e
    exact hh
   obtain⟨b',o',e',-,hcc'⟩:=hpr (by omega)
   cases e'
   obtain⟨l0,l1,l2,l3,l4,l5,l6,l7⟩:=hcc' n1 (by omega);simp only[Nat.zero_add]at l0 l1 l2 l3 l4 l5 l6 l7;have HLS:Hid (w9.cell? ⟨g,n1*8+2,none⟩=some (.int .i64 (Al Oj n1).a0)∧w9.cell? ⟨g,n1*8+3,none⟩=some (.int .i64 (Al Oj n1).a1)∧w9.cell? ⟨g,n1*8+4,none⟩=some (.int .i64 (Al Oj n1).b0)∧w9.cell? ⟨g,n1*8+5,none⟩=some (.int .i64 (Al Oj n1).b1)∧w9.cell? ⟨g,n1*8+6,none⟩=some (.int .i64 (Al Oj n1).c0)∧w9.cell? ⟨g,n1*8+7,none⟩=some (.int .i64 (Al Oj n1).c1)):=lh ⟨l2,l3,l4,l5,l6,l7⟩;have HGL:Hid (g<w9.heap.size):=lh (wl l0);have n10:0≤(n1:Int):=by omega
   have n1w:IntKind.i64.wrap ((n':Int)-1)=(n1:Int):=by rw[show(n':Int)-1=(n1:Int)by omega];exact IntWalk.i64_in _ (by omega)
   have n1t:(n1:Int)<(n':Int):=by omega
   clear l2 l3 l4 l5 l6 l7 hOj hlen hol hop hnl hpr hcc' HW HPT HXT HRT HKT hn' y0 y1 y2 y3 y4 y5 y6 y7 yf
   go_upto_region 18 with (fail)
   have l0':∀w',Below w9.heap.size w9 w'→w'.cell? ⟨g,n1*8,none⟩=some (.int .i64 (Al Oj n1).f0):=fun w' y=>(ct y l0 HGL.out);have l1':∀w',Below w9.heap.size w9 w'→w'.cell? ⟨g,n1*8+1,none⟩=some (.int .i64 (Al Oj n1).f1):=fun w' y=>(ct y l1 HGL.out);have m0':∀w',Below w9.heap.size w9 w'→w'.cell? ⟨By,0,none⟩=some (.int .i64 Y.1.f0):=fun w' y=>(HPY.out.carry y).c0;have m1':∀w',Below w9.heap.size w9 w'→w'.cell? ⟨By,1,none⟩=some (.int .i64 Y.1.f1):=fun w' y=>(HPY.out.carry y).c1;have hD:Below w9.heap.size w9 w9.drew:=(br).drew;refine wp_region_held_drew (S:=fun w'=>Below w9.heap.size w9 w') (by kernel_rfl) hD (fun hHeld=>?_);refine tk 0 ?_;refine tk 1 ?_;refine tk 2 ?_;refine tk 3 ?_;refine tk 4 ?_;refine tk 5 ?_;refine tk 6 ?_;refine tk 7 ?_;refine tk 8 ?_;obtain⟨r,hr⟩:=nm (((Al Oj n1).f0==Y.1.f0&&(Al Oj n1).f1==Y.1.f1));refine ry [9] (vl 9 (n:=.value (.bool r)) (v:=.bool r) (w1:=w9.drew) hHeld (fun _=>?_) nl (hx:=(AMx _ _ _ _ _ _ _ _ _ rfl rfl rfl _).trans (by rw[hr])));refine dn ?_;have HRR:=lh hr;obtain⟨w10,hw10⟩:=nm (w9.drew);rw[hw10]at hHeld;simp only[hw10];have HK10:=lh (HK9.out.below hHeld);have HR10:=lh (Ac HR9.out hHeld);have HP10:=lh (HPY.out.carry hHeld);have HF10:=lh (AMk HR10.out)
   have HS10:Hid (w10.cell? ⟨g,n1*8,none⟩=some (.int .i64 (Al Oj n1).f0)∧w10.cell? ⟨g,n1*8+1,none⟩=some (.int .i64 (Al Oj n1).f1)∧w10.cell? ⟨g,n1*8+2,none⟩=some (.int .i64 (Al Oj n1).a0)∧w10.cell? ⟨g,n1*8+3,none⟩=some (.int .i64 (Al Oj n1).a1)∧w10.cell? ⟨g,n1*8+4,none⟩=some (.int .i64 (Al Oj n1).b0)∧w10.cell? ⟨g,n1*8+5,none⟩=some (.int .i64 (Al Oj n1).b1)∧w10.cell? ⟨g,n1*8+6,none⟩=some (.int .i64 (Al Oj n1).c0)∧w10.cell? ⟨g,n1*8+7,none⟩=some (.int .i64 (Al Oj n1).c1)):=lh (by
    obtain⟨x2,x3,x4,x5,x6,x7⟩:=HLS.out;exact⟨l0' _ hHeld,l1' _ hHeld,ct hHeld x2 HGL.out,ct hHeld x3 HGL.out,ct hHeld x4 HGL.out,ct hHeld x5 HGL.out,ct hHeld x6 HGL.out,ct hHeld x7 HGL.out⟩)
   have HB10:Hid (Below W1.heap.size W1 w10):=lh (HB9.out.trans (hHeld.mono HB9.out.size));clear hr hw10 hHeld hD l0 l1 l0' l1' m0' m1' hB9;obtain⟨y0,y1,y2,y3,y4,y5,y6,y7,yf⟩:=HP10.out
   cases r
   case true=>
    have he2:(Al Oj n1).f0=Y.1.f0∧(Al Oj n1).f1=Y.1.f1:=by simpa using HRR.out
    have HN2:Hid (Ea s0 z up O Wc (j+1)=(Oj.set n1 Y.1,0)):=lh (by rw[HN.out,AQb HNL.out he2]);obtain⟨l0,l1,l2,l3,l4,l5,l6,l7⟩:=HS10.out;have lf:=HF10.out;clear he2
    go_wp2_with fail
    go_roundw
    case rel=>exact⟨j+1,g,n',c,rfl,by go_num,by omega,lh (HK10.out.step (w':=Ak w10 g (n1*8) [.int .i64 Y.1.f0,.int .i64 Y.1.f1,.int .i64 Y.1.a0,.int .i64 Y.1.a1,.int .i64 Y.1.b0,.int .i64 Y.1.b1,.int .i64 Y.1.c0,.int .i64 Y.1.c1]) (AAa _ _ _ (World.grownBy.refl _ _)) (.inl rfl)),lh ⟨by rw[HN2.out,List.length_set,HNJ.out],by rw[HN2.out],by rw[HN2.out];exact ASa HR10.out Y.1 (by have:=HNL.out;omega)⟩⟩
    case measure=>simp[intOf];omega
   case false=>
    have he2:¬((Al Oj n1).f0=Y.1.f0∧(Al Oj n1).f1=Y.1.f1):=by have:=HRR.out;simpa using this
    have HN2:Hid (Ea s0 z up O Wc (j+1)=(Oj++[Y.1],0)):=lh (by rw[HN.out,APx HNL.out he2]);have HOJ:Hid (w10.ownsRow W1.heap.size 122 8 (.slice (some ⟨g,0,none⟩) n' c) Oj.length (Ce Oj)):=lh (by rw[HNJ.out];exact HR10.out);have hsz:=HB10.out.size;clear he2
    go_wp2_with (at_builtin;refine AHr rfl _ _ rfl W1.heap.size _ Oj rfl (HOJ.out.alloc _) _ Y.1 rfl (PB.new _ _ _) (by have:=HNL.out;omega) (by simp;omega) ?_;intro v2 w8 hown8 hg8 hat8;have HO8:=lh hown8;have HK8:=lh ((HK10.out.below (Aa w10 _)).step hg8 hat8);clear hown8 hg8 hat8)
    obtain⟨a8,c8,rfl,-,-,-,-⟩:=Ia HO8.out;obtain⟨g8,rfl,-,-⟩:=Ws HO8.out (by simp);go_roundw
    case rel=>exact⟨j+1,g8,(Oj++[Y.1]).length,c8,rfl,by go_num,by omega,HK8,lh ⟨by rw[HN2.out],by rw[HN2.out],by rw[HN2.out];exact HO8.out⟩⟩
    case measure=>simp[intOf];omega
theorem AJx(args:Array Value)(w:World):(callFunc 46 args).run Tryz.prog w=.ok (.enter 46 args) w:=enters_of Tryz.func46 (by kernel_rfl) rfl args w
theorem AGw{w:World}{b:Nat}{s:ByteArray}(h:w.cell? ⟨b,0,none⟩=some (.string s)):Vl 46 #[.pointer (some ⟨b,0,none⟩)] w.heap.size w (fun y=>decide (y.name=s)):=by
 intro W x hb;have hlt:=wl h;have h':=(ct hb h hlt);have hlt':b<W.heap.size:=wl h';show Calls _ _ #[.agg #[.string x.name,.int .i64 x.depth,.int .i64 x.low,.int .i64 x.high,.int .i64 x.length,.slice x.la x.lines.length x.lc,.int .i64 x.pipe,.int .i64 x.arbor,.int .i64 x.purchase,.int .i64 x.most,.int .i64 x.brake,.slice x.ia x.items.length x.ic,.slice x.ba x.bricks.length x.bc],.pointer (some ⟨b,0,none⟩)] _ _;clear h hb hlt
 go_enter Tryz.func46,Tryz.ntmps46
 go_wp2_with fail
 go_ret;exact⟨Ab (Dj _ _),Aa _ _⟩
noncomputable def Oa(h:Ae)(s:Aq)(G:List Int)(nme:ByteArray):List Pc×Int:=
 if Db h s G=0 then(if Cv h.sets nme<0 then([],9)else if Nu s.cues (Bv h s G) (Cl h s)=true then He h s.cues (Bv h s G) (Cv h.sets nme).toNat else([],13))else([],Db h s G)
theorem ATe{w:World}{h:Ae}{s:Aq}{ga:Option Addr}{G:List Int}(nme:ByteArray)(hh:Ax w h)(hs:Bg w s)(hG:Bl w.heap.size w ga G):
  ∃W0,((Fo w h s).alloc (.cells #[.string nme] 9))=W0∧Hid (∀w',Below W0.heap.size W0 w'→Au w' w.heap.size h∧Bo w' (w.heap.size+1) s∧w'.cell? ⟨w.heap.size+1+1,0,none⟩=some (.string nme)∧Ax w' h∧Bg w' s∧Bl w'.heap.size w' ga G∧Below w.heap.size w w'):=by
 have hb:Below w.heap.size w ((Fo w h s).alloc (.cells #[.string nme] 9)):=((Aa w _).alloc (by simp) _).alloc (by simp;omega) _;have hH:=((Au.new w h 25).carry (Aa _ (Uo s))).carry (Aa _ (.cells #[.string nme] 9));have hS':=(Pa (w.alloc (Ex h)) s).carry (Aa _ (.cells #[.string nme] 9));rw[show(w.alloc (Ex h)).heap.size=w.heap.size+1 by simp]at hS';have hN0:∀V:World,(V.alloc (.cells #[.string nme] 9)).cell? ⟨V.heap.size,0,none⟩=some (.string nme):=fun V=>by simp
 have hN:=hN0 (Fo w h s);rw[show(Fo w h s).heap.size=w.heap.size+1+1 by simp]at hN;clear hN0;refine⟨_,rfl,lh fun w' z=>⟨hH.carry z,hS'.carry z,(ct z hN (wl hN)),(hh.grow hb).grow z,(hs.grow hb).grow z,(hG.grow hb).grow z,hb.trans (z.mono hb.size)⟩⟩
theorem AKd(h:Ae)(s:Aq)(ga:Option Addr)(G:List Int)(gc:Nat)(nme:ByteArray)(w:World)(hh:Ax w h)(hs:Bg w s)(hG:Bl w.heap.size w ga G)(hgl:G.length≤1000):
  Calls Tryz.prog 12 #[.agg #[.string h.name,.int .i64 h.height,.slice h.sa h.sets.length h.sc,.slice h.ra h.roofs.length h.rc],.agg #[.slice s.ca s.cues.length s.cc,.slice s.pa s.pairs.length s.pc],.slice ga G.length gc,.string nme] w fun e w'=>Hid (∃v,e=.returned (.tuple #[v,.int .i64 (Oa h s G nme).2])∧APe w w' v (Oa h s G nme))∧Below w.heap.size w w':=by
 have hsl:=hh.slen;have hcap:=hh.scap;obtain⟨W0,hW0,HX⟩:=ATe nme hh hs hG;clear hh hs hG;obtain⟨E,hE⟩:=nm (Db h s G)
 by_cases hz:E=0
 case neg=>
  have HE:=lh hE;have HR:Hid (Oa h s G nme=([],E)):=lh (by unfold Oa;rw[hE,if_neg hz]);have HZ:=lh hz;have g0:(E !=0)=true:=bne_iff_ne.2 hz;clear hz hE;have HMD:=lh (Iq h s ga G gc _ (HX.out _ br).2.2.2.1 (HX.out _ br).2.2.2.2.1 (HX.out _ br).2.2.2.2.2.1 hgl)
  go_enter Tryz.func12,Tryz.ntmps12
  go_upto_region 1 with (fail)
  try simp only[hW0]
  clear hW0;obtain⟨⟨a0,a1,a2,a3⟩,⟨s0,s1⟩,n0,-,-,-,-⟩:=HX.out _ br
  go_wp2_with (go_at_call 44;go_fit HMD.out;rintro e w1 ⟨hx1,hb1⟩;obtain⟨ta,tn,tc,sa,sn,sc,na,nn,nc,rfl,hp1⟩:=hx1.out;clear hx1 hp1;rw[HE.out])
  go_ret2
  exact⟨lh ⟨_,by first | rfl | (rw[HR.out];rfl) | rw[HR.out],by rw[HR.out];exact⟨fun e=>absurd e HZ.out,fun _=>rfl⟩⟩,(HX.out _ hb1).2.2.2.2.2.2.alloc (by have:=(HX.out _ hb1).2.2.2.2.2.2.size;omega) _⟩
 case pos=>
  subst hz;obtain⟨hok,hpo⟩:=Er hE;have HOK:=lh hok;have HPO:=lh hpo;have HE:=lh hE;have HMD:=lh (AAj h s ga G gc _ (HX.out _ br).2.2.2.1 (HX.out _ br).2.2.2.2.1 (HX.out _ br).2.2.2.2.2.1 hgl hE);clear hok hpo hE
  go_enter Tryz.func12,Tryz.ntmps12
  go_upto_region 1 with (fail)
  try simp only[hW0]
  clear hW0;obtain⟨⟨a0,a1,a2,a3⟩,⟨s0,s1⟩,n0,-,-,-,-⟩:=HX.out _ br
  go_upto_region 4 with (go_at_call 44;go_fit HMD.out;rintro e w1 ⟨hx1,hb1⟩;obtain⟨ta,tc,sa,sc,na,nc,rfl,hp1⟩:=hx1.out;have HP1:=lh hp1;clear hx1 hp1)
  obtain⟨hS1,hN1,hT1⟩:=HP1.out;have hbx:=Aa w1 (.cells #[.slice ta (s.cues.length+1) tc,.slice sa s.cues.length sc,.slice na s.cues.length nc] 109);have hPC:=PC.put w1 (.slice ta (s.cues.length+1) tc) (.slice sa s.cues.length sc) (.slice na s.cues.length nc) 109;have hsz:=hb1.size;have HB2:Hid (Below W0.heap.size W0 (w1.alloc (.cells #[.slice ta (s.cues.length+1) tc,.slice sa s.cues.length sc,.slice na s.cues.length nc] 109))):=lh (hb1.alloc hsz _);obtain⟨B8,hB8⟩:=nm (w1.heap.size);have HPS:Hid (Bl (w1.alloc (.cells #[.slice ta (s.cues.length+1) tc,.slice sa s.cues.length sc,.slice na s.cues.length nc] 109)).heap.size (w1.alloc (.cells #[.slice ta (s.cues.length+1) tc,.slice sa s.cues.length sc,.slice na s.cues.length nc] 109)) sa (Bv h s G)∧Bl (w1.alloc (.cells #[.slice ta (s.cues.length+1) tc,.slice sa s.cues.length sc,.slice na s.cues.length nc] 109)).heap.size (w1.alloc (.cells #[.slice ta (s.cues.length+1) tc,.slice sa s.cues.length sc,.slice na s.cues.length nc] 109)) na (Cl h s)∧(0<h.sets.length→∃P,Fi (w1.alloc (.cells #[.slice ta (s.cues.length+1) tc,.slice sa s.cues.length sc,.slice na s.cues.length nc] 109)) ta h s.cues P)):=lh ⟨hS1.grow hbx,hN1.grow hbx,fun q=>by obtain⟨P,t⟩:=hT1 q;exact⟨P,t.grow hbx⟩⟩;have HPC:=lh hPC;clear hS1 hN1 hT1 hbx hPC HP1 HMD hsz hb1 a0 a1 a2 a3 s0 s1 n0;obtain⟨W2,hW2⟩:=nm (w1.alloc (.cells #[.slice ta (s.cues.length+1) tc,.slice sa s.cues.length sc,.slice na s.cues.length nc] 109));rw[hW2]at HB2 HPS HPC;simp only[hW2];rw[hB8]at HPC;simp only[hB8];clear hW2 hB8;obtain⟨⟨a0,a1,a2,a3⟩,⟨s0,s1⟩,n0,hin,-,-,-⟩:=HX.out _ HB2.out;have HIF:=lh (Ly h.sa h.sets h.sc _ _ _ (fun y=>decide (y.name=nme)) W2 AJx (by omega) nr hin.sets (AGw n0));obtain⟨f,hf⟩:=nm (Cv h.sets nme);rw[show Ga h.sets (fun y=>decide (y.name=nme))=f from hf]at HIF;have HF:=lh hf;clear hf hin
  by_cases hn:f<0
  ·have HR:Hid (Oa h s G nme=([],9)):=lh (by unfold Oa;rw[HE.out,if_pos rfl,HF.out,if_pos hn])
   go_wp2_with (go_at_call 45;go_fit HIF.out;rintro e w3 ⟨rfl,hb3⟩)
   go_ret2
   exact⟨lh ⟨_,by first | rfl | (rw[HR.out];rfl) | rw[HR.out],by rw[HR.out];exact⟨fun e=>absurd e (by decide),fun _=>rfl⟩⟩,(HX.out _ (HB2.out.trans (hb3.mono HB2.out.size))).2.2.2.2.2.2⟩
  ·go_upto_region 7 with (go_at_call 45;go_fit HIF.out;rintro e w3 ⟨rfl,hb3⟩)
   have HB3:Hid (Below W0.heap.size W0 w3):=lh (HB2.out.trans (hb3.mono HB2.out.size));have HP3:=lh (HPC.out.carry hb3);have HS3:Hid (Bl w3.heap.size w3 sa (Bv h s G)∧Bl w3.heap.size w3 na (Cl h s)∧(0<h.sets.length→∃P,Fi w3 ta h s.cues P)):=lh ⟨HPS.out.1.grow hb3,HPS.out.2.1.grow hb3,fun q=>by obtain⟨P,t⟩:=HPS.out.2.2 q;exact⟨P,t.grow hb3⟩⟩;clear hb3 a0 a1 a2 a3 s0 s1 n0 HIF;obtain⟨⟨a0,a1,a2,a3⟩,⟨s0,s1⟩,n0,hin,hsi,-,-⟩:=HX.out _ HB3.out;obtain⟨p0,p1,p2,-,-,-,-⟩:=HP3.out;have HTO:=lh (Sb s ta (s.cues.length+1) tc sa na (Bv h s G) (Cl h s) sc nc w3 hsi HS3.out.1 HS3.out.2.1 HPO.out.lenS HPO.out.lenN (fun i hi=>by have:=HPO.out.starts i hi;omega) (fun i hi=>by have:=HPO.out.lens i hi;omega));rw[HPO.out.lenS,HPO.out.lenN]at HTO;obtain⟨o,ho⟩:=nm (Nu s.cues (Bv h s G) (Cl h s));rw[ho]at HTO;have HO:=lh ho;have HN:=lh hn;clear hin hsi ho hn
   cases o
   case false=>
    have HR:Hid (Oa h s G nme=([],13)):=lh (by unfold Oa;rw[HE.out,if_pos rfl,HF.out,if_neg (by have:=HN.out;omega),HO.out];rfl)
    go_wp2_with (go_at_call 47;go_fit HTO.out;rintro e w4 ⟨rfl,hb4⟩)
    go_ret2
    exact⟨lh ⟨_,by first | rfl | (rw[HR.out];rfl) | rw[HR.out],by rw[HR.out];exact⟨fun e=>absurd e (by decide),fun _=>rfl⟩⟩,(HX.out _ (HB3.out.trans (hb4.mono HB3.out.size))).2.2.2.2.2.2⟩
   case true=>
    have hk:=Jb (h:=h) (s:=nme) (by rw[HF.out];have:=HN.out;omega);rw[HF.out]at hk;obtain⟨k,rfl⟩:∃k:Nat,f=k:=⟨f.toNat,by have:=HN.out;omega⟩;have HKK:Hid (k<h.sets.length):=lh (by simpa using hk.1);have HR:Hid (Oa h s G nme=He h s.cues (Bv h s G) k):=lh (by unfold Oa;rw[HE.out,if_pos rfl,HF.out,if_neg (by have:=HN.out;omega),if_pos HO.out];rfl);clear hk
    go_upto_region 9 with (go_at_call 47;go_fit HTO.out;rintro e w4 ⟨rfl,hb4⟩)
    have HB4:Hid (Below W0.heap.size W0 w4):=lh (HB3.out.trans (hb4.mono HB3.out.size));obtain⟨P,ht⟩:=HS3.out.2.2 (by have:=HKK.out;omega);have HTP:=lh (Zb h s ta P tc sa na (Bv h s G) (Cl h s) sc nc k w4 ⟨(HX.out _ HB4.out).2.2.2.1,(HX.out _ HB4.out).2.2.2.2.1,ht.grow hb4,HS3.out.1.grow hb4⟩ HPO.out.lenS HOK.out HKK.out (fun i hi=>by have:=HPO.out.starts i hi;omega));have HP4:=lh (HP3.out.carry hb4);rw[HPO.out.lenS,HPO.out.lenN,ht.rows.len]at HTP;clear ht hb4 a0 a1 a2 a3 s0 s1 n0 p0 p1 p2 HTO;obtain⟨⟨a0,a1,a2,a3⟩,⟨s0,s1⟩,n0,-,-,-,-⟩:=HX.out _ HB4.out;obtain⟨p0,p1,p2,-,-,-,-⟩:=HP4.out
    go_wp2_with (go_at_call 48;go_fit HTP.out;rintro e w5 ⟨hx5,hb5⟩;obtain⟨v5,rfl,hv5⟩:=hx5.out;have HV5:=lh hv5;clear hx5 hv5)
    go_ret2
    have hw4:=(HX.out _ HB4.out).2.2.2.2.2.2;exact⟨lh ⟨_,by first | rfl | (rw[HR.out];rfl) | rw[HR.out],by rw[HR.out];exact⟨fun e=>Bn (HV5.out.1 e) hw4.size,fun e=>HV5.out.2 e⟩⟩,(HX.out _ (HB4.out.trans (hb5.mono HB4.out.size))).2.2.2.2.2.2⟩
noncomputable def Kf(h:Ae)(C:List An)(S:List Int)(ms:Int)(k:Nat):Int×Int×Int:=if(He h C S k).2=0 then Tl (He h C S k).1 (Ay ms 1000,Ar ms 1000)else(0,0,(He h C S k).2)
noncomputable def Hy(h:Ae)(C:List An)(S:List Int)(ms:Int):Nat→List (Int×Int)×Int
 | 0=>([],0)
 | k+1=>if(Hy h C S ms k).2=0 then(if(Kf h C S ms k).2.2=0 then((Hy h C S ms k).1++[((Kf h C S ms k).1,(Kf h C S ms k).2.1)],0)else([],(Kf h C S ms k).2.2))else Hy h C S ms k
theorem Sc{h:Ae}{C:List An}{S:List Int}{ms:Int}{k:Nat}(e:(Hy h C S ms k).2≠0):∀n,k≤n→Hy h C S ms n=Hy h C S ms k
 | 0,hn=>by
  obtain rfl:k=0:=by omega
  rfl
 | n+1,hn=>by
  rcases Nat.lt_or_ge n k with l | l
  ·obtain rfl:k=n+1:=by omega
   rfl
  ·have ih:=Sc e n l
   rw[Hy,ih,if_neg e]
theorem Ui{h:Ae}{C:List An}{S:List Int}{ms:Int}{k:Nat}(a:(Hy h C S ms k).2=0)(b:(Kf h C S ms k).2.2=0):Hy h C S ms (k+1)=((Hy h C S ms k).1++[((Kf h C S ms k).1,(Kf h C S ms k).2.1)],0):=by rw[Hy,if_pos a,if_pos b]
theorem Tz{h:Ae}{C:List An}{S:List Int}{ms:Int}{k:Nat}(a:(Hy h C S ms k).2=0)(b:(Kf h C S ms k).2.2≠0):Hy h C S ms (k+1)=([],(Kf h C S ms k).2.2):=by rw[Hy,if_pos a,if_neg b]
theorem Vz{h:Ae}{C:List An}{S:List Int}{ms:Int}:∀k,(Hy h C S ms k).2=0→(Hy h C S ms k).1.length=k
 | 0,_=>rfl
 | k+1,e=>by
  by_cases a:(Hy h C S ms k).2=0
  ·by_cases b:(Kf h C S ms k).2.2=0
   ·rw[Ui a b,List.length_append,Vz k a];rfl
   ·rw[Tz a b]at e;exact absurd e b
  ·rw[Sc a (k+1) (Nat.le_succ k)]at e;exact absurd e a
noncomputable def atE(h:Ae)(s:Aq)(G:List Int)(ms:Int):List (Int×Int)×Int:=
 if Db h s G=0 then(if ms<0∨1099511627776<ms then([],2)else if Nu s.cues (Bv h s G) (Cl h s)=true then Hy h s.cues (Bv h s G) ms h.sets.length else([],13))else([],Db h s G)
def AtV(w w':World)(v:Value)(r:List (Int×Int)×Int):Prop:=(r.2=0→w'.ownsRow w.heap.size 49 2 v r.1.length (Ek r.1))∧(r.2≠0→v=.slice none 0 0)
theorem AMh{w:World}{h:Ae}{s:Aq}{ga:Option Addr}{G:List Int}(hh:Ax w h)(hs:Bg w s)(hG:Bl w.heap.size w ga G):
  ∃W0,(Fo w h s)=W0∧Hid (∀w',Below W0.heap.size W0 w'→Au w' w.heap.size h∧Bo w' (w.heap.size+1) s∧Ax w' h∧Bg w' s∧Bl w'.heap.size w' ga G∧Below w.heap.size w w'):=by
 have hb:Below w.heap.size w (Fo w h s):=(Aa w _).alloc (by simp) _;have hH:=(Au.new w h 25).carry (Aa _ (Uo s));have hS':=Pa (w.alloc (Ex h)) s;rw[show(w.alloc (Ex h)).heap.size=w.heap.size+1 by simp]at hS';refine⟨_,rfl,lh fun w' z=>⟨hH.carry z,hS'.carry z,(hh.grow hb).grow z,(hs.grow hb).grow z,(hG.grow hb).grow z,hb.trans (z.mono hb.size)⟩⟩
theorem AQw(h:Ae)(s:Aq)(ga:Option Addr)(G:List Int)(gc:Nat)(ms:Int)(w:World)(hh:Ax w h)(hs:Bg w s)(hG:Bl w.heap.size w ga G)(hgl:G.length≤1000)(hm:-4611686018427387904≤ms∧ms≤4611686018427387904)
  (hC:∀k,k<h.sets.length→Db h s G=0→Nu s.cues (Bv h s G) (Cl h s)=true→(He h s.cues (Bv h s G) k).2=0→Fg (He h s.cues (Bv h s G) k).1):
  Calls Tryz.prog 15 #[.agg #[.string h.name,.int .i64 h.height,.slice h.sa h.sets.length h.sc,.slice h.ra h.roofs.length h.rc],.agg #[.slice s.ca s.cues.length s.cc,.slice s.pa s.pairs.length s.pc],.slice ga G.length gc,.int .i64 ms] w fun e w'=>Hid (∃v,e=.returned (.tuple #[v,.int .i64 (atE h s G ms).2])∧AtV w w' v (atE h s G ms))∧Below w.heap.size w w':=by
 have hsl:=hh.slen;have hcap:=hh.scap;obtain⟨m0,m1⟩:=hm;have HCV:=lh hC;obtain⟨W0,hW0,HX⟩:=AMh hh hs hG;clear hh hs hG hC;obtain⟨E,hE⟩:=nm (Db h s G)
 by_cases hz:E=0
 case neg=>
  have HE:=lh hE;have HR:Hid (atE h s G ms=([],E)):=lh (by unfold atE;rw[hE,if_neg hz]);have HZ:=lh hz;have g0:(E !=0)=true:=bne_iff_ne.2 hz;clear hz hE;have HMD:=lh (Iq h s ga G gc _ (HX.out _ br).2.2.1 (HX.out _ br).2.2.2.1 (HX.out _ br).2.2.2.2.1 hgl)
  go_enter Tryz.func15,Tryz.ntmps15
  go_upto_region 1 with (fail)
  try simp only[hW0]
  clear hW0;obtain⟨⟨a0,a1,a2,a3⟩,⟨s0,s1⟩,-,-,-,-⟩:=HX.out _ br
  go_wp2_with (go_at_call 44;go_fit HMD.out;rintro e w1 ⟨hx1,hb1⟩;obtain⟨ta,tn,tc,sa,sn,sc,na,nn,nc,rfl,hp1⟩:=hx1.out;clear hx1 hp1;rw[HE.out])
  go_ret2
  exact⟨lh ⟨_,by first | rfl | (rw[HR.out];rfl) | rw[HR.out],by rw[HR.out];exact⟨fun e=>absurd e HZ.out,fun _=>rfl⟩⟩,(HX.out _ hb1).2.2.2.2.2.alloc (by have:=(HX.out _ hb1).2.2.2.2.2.size;omega) _⟩
 case pos=>
  subst hz;obtain⟨hok,hpo⟩:=Er hE;have HOK:=lh hok;have HPO:=lh hpo;have HE:=lh hE;have HMD:=lh (AAj h s ga G gc _ (HX.out _ br).2.2.1 (HX.out _ br).2.2.2.1 (HX.out _ br).2.2.2.2.1 hgl hE);clear hok hpo hE
  go_enter Tryz.func15,Tryz.ntmps15
  go_upto_region 1 with (fail)
  try simp only[hW0]
  clear hW0;obtain⟨⟨a0,a1,a2,a3⟩,⟨s0,s1⟩,-,-,-,-⟩:=HX.out _ br
  go_upto_region 4 with (go_at_call 44;go_fit HMD.out;rintro e w1 ⟨hx1,hb1⟩;obtain⟨ta,tc,sa,sc,na,nc,rfl,hp1⟩:=hx1.out;have HP1:=lh hp1;clear hx1 hp1)
  obtain⟨hS1,hN1,hT1⟩:=HP1.out;have hbx:=Aa w1 (.cells #[.slice ta (s.cues.length+1) tc,.slice sa s.cues.length sc,.slice na s.cues.length nc] 109);have hPC:=PC.put w1 (.slice ta (s.cues.length+1) tc) (.slice sa s.cues.length sc) (.slice na s.cues.length nc) 109;have hsz:=hb1.size;have HB2:Hid (Below W0.heap.size W0 (w1.alloc (.cells #[.slice ta (s.cues.length+1) tc,.slice sa s.cues.length sc,.slice na s.cues.length nc] 109))):=lh (hb1.alloc hsz _);obtain⟨B8,hB8⟩:=nm (w1.heap.size);have HPS:Hid (Bl (w1.alloc (.cells #[.slice ta (s.cues.length+1) tc,.slice sa s.cues.length sc,.slice na s.cues.length nc] 109)).heap.size (w1.alloc (.cells #[.slice ta (s.cues.length+1) tc,.slice sa s.cues.length sc,.slice na s.cues.length nc] 109)) sa (Bv h s G)∧Bl (w1.alloc (.cells #[.slice ta (s.cues.length+1) tc,.slice sa s.cues.length sc,.slice na s.cues.length nc] 109)).heap.size (w1.alloc (.cells #[.slice ta (s.cues.length+1) tc,.slice sa s.cues.length sc,.slice na s.cues.length nc] 109)) na (Cl h s)∧(0<h.sets.length→∃P,Fi (w1.alloc (.cells #[.slice ta (s.cues.length+1) tc,.slice sa s.cues.length sc,.slice na s.cues.length nc] 109)) ta h s.cues P)):=lh ⟨hS1.grow hbx,hN1.grow hbx,fun q=>by obtain⟨P,t⟩:=hT1 q;exact⟨P,t.grow hbx⟩⟩;have HPC:=lh hPC;clear hS1 hN1 hT1 hbx hPC HP1 HMD hsz hb1 a0 a1 a2 a3 s0 s1;obtain⟨W2,hW2⟩:=nm (w1.alloc (.cells #[.slice ta (s.cues.length+1) tc,.slice sa s.cues.length sc,.slice na s.cues.length nc] 109));rw[hW2]at HB2 HPS HPC;simp only[hW2];rw[hB8]at HPC;simp only[hB8];clear hW2 hB8
  by_cases hr:ms<0∨1099511627776<ms
  ·have HR:Hid (atE h s G ms=([],2)):=lh (by unfold atE;rw[HE.out,if_pos rfl,if_pos hr])
   have hw2:=(HX.out _ HB2.out).2.2.2.2.2
   by_cases hl:ms<0
   ·go_wp2_with fail
    go_ret2
    exact⟨lh ⟨_,by first | rfl | (rw[HR.out];rfl) | rw[HR.out],by rw[HR.out];exact⟨fun e=>absurd e (by decide),fun _=>rfl⟩⟩,hw2⟩
   ·have hl2:1099511627776<ms:=by omega
    go_wp2_with fail
    go_ret2
    exact⟨lh ⟨_,by first | rfl | (rw[HR.out];rfl) | rw[HR.out],by rw[HR.out];exact⟨fun e=>absurd e (by decide),fun _=>rfl⟩⟩,hw2⟩
  have l0:¬ms<0:=fun e=>hr (.inl e);have l1:¬1099511627776<ms:=fun e=>hr (.inr e);have HL:Hid (¬(ms<0∨1099511627776<ms)):=lh hr;clear hr
  go_upto_region 6 with (fail)
  obtain⟨⟨a0,a1,a2,a3⟩,⟨s0,s1⟩,hin,hsi,-,-⟩:=HX.out _ HB2.out;obtain⟨p0,p1,p2,-,-,-,-⟩:=HPC.out;have HTO:=lh (Sb s ta (s.cues.length+1) tc sa na (Bv h s G) (Cl h s) sc nc W2 hsi HPS.out.1 HPS.out.2.1 HPO.out.lenS HPO.out.lenN (fun i hi=>by have:=HPO.out.starts i hi;omega) (fun i hi=>by have:=HPO.out.lens i hi;omega));rw[HPO.out.lenS,HPO.out.lenN]at HTO;obtain⟨o,ho⟩:=nm (Nu s.cues (Bv h s G) (Cl h s));rw[ho]at HTO;have HO:=lh ho;clear hin hsi ho
  cases o
  case false=>
   have HR:Hid (atE h s G ms=([],13)):=lh (by unfold atE;rw[HE.out,if_pos rfl,if_neg HL.out,HO.out];rfl)
   go_wp2_with (go_at_call 47;go_fit HTO.out;rintro e w4 ⟨rfl,hb4⟩)
   go_ret2
   exact⟨lh ⟨_,by first | rfl | (rw[HR.out];rfl) | rw[HR.out],by rw[HR.out];exact⟨fun e=>absurd e (by decide),fun _=>rfl⟩⟩,(HX.out _ (HB2.out.trans (hb4.mono HB2.out.size))).2.2.2.2.2⟩
  case true=>
  have HR:Hid (atE h s G ms=Hy h s.cues (Bv h s G) ms h.sets.length):=lh (by unfold atE;rw[HE.out,if_pos rfl,if_neg HL.out,if_pos HO.out]);have HMK:=lh (fun w'=>AEk ms (by omega) (by omega) w');obtain⟨N1,hN1⟩:=nm (Ay ms 1000);obtain⟨D1,hD1⟩:=nm (Ar ms 1000);rw[hN1,hD1]at HMK;have HND:Hid (Ay ms 1000=N1∧Ar ms 1000=D1):=lh ⟨hN1,hD1⟩;clear hN1 hD1
  go_upto_region 12 with (first | (go_at_call 47;go_fit HTO.out;rintro e w3 ⟨rfl,hb3⟩) | (go_at_call 53;go_fit (HMK.out _);rintro e w4 ⟨rfl,hb4⟩))
  have hbw:=hb3.trans (hb4.mono hb3.size);have hf4:=FI.put w4 N1 D1 49;have hb5:=hbw.alloc hbw.size (.cells #[.int .i64 N1,.int .i64 D1] 49);obtain⟨Bf,hBf⟩:=nm (w4.heap.size);obtain⟨W5,hW5⟩:=nm (w4.alloc (.cells #[.int .i64 N1,.int .i64 D1] 49));rw[hW5]at hb5 hf4;simp only[hW5];rw[hBf]at hf4;simp only[hBf]
  have HX5:Hid (∀w',Below W5.heap.size W5 w'→Below W0.heap.size W0 w'∧Below W2.heap.size W2 w'):=lh fun w' z=>by
   have y:=hb5.trans (z.mono hb5.size);exact⟨HB2.out.trans (y.mono HB2.out.size),y⟩
  have HF5:Hid (∀w',Below W5.heap.size W5 w'→w'.cell? ⟨Bf,0,none⟩=some (.int .i64 N1)∧w'.cell? ⟨Bf,1,none⟩=some (.int .i64 D1)):=lh fun w' z=>⟨(hf4.carry z).1,(hf4.carry z).2.1⟩
  have HPT:Hid (∀w' k,Below W5.heap.size W5 w'→k<h.sets.length→Calls Tryz.prog 48 #[.agg #[.slice ta (s.cues.length+1) tc,.slice sa s.cues.length sc,.slice na s.cues.length nc],.agg #[.string h.name,.int .i64 h.height,.slice h.sa h.sets.length h.sc,.slice h.ra h.roofs.length h.rc],.agg #[.slice s.ca s.cues.length s.cc,.slice s.pa s.pairs.length s.pc],.int .i64 (k:Nat)] w' fun e w2=>Hid (∃v,e=.returned (.tuple #[v,.int .i64 (He h s.cues (Bv h s G) k).2])∧APe w' w2 v (He h s.cues (Bv h s G) k))∧Below w'.heap.size w' w2):=lh fun w' k z hk=>by
   obtain⟨y0,y2⟩:=HX5.out w' z;obtain⟨P,ht⟩:=HPS.out.2.2 (by omega);have:=Zb h s ta P tc sa na (Bv h s G) (Cl h s) sc nc k w' ⟨(HX.out _ y0).2.2.1,(HX.out _ y0).2.2.2.1,ht.grow y2,HPS.out.1.grow y2⟩ HPO.out.lenS HOK.out hk (fun i hi=>by have:=HPO.out.starts i hi;omega)
   rwa [HPO.out.lenS,HPO.out.lenN,ht.rows.len]at this
  have HWB:Hid (∀w',Below W5.heap.size W5 w'→Au w' w.heap.size h∧Bo w' (w.heap.size+1) s∧Below w.heap.size w w'∧PC w' B8 (.slice ta (s.cues.length+1) tc) (.slice sa s.cues.length sc) (.slice na s.cues.length nc)):=lh fun w' z=>by
   obtain⟨y0,y2⟩:=HX5.out w' z;obtain⟨x1,x2,-,-,-,x6⟩:=HX.out _ y0;exact⟨x1,x2,x6,HPC.out.carry y2⟩
  clear hBf hW5 hf4 hb5 hbw hb3 hb4 a0 a1 a2 a3 s0 s1 p0 p1 p2 HTO HMK;obtain⟨⟨a0,a1,a2,a3⟩,-,-,-⟩:=HWB.out _ br
  go_upto_region 13 with (fail)
  clear a0 a1 a2 a3
  go_loopw [13,52] (fun v iv wr=>∃k:Nat,iv=.int .i64 k∧k≤h.sets.length∧Below W5.heap.size W5 wr∧Hid ((Hy h s.cues (Bv h s G) ms k).2=0∧wr.ownsRow W5.heap.size 49 2 v k (Ek (Hy h s.cues (Bv h s G) ms k).1))) (fun _ iv _=>h.sets.length-(intOf iv).toNat)
  case atStart=>exact⟨0,rfl,nz,br,lh ⟨rfl,World.ownsRow_nil _ _ _ _⟩⟩
  case round=>
   obtain⟨k,rfl,hk,hB,HO2⟩:=hrel;obtain⟨wk,rfl⟩:∃wo:World,wo=wr:=⟨_,rfl⟩;have hws:w.heap.size≤W5.heap.size:=(HWB.out _ br).2.2.1.size
   by_cases hlt:k<h.sets.length
   case neg=>
    obtain rfl:k=h.sets.length:=by omega
    have hw:=(HWB.out _ hB).2.2.1;have HZ:Hid ((Hy h s.cues (Bv h s G) ms h.sets.length).1.length=h.sets.length):=lh (Vz _ HO2.out.1)
    go_wp2_with fail
    go_ret2
    exact⟨lh ⟨_,by first | rfl | (rw[HR.out,HO2.out.1];rfl) | rw[HR.out,HO2.out.1],by rw[HR.out];exact⟨fun _=>by rw[HZ.out];exact Bn HO2.out.2 hws,fun e=>absurd HO2.out.1 e⟩⟩,hw⟩
   have HWS:=lh hws;have k0:0≤(k:Int):=by omega
   have k1:(k:Int)<(h.sets.length:Int):=by omega
   have kw:IntKind.i64.wrap ((k:Int)+1)=(k:Int)+1:=IntWalk.i64_in _ (by omega);obtain⟨⟨a0,a1,a2,a3⟩,⟨s0,s1⟩,-,p0,p1,p2,-,-,-,-⟩:=HWB.out _ hB;have HPK:=lh (HPT.out wk k hB hlt);obtain⟨Y,hY⟩:=nm (He h s.cues (Bv h s G) k);rw[hY]at HPK;have HY:=lh hY;clear hY hws
   go_upto_region 16 with (go_at_call 48;go_fit HPK.out;rintro e w6 ⟨hx6,hb6⟩;obtain⟨v6,rfl,hv6⟩:=hx6.out;have HV6:=lh hv6;clear hx6 hv6)
   have HB6:Hid (Below W5.heap.size W5 w6):=lh (hB.trans (hb6.mono hB.size));have HO6:Hid (w6.ownsRow W5.heap.size 49 2 u13 k (Ek (Hy h s.cues (Bv h s G) ms k).1)):=lh (Ac HO2.out.2 hb6);clear a0 a1 a2 a3 s0 s1 p0 p1 p2 hb6 hB
   by_cases he:Y.2=0
   case neg=>
    have hF:Kf h s.cues (Bv h s G) ms k=(0,0,Y.2):=by unfold Kf;rw[HY.out,if_neg he]
    have hF2:Hy h s.cues (Bv h s G) ms (k+1)=([],Y.2):=by rw[Tz HO2.out.1 (by rw[hF];exact he),hF]
    have HE2:Hid (atE h s G ms=([],Y.2)):=lh (by rw[HR.out,Sc (k:=k+1) (by rw[hF2];exact he) _ hlt,hF2]);have hwb:=(HWB.out _ HB6.out).2.2.1;have hye:(Y.2==0)=false:=by simpa using he
    clear hF hF2
    go_wp2_with fail
    go_ret2
    exact⟨lh ⟨_,by first | rfl | (rw[HE2.out];rfl) | rw[HE2.out],by rw[HE2.out];exact⟨fun e=>absurd e he,fun _=>rfl⟩⟩,hwb⟩
   have hr6:=HV6.out.1 he;obtain⟨ya,yc,rfl,-,-,-,hps⟩:=Ia hr6;obtain⟨X,hX⟩:=nm (Tl Y.1 (N1,D1));have HQA:=lh (AQl Y.1 (by rw[←HY.out];exact HCV.out k hlt HE.out HO.out (by rw[HY.out];exact he)) (N1,D1) ya yc w6 hps);rw[hX]at HQA;have HSA:Hid (Kf h s.cues (Bv h s G) ms k=X):=lh (by unfold Kf;rw[HY.out,if_pos he,HND.out.1,HND.out.2,hX]);have hye:(Y.2==0)=true:=by simpa using he
   obtain⟨f0,f1⟩:=HF5.out _ HB6.out;clear hr6 hps hX
   go_upto_region 19 with (go_at_call 39;go_fit HQA.out;rintro e w7 ⟨rfl,hb7⟩)
   have hf7:=FI.put w7 X.1 X.2.1 49;have hb8:=hb7.alloc hb7.size (.cells #[.int .i64 X.1,.int .i64 X.2.1] 49);obtain⟨Bx,hBx⟩:=nm (w7.heap.size);obtain⟨W8,hW8⟩:=nm (w7.alloc (.cells #[.int .i64 X.1,.int .i64 X.2.1] 49));rw[hW8]at hf7 hb8;simp only[hW8];rw[hBx]at hf7;simp only[hBx];have HB8:Hid (Below W5.heap.size W5 W8):=lh (HB6.out.trans (hb8.mono HB6.out.size));have HO8:Hid (W8.ownsRow W5.heap.size 49 2 u13 k (Ek (Hy h s.cues (Bv h s G) ms k).1)):=lh (Ac HO6.out hb8);have HLN:Hid ((Hy h s.cues (Bv h s G) ms k).1.length=k):=lh (Vz k HO2.out.1);obtain⟨y0,y1,-⟩:=hf7;clear hBx hW8 hb8 hb7 f0 f1
   by_cases hx:X.2.2=0
   case neg=>
    have hF2:Hy h s.cues (Bv h s G) ms (k+1)=([],X.2.2):=by rw[Tz HO2.out.1 (by rw[HSA.out];exact hx),HSA.out]
    have HE2:Hid (atE h s G ms=([],X.2.2)):=lh (by rw[HR.out,Sc (k:=k+1) (by rw[hF2];exact hx) _ hlt,hF2]);have hwb:=(HWB.out _ HB8.out).2.2.1;have hxe:(X.2.2==0)=false:=by simpa using hx
    clear hF2
    go_wp2_with fail
    go_ret2
    exact⟨lh ⟨_,by first | rfl | (rw[HE2.out];rfl) | rw[HE2.out],by rw[HE2.out];exact⟨fun e=>absurd e hx,fun _=>rfl⟩⟩,hwb⟩
   have hxe:(X.2.2==0)=true:=by simpa using hx
   have HN2:Hid (Hy h s.cues (Bv h s G) ms (k+1)=((Hy h s.cues (Bv h s G) ms k).1++[(X.1,X.2.1)],0)):=lh (by rw[Ui HO2.out.1 (by rw[HSA.out];exact hx),HSA.out]);obtain⟨L,hL⟩:=nm ((Hy h s.cues (Bv h s G) ms k).1);rw[hL]at HN2 HLN HO8;have HOL:Hid (W8.ownsRow W5.heap.size 49 2 u13 L.length (Ek L)):=lh (by rw[HLN.out];exact HO8.out);have hsz:=HB8.out.size;clear hL HO2 HO6
   go_wp2_with (at_builtin;refine Zo rfl _ _ rfl W5.heap.size _ L rfl (HOL.out.alloc _) _ (X.1,X.2.1) rfl ⟨by simp,by simp⟩ (by rw[HLN.out];omega) (by simp;omega) ?_;intro v2 w9 hown9 hg9;have HO9:=lh hown9;have HB9:=lh ((Aw (.cells #[.int .i64 X.1,.int .i64 X.2.1] 49) HB8.out).grown hg9 (by simp;omega) (fun j e=>(HOL.out.lt _ e).1));clear hown9 hg9)
   go_roundw
   case rel=>exact⟨k+1,by go_num,by omega,HB9.out,lh ⟨by rw[HN2.out],by have:=HO9.out;rw[List.length_append,HLN.out]at this;rw[HN2.out];exact this⟩⟩
   case measure=>simp[intOf];omega
end
section
open Go.RowKit
deriving instance DecidableEq for Pc
def xW:List Pc:=[⟨0,1,0,1,0,1,50,1⟩,⟨2,1,200,1,200,1,0,1⟩,⟨5,1,800,1,200,1,-50,1⟩,⟨7,1,1000,1,0,1,0,1⟩]
def xP:List Pc:=[⟨0,1,5000,1,0,1,0,1⟩,⟨2,1,5000,1,0,1,-50,1⟩,⟨4,1,4800,1,-200,1,0,1⟩,⟨7,1,4200,1,-200,1,50,1⟩,⟨9,1,4000,1,0,1,0,1⟩]
theorem AQv:Dg 1000 xM.rise xM.fall (Lb 1000 xM)=xW:=by
 rw[ASs]
 decide+kernel
theorem ARr(a s m c:Option Addr):Cq (xH a s) (xT m c).cues [2000] 0 1=(xP,0):=by
 rw[Tw (h:=xH a s) (C:=(xT m c).cues) (S:=[2000]) (k:=0) (n:=0) (m:=xM) (z:=5000) (d:=1000) (W:=xW) rfl (by rfl) (by rfl) (by rfl) (by decide) (by decide) AQv];show Ea 2000 5000 (decide ((4000:Int)>5000)) [⟨0,1,5000,1,0,1,0,1⟩] xW 4=_
 decide+kernel
theorem ABt(a s m c:Option Addr):He (xH a s) (xT m c).cues [2000] 0=(xP,0):=by
 have e:Cq (xH a s) (xT m c).cues [2000] 0 (xT m c).cues.length=(xP,0):=ARr a s m c;rw[ACz (by rw[e]) (by rw[e];decide),e]
theorem AMt(m c:Option Addr):Nu (xT m c).cues [2000] [7000]=true:=Ti.2 fun i hi k hk=>by
 have:i<1:=hi;omega
theorem AVt:Fg xP:=⟨by decide,by decide,fun i hi=>by
  have hi':i<5:=hi;obtain rfl | rfl | rfl | rfl | rfl:i=0∨i=1∨i=2∨i=3∨i=4:=by omega
  all_goals exact⟨by decide+kernel,by decide+kernel,by decide+kernel,by decide+kernel⟩,fun i hi=>by
  have hi':i+1<5:=hi;obtain rfl | rfl | rfl | rfl:i=0∨i=1∨i=2∨i=3:=by omega
  all_goals decide+kernel⟩
theorem ARf(a s m c:Option Addr):Oa (xH a s) (xT m c) [2000] ⟨#[115]⟩=(xP,0):=by
 unfold Oa;rw[Qa,if_pos rfl,Rl,Wp,AMt m c,if_neg (show ¬Cv (xH a s).sets ⟨#[115]⟩<0 from by rw[show Cv (xH a s).sets ⟨#[115]⟩=0 from AOw a s];decide),show Cv (xH a s).sets ⟨#[115]⟩=0 from AOw a s,if_pos rfl];exact ABt a s m c
theorem AVb(a s m c:Option Addr):atE (xH a s) (xT m c) [2000] 5000=([(4600,1)],0):=by
 unfold atE;rw[Qa,if_pos rfl,Rl,Wp,AMt m c,if_neg (by decide),if_pos rfl]
 have e:Kf (xH a s) (xT m c).cues [2000] 5000 0=(4600,1,0):=by
  unfold Kf;rw[ABt,if_pos rfl]
  decide+kernel
 show Hy (xH a s) (xT m c).cues [2000] 5000 1=_;rw[Ui rfl (by rw[e]),e]
 rfl
end
section
open Go.RowKit Go.Shelf
attribute [local go_sem] Oper.semAt_some
def Hs(w:World)(b:Nat)(vs:List Value):Prop:=∀i (h:i<vs.length),w.cell? ⟨b,i,none⟩=some vs[i]
theorem Hs.new(w:World)(vs:List Value)(t:TypeId){n:Nat}(hn:w.heap.size=n):Hs (w.alloc (.cells vs.toArray t)) n vs:=fun i h=>by
 subst hn
 simp[h]
theorem Hs.at{w:World}{b:Nat}{vs:List Value}(h:Hs w b vs)(i:Nat){v:Value}(e:vs[i]? =some v):w.cell? ⟨b,i,none⟩=some v:=by
 obtain⟨hi,rfl⟩:=List.getElem?_eq_some_iff.1 e;exact h i hi
theorem Hs.al{w:World}{b:Nat}{vs:List Value}(h:Hs w b vs)(o:Obj):Hs (w.alloc o) b vs:=fun i hi=>
 ((Aa w o).cell (p:=⟨b,i,none⟩) (wl (h i hi))).trans (h i hi)
theorem Hs.far{w:World}{b b2:Nat}{vs:List Value}(h:Hs w b vs)(hne:b≠b2):∀(us:List Value) (j:Nat),Hs (Ak w b2 j us) b vs:=by
 intro us
 induction us generalizing w with
 | nil=>exact fun _=>h
 | cons u us ih=>exact fun j=>ih (w:=w.setCell ⟨b2,j,none⟩ u) (fun i hi=>(World.cell?_setCell_other _ _ _ _ (fun x=>hne (congrArg Addr.block x).symm)).trans (h i hi)) (j+1)
theorem Hs.put{w:World}{b:Nat}{us vs:List Value}(h:Hs w b us)(hl:vs.length=us.length):Hs (Ak w b 0 vs) b vs:=fun i hi=>by
 have:=Po vs w b 0 (fun k hk=>by rw[Nat.zero_add,h k (by omega)];rfl) i hi
 rwa [Nat.zero_add]at this
theorem Kp:∀(us:List Value) (w:World) (b j:Nat),(Ak w b j us).heap.size=w.heap.size
 | [],_,_,_=>rfl
 | u::us,w,b,j=>(Kp us (w.setCell ⟨b,j,none⟩ u) b (j+1)).trans (by simp)
theorem Mw:∀(us:List Value) (w:World) (b j:Nat) (p:Addr),(Ak w b j us).frozen? p=w.frozen? p
 | [],_,_,_,_=>rfl
 | u::us,w,b,j,p=>(Mw us (w.setCell ⟨b,j,none⟩ u) b (j+1) p).trans (by simp)
structure XS(w W:World)(n b1 b2 b3 b4 b5 b6 b7:Nat)(a c:List Value):Prop where
 below:Below n w W
 size:b7<W.heap.size
 h0:Hs W n a
 h1:Hs W b1 c
 h2:Hs W b2 [.int .i64 0,.int .i64 2000]
 h3:Hs W b3 [.string ⟨#[115]⟩,.int .i64 0,.int .i64 0,.int .i64 5000,.int .i64 2000,.slice (some ⟨b2,0,none⟩) 2 2,.int .i64 0,.int .i64 0,.int .i64 1,.int .i64 1,.int .i64 0,.slice none 0 0,.slice none 0 0]
 h4:Hs W b4 [.string ⟨#[104]⟩,.int .i64 5000,.slice (some ⟨b3,0,none⟩) 1 1,.slice none 0 0]
 h5:Hs W b5 [.string ⟨#[115]⟩,.int .i64 4000,.int .i64 200,.int .i64 100,.int .i64 100]
 h6:Hs W b6 [.string ⟨#[113]⟩,.string ⟨#[]⟩,.int .i64 1,.int .i64 0,.slice (some ⟨b5,0,none⟩) 1 1,.int .i64 0,.int .i64 0]
 h7:Hs W b7 [.slice (some ⟨b6,0,none⟩) 1 1,.slice none 0 0]
 fr:∀i,W.frozen? ⟨n,i,none⟩=false∧W.frozen? ⟨b1,i,none⟩=false
structure XB(n b1 b2 b3 b4 b5 b6 b7:Nat):Prop where
 e1:b1=n+1
 e2:b2=n+2
 e3:b3=n+3
 e4:b4=n+4
 e5:b5=n+5
 e6:b6=n+6
 e7:b7=n+7
section
variable {w W:World} {n b1 b2 b3 b4 b5 b6 b7:Nat} {a c:List Value}
theorem XS.al(h:XS w W n b1 b2 b3 b4 b5 b6 b7 a c)(e:XB n b1 b2 b3 b4 b5 b6 b7)(o:Array Value)(t:TypeId):XS w (W.alloc (.cells o t)) n b1 b2 b3 b4 b5 b6 b7 a c:=by
 have:=h.size;have:=e.e7;exact⟨h.below.alloc (by omega) _,by simp;omega,h.h0.al _,h.h1.al _,h.h2.al _,h.h3.al _,h.h4.al _,h.h5.al _,h.h6.al _,h.h7.al _,fun i=>⟨(frozen?_alloc_cells W o t _).trans (h.fr i).1,(frozen?_alloc_cells W o t _).trans (h.fr i).2⟩⟩
theorem XS.s0(h:XS w W n b1 b2 b3 b4 b5 b6 b7 a c)(e:XB n b1 b2 b3 b4 b5 b6 b7)(vs:List Value)(hl:vs.length=a.length):XS w (Ak W n 0 vs) n b1 b2 b3 b4 b5 b6 b7 vs c:=by
 obtain⟨e1,e2,e3,e4,e5,e6,e7⟩:=e;exact⟨Dl vs W 0 h.below nr,by rw[Kp];exact h.size,h.h0.put hl,h.h1.far (by omega) _ _,h.h2.far (by omega) _ _,h.h3.far (by omega) _ _,h.h4.far (by omega) _ _,h.h5.far (by omega) _ _,h.h6.far (by omega) _ _,h.h7.far (by omega) _ _,fun i=>by rw[Mw,Mw];exact h.fr i⟩
theorem XS.s1(h:XS w W n b1 b2 b3 b4 b5 b6 b7 a c)(e:XB n b1 b2 b3 b4 b5 b6 b7)(vs:List Value)(hl:vs.length=c.length):XS w (Ak W b1 0 vs) n b1 b2 b3 b4 b5 b6 b7 a vs:=by
 obtain⟨e1,e2,e3,e4,e5,e6,e7⟩:=e;exact⟨Dl vs W 0 h.below (by omega),by rw[Kp];exact h.size,h.h0.far (by omega) _ _,h.h1.put hl,h.h2.far (by omega) _ _,h.h3.far (by omega) _ _,h.h4.far (by omega) _ _,h.h5.far (by omega) _ _,h.h6.far (by omega) _ _,h.h7.far (by omega) _ _,fun i=>by rw[Mw,Mw];exact h.fr i⟩
theorem XS.drew(h:XS w W n b1 b2 b3 b4 b5 b6 b7 a c):XS w W.drew n b1 b2 b3 b4 b5 b6 b7 a c:=⟨h.below.drew,h.size,h.h0,h.h1,h.h2,h.h3,h.h4,h.h5,h.h6,h.h7,h.fr⟩
theorem XS.held(h:XS w W n b1 b2 b3 b4 b5 b6 b7 a c):W.cell? ⟨b4,0,none⟩=some (.string ⟨#[104]⟩)∧W.cell? ⟨b4,1,none⟩=some (.int .i64 5000)∧W.cell? ⟨b4,2,none⟩=some (.slice (some ⟨b3,0,none⟩) 1 1)∧W.cell? ⟨b4,3,none⟩=some (.slice none 0 0)∧W.cell? ⟨b7,0,none⟩=some (.slice (some ⟨b6,0,none⟩) 1 1)∧W.cell? ⟨b7,1,none⟩=some (.slice none 0 0):=
 ⟨h.h4.at 0 rfl,h.h4.at 1 rfl,h.h4.at 2 rfl,h.h4.at 3 rfl,h.h7.at 0 rfl,h.h7.at 1 rfl⟩
theorem Je{i:Nat}(h:i<1):i=0:=by omega
theorem XS.got(h:XS w W n b1 b2 b3 b4 b5 b6 b7 a c)(e:XB n b1 b2 b3 b4 b5 b6 b7):Ax W (xH (some ⟨b2,0,none⟩) (some ⟨b3,0,none⟩))∧Bg W (xT (some ⟨b5,0,none⟩) (some ⟨b6,0,none⟩)):=by
 obtain⟨e1,e2,e3,e4,e5,e6,e7⟩:=e;have hz:=h.size
 have si:Ls W (xS (some ⟨b2,0,none⟩)):=⟨⟨fun _=>⟨b2,0,rfl,by omega,fun i hi=>by
  have hi':i<2:=hi;obtain rfl | rfl:i=0∨i=1:=by omega
  ·exact h.h2.at 0 rfl
  ·exact h.h2.at 1 rfl⟩,fun hl=>absurd hl (Nat.lt_irrefl 0),fun hl=>absurd hl (Nat.lt_irrefl 0),Nat.le_refl 2,Nat.le_refl 0,Nat.le_refl 0,(fun e=>by cases e),fun _=>rfl,fun _=>rfl⟩,fun x hx=>absurd hx (by simp[xS]),fun x hx=>absurd hx (by simp[xS])⟩
 refine⟨⟨⟨fun _=>⟨b3,0,rfl,by omega,fun i hi=>?_⟩,fun hl=>absurd hl (Nat.lt_irrefl 0),fun i hi=>?_,Nat.le_refl 1,Nat.le_refl 0,(fun e=>by cases e),fun _=>rfl⟩,fun i hi=>?_,(show 1≤1000 by decide),(show 0≤1000 by decide)⟩,?_⟩
 ·obtain rfl:=Je hi
  exact⟨h.h3.at 0 rfl,h.h3.at 1 rfl,h.h3.at 2 rfl,h.h3.at 3 rfl,h.h3.at 4 rfl,h.h3.at 5 rfl,h.h3.at 6 rfl,h.h3.at 7 rfl,h.h3.at 8 rfl,h.h3.at 9 rfl,h.h3.at 10 rfl,h.h3.at 11 rfl,h.h3.at 12 rfl⟩
 ·obtain rfl:=Je hi
  exact si.toSetIn0
 ·obtain rfl:=Je hi
  exact si
 ·refine⟨⟨fun _=>⟨b6,0,rfl,by omega,fun i hi=>?_⟩,fun i hi=>?_,fun hl=>absurd hl (Nat.lt_irrefl 0),Nat.le_refl 1,(fun e=>by cases e),fun i hi=>?_,fun i hi=>?_,Nat.le_refl 0,fun _=>rfl⟩,(show 1≤1000 by decide),fun i hi=>?_,fun x hx=>absurd hx (by simp[xT])⟩
  ·obtain rfl:=Je hi
   exact⟨h.h6.at 0 rfl,h.h6.at 1 rfl,h.h6.at 2 rfl,h.h6.at 3 rfl,h.h6.at 4 rfl,h.h6.at 5 rfl,h.h6.at 6 rfl⟩
  ·obtain rfl:=Je hi
   refine fun _=>⟨b5,0,rfl,by omega,fun i hi=>?_⟩;obtain rfl:=Je hi;exact⟨h.h5.at 0 rfl,h.h5.at 1 rfl,h.h5.at 2 rfl,h.h5.at 3 rfl,h.h5.at 4 rfl⟩
  ·obtain rfl:=Je hi
   exact Nat.le_refl 1
  ·obtain rfl:=Je hi
   exact(fun e=>by cases e)
  ·obtain rfl:=Je hi
   exact(show 1≤1000 by decide)
end
theorem ATj(w:World)(n b1 b2 b3 b4 b5 b6 b7:Nat)(hn:w.heap.size=n)(e:XB n b1 b2 b3 b4 b5 b6 b7):XS w ((((((((w.alloc (.cells #[.string ⟨#[]⟩,.int .i64 0,.slice none 0 0,.slice none 0 0] 25)).alloc (.cells #[.slice none 0 0,.slice none 0 0] 29)).alloc (.cells #[.int .i64 0,.int .i64 2000] 3)).alloc (.cells #[.string ⟨#[115]⟩,.int .i64 0,.int .i64 0,.int .i64 5000,.int .i64 2000,.slice (some ⟨b2,0,none⟩) 2 2,.int .i64 0,.int .i64 0,.int .i64 1,.int .i64 1,.int .i64 0,.slice none 0 0,.slice none 0 0] 59)).alloc (.cells #[.string ⟨#[104]⟩,.int .i64 5000,.slice (some ⟨b3,0,none⟩) 1 1,.slice none 0 0] 25)).alloc (.cells #[.string ⟨#[115]⟩,.int .i64 4000,.int .i64 200,.int .i64 100,.int .i64 100] 94)).alloc (.cells #[.string ⟨#[113]⟩,.string ⟨#[]⟩,.int .i64 1,.int .i64 0,.slice (some ⟨b5,0,none⟩) 1 1,.int .i64 0,.int .i64 0] 86)).alloc (.cells #[.slice (some ⟨b6,0,none⟩) 1 1,.slice none 0 0] 29)) n b1 b2 b3 b4 b5 b6 b7 [.string ⟨#[]⟩,.int .i64 0,.slice none 0 0,.slice none 0 0] [.slice none 0 0,.slice none 0 0]:=by
 obtain⟨e1,e2,e3,e4,e5,e6,e7⟩:=e;have H0:=Hs.new w [.string ⟨#[]⟩,.int .i64 0,.slice none 0 0,.slice none 0 0] 25 (n:=n) (by exact hn);have z0:(w.alloc (.cells #[.string ⟨#[]⟩,.int .i64 0,.slice none 0 0,.slice none 0 0] 25)).heap.size=n+1:=by simp[hn]
 have q0:Below n w (w.alloc (.cells #[.string ⟨#[]⟩,.int .i64 0,.slice none 0 0,.slice none 0 0] 25)):=by have:=Aa w (.cells #[.string ⟨#[]⟩,.int .i64 0,.slice none 0 0,.slice none 0 0] 25);rwa [hn]at this
 have f0:∀i,(w.alloc (.cells #[.string ⟨#[]⟩,.int .i64 0,.slice none 0 0,.slice none 0 0] 25)).frozen? ⟨n,i,none⟩=false:=fun i=>World.frozen?_alloc_at _ _ _ _ (by exact hn.symm);generalize w.alloc (.cells #[.string ⟨#[]⟩,.int .i64 0,.slice none 0 0,.slice none 0 0] 25)=w1 at *;have H1:=Hs.new w1 [.slice none 0 0,.slice none 0 0] 29 (n:=b1) (by rw[z0];omega);replace H0:=H0.al (.cells #[.slice none 0 0,.slice none 0 0] 29);have z1:(w1.alloc (.cells #[.slice none 0 0,.slice none 0 0] 29)).heap.size=n+2:=by simp[z0]
 replace q0:=q0.alloc (by omega) (.cells #[.slice none 0 0,.slice none 0 0] 29);have q1:=q0;replace f0:∀i,(w1.alloc (.cells #[.slice none 0 0,.slice none 0 0] 29)).frozen? ⟨n,i,none⟩=false:=fun i=>(frozen?_alloc_cells _ _ _ _).trans (f0 i);have f1:∀i,(w1.alloc (.cells #[.slice none 0 0,.slice none 0 0] 29)).frozen? ⟨b1,i,none⟩=false:=fun i=>World.frozen?_alloc_at _ _ _ _ (by rw[z0];omega);generalize w1.alloc (.cells #[.slice none 0 0,.slice none 0 0] 29)=w2 at *;have H2:=Hs.new w2 [.int .i64 0,.int .i64 2000] 3 (n:=b2) (by rw[z1];omega);replace H0:=H0.al (.cells #[.int .i64 0,.int .i64 2000] 3);replace H1:=H1.al (.cells #[.int .i64 0,.int .i64 2000] 3);have z2:(w2.alloc (.cells #[.int .i64 0,.int .i64 2000] 3)).heap.size=n+3:=by simp[z1]
 replace q1:=q1.alloc (by omega) (.cells #[.int .i64 0,.int .i64 2000] 3);have q2:=q1;replace f0:∀i,(w2.alloc (.cells #[.int .i64 0,.int .i64 2000] 3)).frozen? ⟨n,i,none⟩=false:=fun i=>(frozen?_alloc_cells _ _ _ _).trans (f0 i);replace f1:∀i,(w2.alloc (.cells #[.int .i64 0,.int .i64 2000] 3)).frozen? ⟨b1,i,none⟩=false:=fun i=>(frozen?_alloc_cells _ _ _ _).trans (f1 i);generalize w2.alloc (.cells #[.int .i64 0,.int .i64 2000] 3)=w3 at *;have H3:=Hs.new w3 [.string ⟨#[115]⟩,.int .i64 0,.int .i64 0,.int .i64 5000,.int .i64 2000,.slice (some ⟨b2,0,none⟩) 2 2,.int .i64 0,.int .i64 0,.int .i64 1,.int .i64 1,.int .i64 0,.slice none 0 0,.slice none 0 0] 59 (n:=b3) (by rw[z2];omega);replace H0:=H0.al (.cells #[.string ⟨#[115]⟩,.int .i64 0,.int .i64 0,.int .i64 5000,.int .i64 2000,.slice (some ⟨b2,0,none⟩) 2 2,.int .i64 0,.int .i64 0,.int .i64 1,.int .i64 1,.int .i64 0,.slice none 0 0,.slice none 0 0] 59);replace H1:=H1.al (.cells #[.string ⟨#[115]⟩,.int .i64 0,.int .i64 0,.int .i64 5000,.int .i64 2000,.slice (some ⟨b2,0,none⟩) 2 2,.int .i64 0,.int .i64 0,.int .i64 1,.int .i64 1,.int .i64 0,.slice none 0 0,.slice none 0 0] 59);replace H2:=H2.al (.cells #[.string ⟨#[115]⟩,.int .i64 0,.int .i64 0,.int .i64 5000,.int .i64 2000,.slice (some ⟨b2,0,none⟩) 2 2,.int .i64 0,.int .i64 0,.int .i64 1,.int .i64 1,.int .i64 0,.slice none 0 0,.slice none 0 0] 59);have z3:(w3.alloc (.cells #[.string ⟨#[115]⟩,.int .i64 0,.int .i64 0,.int .i64 5000,.int .i64 2000,.slice (some ⟨b2,0,none⟩) 2 2,.int .i64 0,.int .i64 0,.int .i64 1,.int .i64 1,.int .i64 0,.slice none 0 0,.slice none 0 0] 59)).heap.size=n+4:=by simp[z2]
 replace q2:=q2.alloc (by omega) (.cells #[.string ⟨#[115]⟩,.int .i64 0,.int .i64 0,.int .i64 5000,.int .i64 2000,.slice (some ⟨b2,0,none⟩) 2 2,.int .i64 0,.int .i64 0,.int .i64 1,.int .i64 1,.int .i64 0,.slice none 0 0,.slice none 0 0] 59);have q3:=q2;replace f0:∀i,(w3.alloc (.cells #[.string ⟨#[115]⟩,.int .i64 0,.int .i64 0,.int .i64 5000,.int .i64 2000,.slice (some ⟨b2,0,none⟩) 2 2,.int .i64 0,.int .i64 0,.int .i64 1,.int .i64 1,.int .i64 0,.slice none 0 0,.slice none 0 0] 59)).frozen? ⟨n,i,none⟩=false:=fun i=>(frozen?_alloc_cells _ _ _ _).trans (f0 i);replace f1:∀i,(w3.alloc (.cells #[.string ⟨#[115]⟩,.int .i64 0,.int .i64 0,.int .i64 5000,.int .i64 2000,.slice (some ⟨b2,0,none⟩) 2 2,.int .i64 0,.int .i64 0,.int .i64 1,.int .i64 1,.int .i64 0,.slice none 0 0,.slice none 0 0] 59)).frozen? ⟨b1,i,none⟩=false:=fun i=>(frozen?_alloc_cells _ _ _ _).trans (f1 i);generalize w3.alloc (.cells #[.string ⟨#[115]⟩,.int .i64 0,.int .i64 0,.int .i64 5000,.int .i64 2000,.slice (some ⟨b2,0,none⟩) 2 2,.int .i64 0,.int .i64 0,.int .i64 1,.int .i64 1,.int .i64 0,.slice none 0 0,.slice none 0 0] 59)=w4 at *;have H4:=Hs.new w4 [.string ⟨#[104]⟩,.int .i64 5000,.slice (some ⟨b3,0,none⟩) 1 1,.slice none 0 0] 25 (n:=b4) (by rw[z3];omega);replace H0:=H0.al (.cells #[.string ⟨#[104]⟩,.int .i64 5000,.slice (some ⟨b3,0,none⟩) 1 1,.slice none 0 0] 25);replace H1:=H1.al (.cells #[.string ⟨#[104]⟩,.int .i64 5000,.slice (some ⟨b3,0,none⟩) 1 1,.slice none 0 0] 25);replace H2:=H2.al (.cells #[.string ⟨#[104]⟩,.int .i64 5000,.slice (some ⟨b3,0,none⟩) 1 1,.slice none 0 0] 25);replace H3:=H3.al (.cells #[.string ⟨#[104]⟩,.int .i64 5000,.slice (some ⟨b3,0,none⟩) 1 1,.slice none 0 0] 25);have z4:(w4.alloc (.cells #[.string ⟨#[104]⟩,.int .i64 5000,.slice (some ⟨b3,0,none⟩) 1 1,.slice none 0 0] 25)).heap.size=n+5:=by simp[z3]
 replace q3:=q3.alloc (by omega) (.cells #[.string ⟨#[104]⟩,.int .i64 5000,.slice (some ⟨b3,0,none⟩) 1 1,.slice none 0 0] 25);have q4:=q3;replace f0:∀i,(w4.alloc (.cells #[.string ⟨#[104]⟩,.int .i64 5000,.slice (some ⟨b3,0,none⟩) 1 1,.slice none 0 0] 25)).frozen? ⟨n,i,none⟩=false:=fun i=>(frozen?_alloc_cells _ _ _ _).trans (f0 i);replace f1:∀i,(w4.alloc (.cells #[.string ⟨#[104]⟩,.int .i64 5000,.slice (some ⟨b3,0,none⟩) 1 1,.slice none 0 0] 25)).frozen? ⟨b1,i,none⟩=false:=fun i=>(frozen?_alloc_cells _ _ _ _).trans (f1 i);generalize w4.alloc (.cells #[.string ⟨#[104]⟩,.int .i64 5000,.slice (some ⟨b3,0,none⟩) 1 1,.slice none 0 0] 25)=w5 at *;have H5:=Hs.new w5 [.string ⟨#[115]⟩,.int .i64 4000,.int .i64 200,.int .i64 100,.int .i64 100] 94 (n:=b5) (by rw[z4];omega);replace H0:=H0.al (.cells #[.string ⟨#[115]⟩,.int .i64 4000,.int .i64 200,.int .i64 100,.int .i64 100] 94);replace H1:=H1.al (.cells #[.string ⟨#[115]⟩,.int .i64 4000,.int .i64 200,.int .i64 100,.int .i64 100] 94);replace H2:=H2.al (.cells #[.string ⟨#[115]⟩,.int .i64 4000,.int .i64 200,.int .i64 100,.int .i64 100] 94);replace H3:=H3.al (.cells #[.string ⟨#[115]⟩,.int .i64 4000,.int .i64 200,.int .i64 100,.int .i64 100] 94);replace H4:=H4.al (.cells #[.string ⟨#[115]⟩,.int .i64 4000,.int .i64 200,.int .i64 100,.int .i64 100] 94);have z5:(w5.alloc (.cells #[.string ⟨#[115]⟩,.int .i64 4000,.int .i64 200,.int .i64 100,.int .i64 100] 94)).heap.size=n+6:=by simp[z4]
 replace q4:=q4.alloc (by omega) (.cells #[.string ⟨#[115]⟩,.int .i64 4000,.int .i64 200,.int .i64 100,.int .i64 100] 94);have q5:=q4;replace f0:∀i,(w5.alloc (.cells #[.string ⟨#[115]⟩,.int .i64 4000,.int .i64 200,.int .i64 100,.int .i64 100] 94)).frozen? ⟨n,i,none⟩=false:=fun i=>(frozen?_alloc_cells _ _ _ _).trans (f0 i);replace f1:∀i,(w5.alloc (.cells #[.string ⟨#[115]⟩,.int .i64 4000,.int .i64 200,.int .i64 100,.int .i64 100] 94)).frozen? ⟨b1,i,none⟩=false:=fun i=>(frozen?_alloc_cells _ _ _ _).trans (f1 i);generalize w5.alloc (.cells #[.string ⟨#[115]⟩,.int .i64 4000,.int .i64 200,.int .i64 100,.int .i64 100] 94)=w6 at *;have H6:=Hs.new w6 [.string ⟨#[113]⟩,.string ⟨#[]⟩,.int .i64 1,.int .i64 0,.slice (some ⟨b5,0,none⟩) 1 1,.int .i64 0,.int .i64 0] 86 (n:=b6) (by rw[z5];omega);replace H0:=H0.al (.cells #[.string ⟨#[113]⟩,.string ⟨#[]⟩,.int .i64 1,.int .i64 0,.slice (some ⟨b5,0,none⟩) 1 1,.int .i64 0,.int .i64 0] 86);replace H1:=H1.al (.cells #[.string ⟨#[113]⟩,.string ⟨#[]⟩,.int .i64 1,.int .i64 0,.slice (some ⟨b5,0,none⟩) 1 1,.int .i64 0,.int .i64 0] 86);replace H2:=H2.al (.cells #[.string ⟨#[113]⟩,.string ⟨#[]⟩,.int .i64 1,.int .i64 0,.slice (some ⟨b5,0,none⟩) 1 1,.int .i64 0,.int .i64 0] 86);replace H3:=H3.al (.cells #[.string ⟨#[113]⟩,.string ⟨#[]⟩,.int .i64 1,.int .i64 0,.slice (some ⟨b5,0,none⟩) 1 1,.int .i64 0,.int .i64 0] 86);replace H4:=H4.al (.cells #[.string ⟨#[113]⟩,.string ⟨#[]⟩,.int .i64 1,.int .i64 0,.slice (some ⟨b5,0,none⟩) 1 1,.int .i64 0,.int .i64 0] 86);replace H5:=H5.al (.cells #[.string ⟨#[113]⟩,.string ⟨#[]⟩,.int .i64 1,.int .i64 0,.slice (some ⟨b5,0,none⟩) 1 1,.int .i64 0,.int .i64 0] 86);have z6:(w6.alloc (.cells #[.string ⟨#[113]⟩,.string ⟨#[]⟩,.int .i64 1,.int .i64 0,.slice (some ⟨b5,0,none⟩) 1 1,.int .i64 0,.int .i64 0] 86)).heap.size=n+7:=by simp[z5]
 replace q5:=q5.alloc (by omega) (.cells #[.string ⟨#[113]⟩,.string ⟨#[]⟩,.int .i64 1,.int .i64 0,.slice (some ⟨b5,0,none⟩) 1 1,.int .i64 0,.int .i64 0] 86);have q6:=q5;replace f0:∀i,(w6.alloc (.cells #[.string ⟨#[113]⟩,.string ⟨#[]⟩,.int .i64 1,.int .i64 0,.slice (some ⟨b5,0,none⟩) 1 1,.int .i64 0,.int .i64 0] 86)).frozen? ⟨n,i,none⟩=false:=fun i=>(frozen?_alloc_cells _ _ _ _).trans (f0 i);replace f1:∀i,(w6.alloc (.cells #[.string ⟨#[113]⟩,.string ⟨#[]⟩,.int .i64 1,.int .i64 0,.slice (some ⟨b5,0,none⟩) 1 1,.int .i64 0,.int .i64 0] 86)).frozen? ⟨b1,i,none⟩=false:=fun i=>(frozen?_alloc_cells _ _ _ _).trans (f1 i);generalize w6.alloc (.cells #[.string ⟨#[113]⟩,.string ⟨#[]⟩,.int .i64 1,.int .i64 0,.slice (some ⟨b5,0,none⟩) 1 1,.int .i64 0,.int .i64 0] 86)=w7 at *;have H7:=Hs.new w7 [.slice (some ⟨b6,0,none⟩) 1 1,.slice none 0 0] 29 (n:=b7) (by rw[z6];omega);replace H0:=H0.al (.cells #[.slice (some ⟨b6,0,none⟩) 1 1,.slice none 0 0] 29);replace H1:=H1.al (.cells #[.slice (some ⟨b6,0,none⟩) 1 1,.slice none 0 0] 29);replace H2:=H2.al (.cells #[.slice (some ⟨b6,0,none⟩) 1 1,.slice none 0 0] 29);replace H3:=H3.al (.cells #[.slice (some ⟨b6,0,none⟩) 1 1,.slice none 0 0] 29);replace H4:=H4.al (.cells #[.slice (some ⟨b6,0,none⟩) 1 1,.slice none 0 0] 29);replace H5:=H5.al (.cells #[.slice (some ⟨b6,0,none⟩) 1 1,.slice none 0 0] 29);replace H6:=H6.al (.cells #[.slice (some ⟨b6,0,none⟩) 1 1,.slice none 0 0] 29);have z7:(w7.alloc (.cells #[.slice (some ⟨b6,0,none⟩) 1 1,.slice none 0 0] 29)).heap.size=n+8:=by simp[z6]
 replace q6:=q6.alloc (by omega) (.cells #[.slice (some ⟨b6,0,none⟩) 1 1,.slice none 0 0] 29);have q7:=q6;replace f0:∀i,(w7.alloc (.cells #[.slice (some ⟨b6,0,none⟩) 1 1,.slice none 0 0] 29)).frozen? ⟨n,i,none⟩=false:=fun i=>(frozen?_alloc_cells _ _ _ _).trans (f0 i);replace f1:∀i,(w7.alloc (.cells #[.slice (some ⟨b6,0,none⟩) 1 1,.slice none 0 0] 29)).frozen? ⟨b1,i,none⟩=false:=fun i=>(frozen?_alloc_cells _ _ _ _).trans (f1 i);exact⟨q7,by rw[z7];omega,H0,H1,H2,H3,H4,H5,H6,H7,fun i=>⟨f0 i,f1 i⟩⟩
theorem AEj(w:World):Calls Tryz.prog 41 #[] w fun e w'=>Hid (∃b2 b3 b5 b6 b8:Nat,e=.returned (.tuple #[.agg #[.string ⟨#[104]⟩,.int .i64 5000,.slice (some ⟨b3,0,none⟩) 1 1,.slice none 0 0],.agg #[.slice (some ⟨b6,0,none⟩) 1 1,.slice none 0 0],.slice (some ⟨b8,0,none⟩) 1 1])∧Ax w' (xH (some ⟨b2,0,none⟩) (some ⟨b3,0,none⟩))∧Bg w' (xT (some ⟨b5,0,none⟩) (some ⟨b6,0,none⟩))∧Bl w'.heap.size w' (some ⟨b8,0,none⟩) [2000])∧Below w.heap.size w w':=by
 go_enter Tryz.func41,Tryz.ntmps41
 go_upto_region 3 with (fail)
 obtain⟨n,hn⟩:=nm (w.heap.size);obtain⟨b1,hb1⟩:=nm (n+1);obtain⟨b2,hb2⟩:=nm (b1+1);obtain⟨b3,hb3⟩:=nm (b2+1);obtain⟨b4,hb4⟩:=nm (b3+1);obtain⟨b5,hb5⟩:=nm (b4+1);obtain⟨b6,hb6⟩:=nm (b5+1);obtain⟨b7,hb7⟩:=nm (b6+1);have XE:XB n b1 b2 b3 b4 b5 b6 b7:=⟨by omega,by omega,by omega,by omega,by omega,by omega,by omega⟩;have X0:=ATj w n b1 b2 b3 b4 b5 b6 b7 hn XE;rw[hn]at⊢;rw[hb1,hb2,hb3,hb4,hb5,hb6,hb7];generalize ((((((((w.alloc (.cells #[.string ⟨#[]⟩,.int .i64 0,.slice none 0 0,.slice none 0 0] 25)).alloc (.cells #[.slice none 0 0,.slice none 0 0] 29)).alloc (.cells #[.int .i64 0,.int .i64 2000] 3)).alloc (.cells #[.string ⟨#[115]⟩,.int .i64 0,.int .i64 0,.int .i64 5000,.int .i64 2000,.slice (some ⟨b2,0,none⟩) 2 2,.int .i64 0,.int .i64 0,.int .i64 1,.int .i64 1,.int .i64 0,.slice none 0 0,.slice none 0 0] 59)).alloc (.cells #[.string ⟨#[104]⟩,.int .i64 5000,.slice (some ⟨b3,0,none⟩) 1 1,.slice none 0 0] 25)).alloc (.cells #[.string ⟨#[115]⟩,.int .i64 4000,.int .i64 200,.int .i64 100,.int .i64 100] 94)).alloc (.cells #[.string ⟨#[113]⟩,.string ⟨#[]⟩,.int .i64 1,.int .i64 0,.slice (some ⟨b5,0,none⟩) 1 1,.int .i64 0,.int .i64 0] 86)).alloc (.cells #[.slice (some ⟨b6,0,none⟩) 1 1,.slice none 0 0] 29))=W at *;have HNN:=lh hn;clear hn hb1 hb2 hb3 hb4 hb5 hb6 hb7;have X1:=X0.drew;refine wp_region_held_drew (S:=fun W=>W.cell? ⟨b4,0,none⟩=some (.string ⟨#[104]⟩)∧W.cell? ⟨b4,1,none⟩=some (.int .i64 5000)∧W.cell? ⟨b4,2,none⟩=some (.slice (some ⟨b3,0,none⟩) 1 1)∧W.cell? ⟨b4,3,none⟩=some (.slice none 0 0)∧W.cell? ⟨b7,0,none⟩=some (.slice (some ⟨b6,0,none⟩) 1 1)∧W.cell? ⟨b7,1,none⟩=some (.slice none 0 0)) (by kernel_rfl) X1.held (fun hHeld=>?_);clear X0;generalize W.drew=V at *;refine tk 0 ?_;refine tk 1 ?_;have g0:=X1.h0.at 0 rfl;have g1:=X1.h0.at 1 rfl;have g2:=X1.h0.at 2 rfl;have g3:=X1.h0.at 3 rfl;have k0:=X1.h1.at 0 rfl;have k1:=X1.h1.at 1 rfl;have f0:=fun i=>(X1.fr i).1;have f1:=fun i=>(X1.fr i).2;refine ry [2,3] (vl 2 (w1:=V.alloc (.cells #[.int .i64 2000] 3)) (X1.al XE _ _).held (fun hHeld=>?_) (vl 3 (w1:=Ak V n 0 [.string ⟨#[104]⟩,.int .i64 5000,.slice (some ⟨b3,0,none⟩) 1 1,.slice none 0 0]) (X1.s0 XE [.string ⟨#[104]⟩,.int .i64 5000,.slice (some ⟨b3,0,none⟩) 1 1,.slice none 0 0] rfl).held (fun hHeld=>?_) nl))
 ·have X2:=X1.al XE #[.int .i64 2000] 3;have G:=Hs.new V [.int .i64 2000] 3 (n:=V.heap.size) rfl;have lg:=X1.size;have lgh:V.heap.size<(V.alloc (.cells #[.int .i64 2000] 3)).heap.size:=by simp
  obtain⟨g,hg⟩:=nm (V.heap.size);simp only[hg]at G lg lgh⊢;clear hg;generalize V.alloc (.cells #[.int .i64 2000] 3)=V1 at *;have g0:=X2.h0.at 0 rfl;have g1:=X2.h0.at 1 rfl;have g2:=X2.h0.at 2 rfl;have g3:=X2.h0.at 3 rfl;have k0:=X2.h1.at 0 rfl;have k1:=X2.h1.at 1 rfl;have f0:=fun i=>(X2.fr i).1;have f1:=fun i=>(X2.fr i).2;refine ry [3] (vl 3 (w1:=Ak V1 n 0 [.string ⟨#[104]⟩,.int .i64 5000,.slice (some ⟨b3,0,none⟩) 1 1,.slice none 0 0]) (X2.s0 XE [.string ⟨#[104]⟩,.int .i64 5000,.slice (some ⟨b3,0,none⟩) 1 1,.slice none 0 0] rfl).held (fun hHeld=>?_) nl);have X3:=X2.s0 XE [.string ⟨#[104]⟩,.int .i64 5000,.slice (some ⟨b3,0,none⟩) 1 1,.slice none 0 0] rfl;replace G:=G.far (b2:=n) (by have:=XE.e1;have:=XE.e7;omega) [.string ⟨#[104]⟩,.int .i64 5000,.slice (some ⟨b3,0,none⟩) 1 1,.slice none 0 0] 0;rw[←Kp [.string ⟨#[104]⟩,.int .i64 5000,.slice (some ⟨b3,0,none⟩) 1 1,.slice none 0 0] V1 n 0]at lgh;generalize Ak V1 n 0 [.string ⟨#[104]⟩,.int .i64 5000,.slice (some ⟨b3,0,none⟩) 1 1,.slice none 0 0]=V2 at *;have g0:=X3.h0.at 0 rfl;have g1:=X3.h0.at 1 rfl;have g2:=X3.h0.at 2 rfl;have g3:=X3.h0.at 3 rfl;have k0:=X3.h1.at 0 rfl;have k1:=X3.h1.at 1 rfl;have f0:=fun i=>(X3.fr i).1;have f1:=fun i=>(X3.fr i).2;refine ry [4] (vl 4 (w1:=Ak V2 b1 0 [.slice (some ⟨b6,0,none⟩) 1 1,.slice none 0 0]) (X3.s1 XE [.slice (some ⟨b6,0,none⟩) 1 1,.slice none 0 0] rfl).held (fun hHeld=>?_) nl);have X4:=X3.s1 XE [.slice (some ⟨b6,0,none⟩) 1 1,.slice none 0 0] rfl;replace G:=G.far (b2:=b1) (by have:=XE.e1;have:=XE.e7;omega) [.slice (some ⟨b6,0,none⟩) 1 1,.slice none 0 0] 0;rw[←Kp [.slice (some ⟨b6,0,none⟩) 1 1,.slice none 0 0] V2 b1 0]at lgh;generalize Ak V2 b1 0 [.slice (some ⟨b6,0,none⟩) 1 1,.slice none 0 0]=V3 at *;have g0:=X4.h0.at 0 rfl;have g1:=X4.h0.at 1 rfl;have g2:=X4.h0.at 2 rfl;have g3:=X4.h0.at 3 rfl;have k0:=X4.h1.at 0 rfl;have k1:=X4.h1.at 1 rfl;have f0:=fun i=>(X4.fr i).1;have f1:=fun i=>(X4.fr i).2;refine tk 5 ?_;refine dn ?_;have F:=X4.got XE;have HN:Bl V3.heap.size V3 (some ⟨g,0,none⟩) [2000]:=fun _=>⟨g,0,rfl,lgh,fun i hi=>by obtain rfl:=Je hi;exact G.at 0 rfl⟩
  go_wp2_with fail
  exact bodyPost_ret (v:=.tuple #[.agg #[.string ⟨#[104]⟩,.int .i64 5000,.slice (some ⟨b3,0,none⟩) 1 1,.slice none 0 0],.agg #[.slice (some ⟨b6,0,none⟩) 1 1,.slice none 0 0],.slice (some ⟨g,0,none⟩) 1 1]) (by simp[results,Tryz.results41,go_sem,X4.h0.at 0 rfl,X4.h0.at 1 rfl,X4.h0.at 2 rfl,X4.h0.at 3 rfl,X4.h1.at 0 rfl,X4.h1.at 1 rfl]) rfl ⟨lh ⟨b2,b3,b5,b6,g,rfl,F.1,F.2,HN⟩,by rw[HNN.out];exact X4.below⟩
 ·have X2:=X1.s0 XE [.string ⟨#[104]⟩,.int .i64 5000,.slice (some ⟨b3,0,none⟩) 1 1,.slice none 0 0] rfl
  generalize Ak V n 0 [.string ⟨#[104]⟩,.int .i64 5000,.slice (some ⟨b3,0,none⟩) 1 1,.slice none 0 0]=V1 at *;have g0:=X2.h0.at 0 rfl;have g1:=X2.h0.at 1 rfl;have g2:=X2.h0.at 2 rfl;have g3:=X2.h0.at 3 rfl;have k0:=X2.h1.at 0 rfl;have k1:=X2.h1.at 1 rfl;have f0:=fun i=>(X2.fr i).1;have f1:=fun i=>(X2.fr i).2;refine ry [2,4] (vl 2 (w1:=V1.alloc (.cells #[.int .i64 2000] 3)) (X2.al XE _ _).held (fun hHeld=>?_) (vl 4 (w1:=Ak V1 b1 0 [.slice (some ⟨b6,0,none⟩) 1 1,.slice none 0 0]) (X2.s1 XE [.slice (some ⟨b6,0,none⟩) 1 1,.slice none 0 0] rfl).held (fun hHeld=>?_) nl))
  ·have X3:=X2.al XE #[.int .i64 2000] 3;have G:=Hs.new V1 [.int .i64 2000] 3 (n:=V1.heap.size) rfl;have lg:=X2.size;have lgh:V1.heap.size<(V1.alloc (.cells #[.int .i64 2000] 3)).heap.size:=by simp
   obtain⟨g,hg⟩:=nm (V1.heap.size);simp only[hg]at G lg lgh⊢;clear hg;generalize V1.alloc (.cells #[.int .i64 2000] 3)=V2 at *;have g0:=X3.h0.at 0 rfl;have g1:=X3.h0.at 1 rfl;have g2:=X3.h0.at 2 rfl;have g3:=X3.h0.at 3 rfl;have k0:=X3.h1.at 0 rfl;have k1:=X3.h1.at 1 rfl;have f0:=fun i=>(X3.fr i).1;have f1:=fun i=>(X3.fr i).2;refine ry [4] (vl 4 (w1:=Ak V2 b1 0 [.slice (some ⟨b6,0,none⟩) 1 1,.slice none 0 0]) (X3.s1 XE [.slice (some ⟨b6,0,none⟩) 1 1,.slice none 0 0] rfl).held (fun hHeld=>?_) nl);have X4:=X3.s1 XE [.slice (some ⟨b6,0,none⟩) 1 1,.slice none 0 0] rfl;replace G:=G.far (b2:=b1) (by have:=XE.e1;have:=XE.e7;omega) [.slice (some ⟨b6,0,none⟩) 1 1,.slice none 0 0] 0;rw[←Kp [.slice (some ⟨b6,0,none⟩) 1 1,.slice none 0 0] V2 b1 0]at lgh;generalize Ak V2 b1 0 [.slice (some ⟨b6,0,none⟩) 1 1,.slice none 0 0]=V3 at *;have g0:=X4.h0.at 0 rfl;have g1:=X4.h0.at 1 rfl;have g2:=X4.h0.at 2 rfl;have g3:=X4.h0.at 3 rfl;have k0:=X4.h1.at 0 rfl;have k1:=X4.h1.at 1 rfl;have f0:=fun i=>(X4.fr i).1;have f1:=fun i=>(X4.fr i).2;refine tk 5 ?_;refine dn ?_;have F:=X4.got XE;have HN:Bl V3.heap.size V3 (some ⟨g,0,none⟩) [2000]:=fun _=>⟨g,0,rfl,lgh,fun i hi=>by obtain rfl:=Je hi;exact G.at 0 rfl⟩
   go_wp2_with fail
   exact bodyPost_ret (v:=.tuple #[.agg #[.string ⟨#[104]⟩,.int .i64 5000,.slice (some ⟨b3,0,none⟩) 1 1,.slice none 0 0],.agg #[.slice (some ⟨b6,0,none⟩) 1 1,.slice none 0 0],.slice (some ⟨g,0,none⟩) 1 1]) (by simp[results,Tryz.results41,go_sem,X4.h0.at 0 rfl,X4.h0.at 1 rfl,X4.h0.at 2 rfl,X4.h0.at 3 rfl,X4.h1.at 0 rfl,X4.h1.at 1 rfl]) rfl ⟨lh ⟨b2,b3,b5,b6,g,rfl,F.1,F.2,HN⟩,by rw[HNN.out];exact X4.below⟩
  ·have X3:=X2.s1 XE [.slice (some ⟨b6,0,none⟩) 1 1,.slice none 0 0] rfl
   generalize Ak V1 b1 0 [.slice (some ⟨b6,0,none⟩) 1 1,.slice none 0 0]=V2 at *;have g0:=X3.h0.at 0 rfl;have g1:=X3.h0.at 1 rfl;have g2:=X3.h0.at 2 rfl;have g3:=X3.h0.at 3 rfl;have k0:=X3.h1.at 0 rfl;have k1:=X3.h1.at 1 rfl;have f0:=fun i=>(X3.fr i).1;have f1:=fun i=>(X3.fr i).2;refine ry [2] (vl 2 (w1:=V2.alloc (.cells #[.int .i64 2000] 3)) (X3.al XE _ _).held (fun hHeld=>?_) nl);have X4:=X3.al XE #[.int .i64 2000] 3;have G:=Hs.new V2 [.int .i64 2000] 3 (n:=V2.heap.size) rfl;have lg:=X3.size;have lgh:V2.heap.size<(V2.alloc (.cells #[.int .i64 2000] 3)).heap.size:=by simp
   obtain⟨g,hg⟩:=nm (V2.heap.size);simp only[hg]at G lg lgh⊢;clear hg;generalize V2.alloc (.cells #[.int .i64 2000] 3)=V3 at *;have g0:=X4.h0.at 0 rfl;have g1:=X4.h0.at 1 rfl;have g2:=X4.h0.at 2 rfl;have g3:=X4.h0.at 3 rfl;have k0:=X4.h1.at 0 rfl;have k1:=X4.h1.at 1 rfl;have f0:=fun i=>(X4.fr i).1;have f1:=fun i=>(X4.fr i).2;refine tk 5 ?_;refine dn ?_;have F:=X4.got XE;have HN:Bl V3.heap.size V3 (some ⟨g,0,none⟩) [2000]:=fun _=>⟨g,0,rfl,lgh,fun i hi=>by obtain rfl:=Je hi;exact G.at 0 rfl⟩
   go_wp2_with fail
   exact bodyPost_ret (v:=.tuple #[.agg #[.string ⟨#[104]⟩,.int .i64 5000,.slice (some ⟨b3,0,none⟩) 1 1,.slice none 0 0],.agg #[.slice (some ⟨b6,0,none⟩) 1 1,.slice none 0 0],.slice (some ⟨g,0,none⟩) 1 1]) (by simp[results,Tryz.results41,go_sem,X4.h0.at 0 rfl,X4.h0.at 1 rfl,X4.h0.at 2 rfl,X4.h0.at 3 rfl,X4.h1.at 0 rfl,X4.h1.at 1 rfl]) rfl ⟨lh ⟨b2,b3,b5,b6,g,rfl,F.1,F.2,HN⟩,by rw[HNN.out];exact X4.below⟩
end
section
open Go.RowKit Go.Shelf
theorem Zl(a1 a2:Option Addr)(F1 F2:List (ByteArray×Int))(cap1 cap2:Nat)(w:World)(hl:F1.length≤1100)(h1:Ki w.heap.size w a1 F1)(h2:Ki w.heap.size w a2 F2)(hl2:F2.length≤1100):
  Calls Tryz.prog 29 #[.slice a1 F1.length cap1,.slice a2 F2.length cap2] w fun e w'=>e=.returned (.bool (decide (F1=F2)))∧Below w.heap.size w w':=by
 have H1:=lh h1;have H2:=lh h2;clear h1 h2
 by_cases hle:F1.length=F2.length
 ·have hn:((F1.length:Int)!=(F2.length:Int))=false:=by rw[bne_eq_false_iff_eq];omega
  have HL:=lh hle;clear hle
  go_enter Tryz.func29,Tryz.ntmps29
  go_wp2
  go_loopw [13] (fun i wr=>∃k:Nat,k≤F1.length∧i=.int .i64 k∧Below w.heap.size w wr∧Hid (∀j,j<k→Pq F1 j=Pq F2 j)) (fun i _=>F1.length-(intOf i).toNat)
  case atStart=>exact⟨0,nz,rfl,br,lh (fun _ h=>absurd h (Nat.not_lt_zero _))⟩
  case round=>
   obtain⟨k,hk,rfl,hB,HA⟩:=hrel
   by_cases hlt:k<F1.length
   ·have hlt2:k<F2.length:=by have:=HL.out;omega
    obtain⟨b,off,rfl,hb,hcx⟩:=H1.out (by omega);obtain⟨b',off',rfl,hb',hcx'⟩:=H2.out (by omega);obtain⟨c0,c1⟩:=hcx k hlt;obtain⟨e0,e1⟩:=hcx' k hlt2;have d0:=(ct hB c0 hb);have d1:=(ct hB c1 hb);have f0:=(ct hB e0 hb');have f1:=(ct hB e1 hb');clear c0 c1 e0 e1 hcx hcx'
    by_cases q0:(Pq F1 k).1=(Pq F2 k).1
    ·by_cases q1:(Pq F1 k).2=(Pq F2 k).2
     ·have HB:Hid (∀j,j<k+1→Pq F1 j=Pq F2 j):=lh fun j hj=>by
       rcases Nat.lt_or_ge j k with l | l
       ·exact HA.out j l
       ·obtain rfl:j=k:=by omega
        exact Prod.ext q0 q1
      have g0:=Dj (Pq F1 k).1 (Pq F2 k).1;rw[dT q0]at g0;have g1:((Pq F1 k).2==(Pq F2 k).2)=true:=beq_iff_eq.2 q1;have h1:((Pq F1 k).2 !=(Pq F2 k).2)=false:=bne_eq_false_iff_eq.2 q1;clear q0 q1
      go_wp2_with fail
      go_quiet (fail)
      go_wp2
      go_roundw
      case rel=>exact⟨k+1,by omega,by go_num,Aj hB _,HB⟩
      case measure=>simp[intOf];omega
     ·have H:Hid (decide (F1=F2)=false):=lh (dF (fun e=>q1 (by rw[e])))
      have g0:=Dj (Pq F1 k).1 (Pq F2 k).1;rw[dT q0]at g0;have g1:((Pq F1 k).2==(Pq F2 k).2)=false:=beq_eq_false_iff_ne.2 q1;have h1:((Pq F1 k).2 !=(Pq F2 k).2)=true:=bne_iff_ne.2 q1;clear q0 q1
      go_wp2_with fail
      go_quiet (fail)
      go_wp2
      go_ret;exact⟨congrArg (fun b=>Ending.returned (.bool b)) H.out.symm,Aj hB _⟩
    ·have H:Hid (decide (F1=F2)=false):=lh (dF (fun e=>q0 (by rw[e])))
     have g0:=Dj (Pq F1 k).1 (Pq F2 k).1;rw[dF q0]at g0;clear q0
     go_wp2_with fail
     go_quiet (fail)
     go_wp2
     go_ret;exact⟨congrArg (fun b=>Ending.returned (.bool b)) H.out.symm,Aj hB _⟩
   ·obtain rfl:k=F1.length:=by omega
    have H:Hid (decide (F1=F2)=true):=lh (dT (AQi F1 F2 HL.out HA.out))
    go_wp2
    go_ret;exact⟨congrArg (fun b=>Ending.returned (.bool b)) H.out.symm,hB⟩
 ·have hn:((F1.length:Int)!=(F2.length:Int))=true:=bne_iff_ne.2 (by omega)
  have H:Hid (decide (F1=F2)=false):=lh (dF (fun e=>hle (by rw[e])));clear hle
  go_enter Tryz.func29,Tryz.ntmps29
  go_wp2
  go_ret;exact⟨congrArg (fun b=>Ending.returned (.bool b)) H.out.symm,br⟩

theorem AMm(a1 a2:Option Addr)(F1 F2:List (Int×Int))(cap1 cap2:Nat)(w:World)(hl:F1.length≤1100)(h1:Yj w.heap.size w a1 F1)(h2:Yj w.heap.size w a2 F2)(hl2:F2.length≤1100):
  Calls Tryz.prog 17 #[.slice a1 F1.length cap1,.slice a2 F2.length cap2] w fun e w'=>e=.returned (.bool (decide (F1=F2)))∧Below w.heap.size w w':=by
 have H1:=lh h1;have H2:=lh h2;clear h1 h2
 by_cases hle:F1.length=F2.length
 ·have hn:((F1.length:Int)!=(F2.length:Int))=false:=by rw[bne_eq_false_iff_eq];omega
  have HL:=lh hle;clear hle
  go_enter Tryz.func17,Tryz.ntmps17
  go_wp2
  go_loopw [13] (fun i wr=>∃k:Nat,k≤F1.length∧i=.int .i64 k∧Below w.heap.size w wr∧Hid (∀j,j<k→Ks F1 j=Ks F2 j)) (fun i _=>F1.length-(intOf i).toNat)
  case atStart=>exact⟨0,nz,rfl,br,lh (fun _ h=>absurd h (Nat.not_lt_zero _))⟩
  case round=>
   obtain⟨k,hk,rfl,hB,HA⟩:=hrel
   by_cases hlt:k<F1.length
   ·have hlt2:k<F2.length:=by have:=HL.out;omega
    obtain⟨b,off,rfl,hb,hcx⟩:=H1.out (by omega);obtain⟨b',off',rfl,hb',hcx'⟩:=H2.out (by omega);obtain⟨c0,c1⟩:=hcx k hlt;obtain⟨e0,e1⟩:=hcx' k hlt2;have d0:=(ct hB c0 hb);have d1:=(ct hB c1 hb);have f0:=(ct hB e0 hb');have f1:=(ct hB e1 hb');clear c0 c1 e0 e1 hcx hcx'
    by_cases q0:(Ks F1 k).1=(Ks F2 k).1
    ·by_cases q1:(Ks F1 k).2=(Ks F2 k).2
     ·have HB:Hid (∀j,j<k+1→Ks F1 j=Ks F2 j):=lh fun j hj=>by
       rcases Nat.lt_or_ge j k with l | l
       ·exact HA.out j l
       ·obtain rfl:j=k:=by omega
        exact Prod.ext q0 q1
      have g0:((Ks F1 k).1==(Ks F2 k).1)=true:=beq_iff_eq.2 q0;have h0:((Ks F1 k).1 !=(Ks F2 k).1)=false:=bne_eq_false_iff_eq.2 q0;have g1:((Ks F1 k).2==(Ks F2 k).2)=true:=beq_iff_eq.2 q1;have h1:((Ks F1 k).2 !=(Ks F2 k).2)=false:=bne_eq_false_iff_eq.2 q1;clear q0 q1
      go_wp2_with fail
      go_quiet (fail)
      go_wp2
      go_roundw
      case rel=>exact⟨k+1,by omega,by go_num,Aj hB _,HB⟩
      case measure=>simp[intOf];omega
     ·have H:Hid (decide (F1=F2)=false):=lh (dF (fun e=>q1 (by rw[e])))
      have g0:((Ks F1 k).1==(Ks F2 k).1)=true:=beq_iff_eq.2 q0;have h0:((Ks F1 k).1 !=(Ks F2 k).1)=false:=bne_eq_false_iff_eq.2 q0;have g1:((Ks F1 k).2==(Ks F2 k).2)=false:=beq_eq_false_iff_ne.2 q1;have h1:((Ks F1 k).2 !=(Ks F2 k).2)=true:=bne_iff_ne.2 q1;clear q0 q1
      go_wp2_with fail
      go_quiet (fail)
      go_wp2
      go_ret;exact⟨congrArg (fun b=>Ending.returned (.bool b)) H.out.symm,Aj hB _⟩
    ·have H:Hid (decide (F1=F2)=false):=lh (dF (fun e=>q0 (by rw[e])))
     have g0:((Ks F1 k).1==(Ks F2 k).1)=false:=beq_eq_false_iff_ne.2 q0;have h0:((Ks F1 k).1 !=(Ks F2 k).1)=true:=bne_iff_ne.2 q0;clear q0
     go_wp2_with fail
     go_quiet (fail)
     go_wp2
     go_ret;exact⟨congrArg (fun b=>Ending.returned (.bool b)) H.out.symm,Aj hB _⟩
   ·obtain rfl:k=F1.length:=by omega
    have H:Hid (decide (F1=F2)=true):=lh (dT (ARq F1 F2 HL.out HA.out))
    go_wp2
    go_ret;exact⟨congrArg (fun b=>Ending.returned (.bool b)) H.out.symm,hB⟩
 ·have hn:((F1.length:Int)!=(F2.length:Int))=true:=bne_iff_ne.2 (by omega)
  have H:Hid (decide (F1=F2)=false):=lh (dF (fun e=>hle (by rw[e])));clear hle
  go_enter Tryz.func17,Tryz.ntmps17
  go_wp2
  go_ret;exact⟨congrArg (fun b=>Ending.returned (.bool b)) H.out.symm,br⟩

theorem Zv(a1 a2:Option Addr)(F1 F2:List (Int))(cap1 cap2:Nat)(w:World)(hl:F1.length≤1100)(h1:Bl w.heap.size w a1 F1)(h2:Bl w.heap.size w a2 F2)(hl2:F2.length≤1100):
  Calls Tryz.prog 30 #[.slice a1 F1.length cap1,.slice a2 F2.length cap2] w fun e w'=>e=.returned (.bool (decide (F1=F2)))∧Below w.heap.size w w':=by
 have H1:=lh h1;have H2:=lh h2;clear h1 h2
 by_cases hle:F1.length=F2.length
 ·have hn:((F1.length:Int)!=(F2.length:Int))=false:=by rw[bne_eq_false_iff_eq];omega
  have HL:=lh hle;clear hle
  go_enter Tryz.func30,Tryz.ntmps30
  go_wp2
  go_loopw [13] (fun i wr=>∃k:Nat,k≤F1.length∧i=.int .i64 k∧Below w.heap.size w wr∧Hid (∀j,j<k→ig F1 j=ig F2 j)) (fun i _=>F1.length-(intOf i).toNat)
  case atStart=>exact⟨0,nz,rfl,br,lh (fun _ h=>absurd h (Nat.not_lt_zero _))⟩
  case round=>
   obtain⟨k,hk,rfl,hB,HA⟩:=hrel
   by_cases hlt:k<F1.length
   ·have hlt2:k<F2.length:=by have:=HL.out;omega
    obtain⟨b,off,rfl,hb,hcx⟩:=H1.out (by omega);obtain⟨b',off',rfl,hb',hcx'⟩:=H2.out (by omega);have c0:=hcx k hlt;have e0:=hcx' k hlt2;have d0:=(ct hB c0 hb);have f0:=(ct hB e0 hb');clear c0 e0 hcx hcx'
    by_cases q0:(ig F1 k)=(ig F2 k)
    ·have HB:Hid (∀j,j<k+1→ig F1 j=ig F2 j):=lh fun j hj=>by
      rcases Nat.lt_or_ge j k with l | l
      ·exact HA.out j l
      ·obtain rfl:j=k:=by omega
       exact q0
     have g0:((ig F1 k)==(ig F2 k))=true:=beq_iff_eq.2 q0;have h0:((ig F1 k)!=(ig F2 k))=false:=bne_eq_false_iff_eq.2 q0;clear q0
     go_wp2_with fail
     go_quiet (fail)
     go_wp2
     go_roundw
     case rel=>exact⟨k+1,by omega,by go_num,Aj hB _,HB⟩
     case measure=>simp[intOf];omega
    ·have H:Hid (decide (F1=F2)=false):=lh (dF (fun e=>q0 (by rw[e])))
     have g0:((ig F1 k)==(ig F2 k))=false:=beq_eq_false_iff_ne.2 q0;have h0:((ig F1 k)!=(ig F2 k))=true:=bne_iff_ne.2 q0;clear q0
     go_wp2_with fail
     go_quiet (fail)
     go_wp2
     go_ret;exact⟨congrArg (fun b=>Ending.returned (.bool b)) H.out.symm,Aj hB _⟩
   ·obtain rfl:k=F1.length:=by omega
    have H:Hid (decide (F1=F2)=true):=lh (dT (AFl F1 F2 HL.out HA.out))
    go_wp2
    go_ret;exact⟨congrArg (fun b=>Ending.returned (.bool b)) H.out.symm,hB⟩
 ·have hn:((F1.length:Int)!=(F2.length:Int))=true:=bne_iff_ne.2 (by omega)
  have H:Hid (decide (F1=F2)=false):=lh (dF (fun e=>hle (by rw[e])));clear hle
  go_enter Tryz.func30,Tryz.ntmps30
  go_wp2
  go_ret;exact⟨congrArg (fun b=>Ending.returned (.bool b)) H.out.symm,br⟩

theorem AKg(a1 a2:Option Addr)(F1 F2:List (ByteArray))(cap1 cap2:Nat)(w:World)(hl:F1.length≤1100)(h1:Mz w.heap.size w a1 F1)(h2:Mz w.heap.size w a2 F2)(hl2:F2.length≤1100):
  Calls Tryz.prog 31 #[.slice a1 F1.length cap1,.slice a2 F2.length cap2] w fun e w'=>e=.returned (.bool (decide (F1=F2)))∧Below w.heap.size w w':=by
 have H1:=lh h1;have H2:=lh h2;clear h1 h2
 by_cases hle:F1.length=F2.length
 ·have hn:((F1.length:Int)!=(F2.length:Int))=false:=by rw[bne_eq_false_iff_eq];omega
  have HL:=lh hle;clear hle
  go_enter Tryz.func31,Tryz.ntmps31
  go_wp2
  go_loopw [13] (fun i wr=>∃k:Nat,k≤F1.length∧i=.int .i64 k∧Below w.heap.size w wr∧Hid (∀j,j<k→sg F1 j=sg F2 j)) (fun i _=>F1.length-(intOf i).toNat)
  case atStart=>exact⟨0,nz,rfl,br,lh (fun _ h=>absurd h (Nat.not_lt_zero _))⟩
  case round=>
   obtain⟨k,hk,rfl,hB,HA⟩:=hrel
   by_cases hlt:k<F1.length
   ·have hlt2:k<F2.length:=by have:=HL.out;omega
    obtain⟨b,off,rfl,hb,hcx⟩:=H1.out (by omega);obtain⟨b',off',rfl,hb',hcx'⟩:=H2.out (by omega);have c0:=hcx k hlt;have e0:=hcx' k hlt2;have d0:=(ct hB c0 hb);have f0:=(ct hB e0 hb');clear c0 e0 hcx hcx'
    by_cases q0:(sg F1 k)=(sg F2 k)
    ·have HB:Hid (∀j,j<k+1→sg F1 j=sg F2 j):=lh fun j hj=>by
      rcases Nat.lt_or_ge j k with l | l
      ·exact HA.out j l
      ·obtain rfl:j=k:=by omega
       exact q0
     have g0:=Dj (sg F1 k) (sg F2 k);rw[dT q0]at g0;clear q0
     go_wp2_with fail
     go_quiet (fail)
     go_wp2
     go_roundw
     case rel=>exact⟨k+1,by omega,by go_num,Aj hB _,HB⟩
     case measure=>simp[intOf];omega
    ·have H:Hid (decide (F1=F2)=false):=lh (dF (fun e=>q0 (by rw[e])))
     have g0:=Dj (sg F1 k) (sg F2 k);rw[dF q0]at g0;clear q0
     go_wp2_with fail
     go_quiet (fail)
     go_wp2
     go_ret;exact⟨congrArg (fun b=>Ending.returned (.bool b)) H.out.symm,Aj hB _⟩
   ·obtain rfl:k=F1.length:=by omega
    have H:Hid (decide (F1=F2)=true):=lh (dT (ATp F1 F2 HL.out HA.out))
    go_wp2
    go_ret;exact⟨congrArg (fun b=>Ending.returned (.bool b)) H.out.symm,hB⟩
 ·have hn:((F1.length:Int)!=(F2.length:Int))=true:=bne_iff_ne.2 (by omega)
  have H:Hid (decide (F1=F2)=false):=lh (dF (fun e=>hle (by rw[e])));clear hle
  go_enter Tryz.func31,Tryz.ntmps31
  go_wp2
  go_ret;exact⟨congrArg (fun b=>Ending.returned (.bool b)) H.out.symm,br⟩
end
section
open Go.RowKit Go.Shelf
attribute [local go_sem] Oper.semAt_some
structure EXW(w:World)(b2 b3 b5 b6 b8:Nat):Prop where
 h:Ax w (xH (some ⟨b2,0,none⟩) (some ⟨b3,0,none⟩))
 s:Bg w (xT (some ⟨b5,0,none⟩) (some ⟨b6,0,none⟩))
 g:Bl w.heap.size w (some ⟨b8,0,none⟩) [2000]
theorem EXW.grow{w w':World}{b2 b3 b5 b6 b8:Nat}(x:EXW w b2 b3 b5 b6 b8)(hb:Below w.heap.size w w'):EXW w' b2 b3 b5 b6 b8:=⟨x.h.grow hb,x.s.grow hb,x.g.grow hb⟩
theorem ALb(w:World){b2 b3 b5 b6 b8:Nat}(E:EXW w b2 b3 b5 b6 b8):Calls Tryz.prog 24 #[.agg #[.string ⟨#[104]⟩,.int .i64 5000,.slice (some ⟨b3,0,none⟩) 1 1,.slice none 0 0],.agg #[.slice (some ⟨b6,0,none⟩) 1 1,.slice none 0 0],.slice (some ⟨b8,0,none⟩) 1 1] w fun e w'=>Hid (∃a c,e=.returned (.tuple #[.slice a 1 c,.int .i64 0])∧Ki w'.heap.size w' a [(⟨#[113]⟩,2000)])∧Below w.heap.size w w':=
 (Vs (xH (some ⟨b2,0,none⟩) (some ⟨b3,0,none⟩)) (xT (some ⟨b5,0,none⟩) (some ⟨b6,0,none⟩)) _ [2000] 1 w E.h E.s E.g (by decide)).mono fun e w' z=>by
  obtain⟨hx,hb⟩:=z;obtain⟨v,rfl,hr⟩:=hx.out;rw[ATi]at hr;obtain⟨a,c,rfl,_,_,_,hc⟩:=Nd hr;exact⟨lh ⟨a,c,by rw[Qa];rfl,hc⟩,hb⟩
theorem ARg(w:World){b2 b3 b5 b6 b8:Nat}(E:EXW w b2 b3 b5 b6 b8):Calls Tryz.prog 18 #[.agg #[.string ⟨#[104]⟩,.int .i64 5000,.slice (some ⟨b3,0,none⟩) 1 1,.slice none 0 0],.agg #[.slice (some ⟨b6,0,none⟩) 1 1,.slice none 0 0],.slice (some ⟨b8,0,none⟩) 1 1] w fun e w'=>Hid (∃a c,e=.returned (.tuple #[.slice a 1 c,.int .i64 0])∧Bl w'.heap.size w' a [9000])∧Below w.heap.size w w':=
 (ADh (xH (some ⟨b2,0,none⟩) (some ⟨b3,0,none⟩)) (xT (some ⟨b5,0,none⟩) (some ⟨b6,0,none⟩)) _ [2000] 1 w E.h E.s E.g (by decide)).mono fun e w' z=>by
  obtain⟨hx,hb⟩:=z;obtain⟨v,rfl,hr⟩:=hx.out;rw[AUq]at hr;obtain⟨a,c,rfl,_,_,_,hc⟩:=Be hr;exact⟨lh ⟨a,c,by rw[Qa];rfl,hc⟩,hb⟩
theorem AVd(w:World){b2 b3 b5 b6 b8:Nat}(E:EXW w b2 b3 b5 b6 b8):Calls Tryz.prog 15 #[.agg #[.string ⟨#[104]⟩,.int .i64 5000,.slice (some ⟨b3,0,none⟩) 1 1,.slice none 0 0],.agg #[.slice (some ⟨b6,0,none⟩) 1 1,.slice none 0 0],.slice (some ⟨b8,0,none⟩) 1 1,.int .i64 5000] w fun e w'=>Hid (∃a c,e=.returned (.tuple #[.slice a 1 c,.int .i64 0])∧Yj w'.heap.size w' a [(4600,1)])∧Below w.heap.size w w':=
 (AQw (xH (some ⟨b2,0,none⟩) (some ⟨b3,0,none⟩)) (xT (some ⟨b5,0,none⟩) (some ⟨b6,0,none⟩)) _ [2000] 1 5000 w E.h E.s E.g (by decide) (by decide) (fun k hk _ _ _=>by
  obtain rfl:k=0:=Je hk;rw[Rl,ABt];exact AVt)).mono fun e w' z=>by
  obtain⟨hx,hb⟩:=z;obtain⟨v,rfl,hr⟩:=hx.out;rw[AVb]at hr⊢;obtain⟨a,c,rfl,_,_,_,hc⟩:=Tj (hr.1 rfl);exact⟨lh ⟨a,c,rfl,hc⟩,hb⟩
theorem AQh(w:World){b2 b3 b5 b6 b8:Nat}(E:EXW w b2 b3 b5 b6 b8):Calls Tryz.prog 12 #[.agg #[.string ⟨#[104]⟩,.int .i64 5000,.slice (some ⟨b3,0,none⟩) 1 1,.slice none 0 0],.agg #[.slice (some ⟨b6,0,none⟩) 1 1,.slice none 0 0],.slice (some ⟨b8,0,none⟩) 1 1,.string ⟨#[115]⟩] w fun e w'=>Hid (∃a c,e=.returned (.tuple #[.slice a 5 c,.int .i64 0])∧True)∧Below w.heap.size w w':=
 (AKd (xH (some ⟨b2,0,none⟩) (some ⟨b3,0,none⟩)) (xT (some ⟨b5,0,none⟩) (some ⟨b6,0,none⟩)) _ [2000] 1 ⟨#[115]⟩ w E.h E.s E.g (by decide)).mono fun e w' z=>by
  obtain⟨hx,hb⟩:=z;obtain⟨v,rfl,hr⟩:=hx.out;rw[ARf]at hr⊢;obtain⟨a,c,rfl,_,_,_,hc⟩:=Ia (hr.1 rfl);exact⟨lh ⟨a,c,rfl,trivial⟩,hb⟩
theorem ANh(w:World)(L:List (ByteArray×Int))(h:1=L.length):Ki (w.alloc (.cells (Ed L).toArray 70)).heap.size (w.alloc (.cells (Ed L).toArray 70)) (some ⟨w.heap.size,0,none⟩) L:=by
 obtain⟨a,cap,e,_,_,_,hc⟩:=Nd (World.ownsRow_lit (base:=0) (e:=70) (size:=2) w (Ed L).toArray L.length nz (by unfold maxLen;omega) (by simp[ARl]));rw[←h]at e
 cases e
 exact hc
theorem AOr(w:World)(L:List (Int))(h:1=L.length):Bl (w.alloc (.cells (Ap L).toArray 3)).heap.size (w.alloc (.cells (Ap L).toArray 3)) (some ⟨w.heap.size,0,none⟩) L:=by
 obtain⟨a,cap,e,_,_,_,hc⟩:=Be (World.ownsRow_lit (base:=0) (e:=3) (size:=1) w (Ap L).toArray L.length nz (by unfold maxLen;omega) (by simp[Pz]));rw[←h]at e
 cases e
 exact hc
theorem AQy(w:World)(L:List (Int×Int))(h:1=L.length):Yj (w.alloc (.cells (Ek L).toArray 49)).heap.size (w.alloc (.cells (Ek L).toArray 49)) (some ⟨w.heap.size,0,none⟩) L:=by
 obtain⟨a,cap,e,_,_,_,hc⟩:=Tj (World.ownsRow_lit (base:=0) (e:=49) (size:=2) w (Ek L).toArray L.length nz (by unfold maxLen;omega) (by simp[AUs]));rw[←h]at e
 cases e
 exact hc
theorem AJf(a1 a2:Option Addr)(F:List (ByteArray×Int))(c1 c2:Nat)(w:World)(hl:1=F.length)(h1:Ki w.heap.size w a1 F)(h2:Ki w.heap.size w a2 F):
  Calls Tryz.prog 29 #[.slice a1 1 c1,.slice a2 1 c2] w fun e w'=>e=.returned (.bool true)∧Below w.heap.size w w':=by
 rw[hl];exact(Zl a1 a2 F F c1 c2 w (by omega) h1 h2 (by omega)).mono fun e w' h=>by rw[dT rfl]at h;exact h
theorem AJt(a1 a2:Option Addr)(F:List (Int))(c1 c2:Nat)(w:World)(hl:1=F.length)(h1:Bl w.heap.size w a1 F)(h2:Bl w.heap.size w a2 F):
  Calls Tryz.prog 30 #[.slice a1 1 c1,.slice a2 1 c2] w fun e w'=>e=.returned (.bool true)∧Below w.heap.size w w':=by
 rw[hl];exact(Zv a1 a2 F F c1 c2 w (by omega) h1 h2 (by omega)).mono fun e w' h=>by rw[dT rfl]at h;exact h
theorem AOj(a1 a2:Option Addr)(F:List (Int×Int))(c1 c2:Nat)(w:World)(hl:1=F.length)(h1:Yj w.heap.size w a1 F)(h2:Yj w.heap.size w a2 F):
  Calls Tryz.prog 17 #[.slice a1 1 c1,.slice a2 1 c2] w fun e w'=>e=.returned (.bool true)∧Below w.heap.size w w':=by
 rw[hl];exact(AMm a1 a2 F F c1 c2 w (by omega) h1 h2 (by omega)).mono fun e w' h=>by rw[dT rfl]at h;exact h
theorem AVg{w:World}{b2 b3 b5 b6 b8:Nat}(E:EXW w b2 b3 b5 b6 b8):
  ∃W0,((w.alloc (.cells #[.string ⟨#[104]⟩,.int .i64 5000,.slice (some ⟨b3,0,none⟩) 1 1,.slice none 0 0] 25)).alloc (.cells #[.slice (some ⟨b6,0,none⟩) 1 1,.slice none 0 0] 29))=W0∧Hid (∀w',Below W0.heap.size W0 w'→(w'.cell? ⟨w.heap.size,0,none⟩=some (.string ⟨#[104]⟩)∧w'.cell? ⟨w.heap.size,1,none⟩=some (.int .i64 5000)∧w'.cell? ⟨w.heap.size,2,none⟩=some (.slice (some ⟨b3,0,none⟩) 1 1)∧w'.cell? ⟨w.heap.size,3,none⟩=some (.slice none 0 0))∧(w'.cell? ⟨w.heap.size+1,0,none⟩=some (.slice (some ⟨b6,0,none⟩) 1 1)∧w'.cell? ⟨w.heap.size+1,1,none⟩=some (.slice none 0 0))∧EXW w' b2 b3 b5 b6 b8∧Below w.heap.size w w'):=by
 obtain⟨W0,hW0,HX⟩:=AMh E.h E.s E.g
 exact⟨W0,hW0,lh fun w' z=>by
  obtain⟨a,b,c,d,g,l⟩:=HX.out w' z;exact⟨a,b,⟨c,d,g⟩,l⟩⟩
theorem AAg(w:World):Calls Tryz.prog 10 #[] w fun e w'=>e=.returned (.bool true)∧Below w.heap.size w w':=by
 go_enter Tryz.func10,Tryz.ntmps10
 go_upto_region 2 with (go_at_call 41;go_fit (AEj _);rintro e w1 ⟨hx,hb1⟩;obtain⟨b2,b3,b5,b6,b8,rfl,i1,i2,i3⟩:=hx.out;have HE:=lh (EXW.mk i1 i2 i3);clear hx i1 i2 i3)
 obtain⟨W0,hW0,HX⟩:=AVg HE.out;clear HE
 try simp only[hW0]
 clear hW0;obtain⟨B1,hB1⟩:=nm (w1.heap.size);obtain⟨B2,hB2⟩:=nm (B1+1);have HW:Hid (∀w',Below W0.heap.size W0 w'→Below w.heap.size w w'):=lh fun w' z=>hb1.trans ((HX.out w' z).2.2.2.mono hb1.size);rw[hB1,hB2]at HX;rw[hB1]
 try rw[hB2]
 clear hB1 hB2 hb1;obtain⟨⟨a0,a1,a2,a3⟩,⟨s0,s1⟩,-,-⟩:=HX.out _ br;have HO1:Hid (∀w:World,Ki (w.alloc (.cells #[.string ⟨#[113]⟩,.int .i64 2000] 70)).heap.size (w.alloc (.cells #[.string ⟨#[113]⟩,.int .i64 2000] 70)) (some ⟨w.heap.size,0,none⟩) [(⟨#[113]⟩,2000)]):=lh fun w=>ANh w [(⟨#[113]⟩,2000)] rfl;have HO2:Hid (∀w:World,Bl (w.alloc (.cells #[.int .i64 9000] 3)).heap.size (w.alloc (.cells #[.int .i64 9000] 3)) (some ⟨w.heap.size,0,none⟩) [9000]):=lh fun w=>AOr w [9000] rfl;have HO3:Hid (∀w:World,Yj (w.alloc (.cells #[.int .i64 4600,.int .i64 1] 49)).heap.size (w.alloc (.cells #[.int .i64 4600,.int .i64 1] 49)) (some ⟨w.heap.size,0,none⟩) [(4600,1)]):=lh fun w=>AQy w [(4600,1)] rfl
 go_upto_region 6 with (first
  | (go_at_call 24;go_fit (ALb _ (HX.out _ br).2.2.1);rintro e w2 ⟨hx2,hb2⟩;obtain⟨a12,c12,rfl,f2⟩:=hx2.out;have F2:=lh f2;clear hx2 f2;obtain⟨⟨p20,p21,p22,p23⟩,⟨r20,r21⟩,-,-⟩:=HX.out _ hb2)
  | (go_at_call 18;go_fit (ARg _ (HX.out _ hb2).2.2.1);rintro e w3 ⟨hx3,hb3⟩;obtain⟨a13,c13,rfl,f3⟩:=hx3.out;have F3:=lh f3;clear hx3 f3;have hq3:=hb2.trans (hb3.mono hb2.size);obtain⟨⟨p30,p31,p32,p33⟩,⟨r30,r31⟩,-,-⟩:=HX.out _ hq3)
  | (go_at_call 15;go_fit (AVd _ (HX.out _ hq3).2.2.1);rintro e w4 ⟨hx4,hb4⟩;obtain⟨a14,c14,rfl,f4⟩:=hx4.out;have F4:=lh f4;clear hx4 f4;have hq4:=hq3.trans (hb4.mono hq3.size);obtain⟨⟨p40,p41,p42,p43⟩,⟨r40,r41⟩,-,-⟩:=HX.out _ hq4)
  | (go_at_call 12;go_fit (AQh _ (HX.out _ hq4).2.2.1);rintro e w5 ⟨hx5,hb5⟩;obtain⟨a15,c15,rfl,f5⟩:=hx5.out;have F5:=lh f5;clear hx5 f5;have hq5:=hq4.trans (hb5.mono hq4.size);obtain⟨⟨p50,p51,p52,p53⟩,⟨r50,r51⟩,-,-⟩:=HX.out _ hq5))
 have G2:=lh (((F2.out.grow hb3).grow hb4).grow hb5);have G3:=lh ((F3.out.grow hb4).grow hb5);have G4:=lh (F4.out.grow hb5);have hB5:=HW.out _ hq5;clear F2 F3 F4 F5 a0 a1 a2 a3 s0 s1 p20 p21 p22 p23 r20 r21 p30 p31 p32 p33 r30 r31 p40 p41 p42 p43 r40 r41 p50 p51 p52 p53 r50 r51;clear hb2 hb3 hb4 hb5 hq3 hq4 hq5 HX HW
 go_wp2_with (first
  | (go_at_call 29;go_fit (AJf _ _ [(⟨#[113]⟩,2000)] _ _ _ rfl (G2.out.grow (Aa _ _)) (HO1.out _));rintro e w6 ⟨rfl,hb6⟩;have hC6:=Dh _ hb6;have hB6:Below w.heap.size w w6:=hB5.trans (hC6.mono hB5.size);have G36:=lh (G3.out.grow hC6);have G46:=lh (G4.out.grow hC6))
  | (go_at_call 30;go_fit (AJt _ _ [9000] _ _ _ rfl (G36.out.grow (Aa _ _)) (HO2.out _));rintro e w7 ⟨rfl,hb7⟩;have hC7:=Dh _ hb7;have hB7:Below w.heap.size w w7:=hB6.trans (hC7.mono hB6.size);have G47:=lh (G46.out.grow hC7))
  | (go_at_call 20;go_fit (Ve 4600 _);rintro e w8 ⟨rfl,hb8⟩;have hB8:Below w.heap.size w w8:=hB7.trans (hb8.mono hB7.size);have G48:=lh (G47.out.grow hb8))
  | (go_at_call 17;go_fit (AOj _ _ [(4600,1)] _ _ _ rfl (G48.out.grow (Aa _ _)) (HO3.out _));rintro e w9 ⟨rfl,hb9⟩;have hB9:Below w.heap.size w w9:=hB8.trans ((Dh _ hb9).mono hB8.size)))
 go_ret;exact⟨rfl,hB9⟩
end
end Go.Proofs.YtebofaenlhhkaaaGreat
