/-
  THE WALK of timeline.moves.
-/
import Derived.Laws.StructEq
import Derived.Test.YtebofaenlhhkaaaGreatU29
namespace Go.Proofs.YtebofaenlhhkaaaGreat
set_option maxRecDepth 100000
set_option maxHeartbeats 80000000
section
open Go.RowKit Go.Shelf
attribute [local go_sem] Oper.semAt_some
theorem ent_tmoves(args:Array Value)(w:World):(callFunc 118 args).run Tryz.prog w=.ok (.enter 118 args) w:=enters_of Tryz.func118 (by kernel_rfl) rfl args w
theorem asks_tmoves{w:World}{b:Nat}{s:ByteArray}(h:w.cell? ⟨b,0,none⟩=some (.string s)):AsksMov 118 #[.pointer (some ⟨b,0,none⟩)] w.heap.size w (fun y=>decide (y.name=s)):=by
 intro W x hb;have hlt:=wl h;have h':=(hb.cell (p:=⟨b,0,none⟩) hlt).trans h;have hlt':b<W.heap.size:=wl h';show Calls _ _ #[.agg #[.string x.name,.int .i64 x.to,.int .i64 x.spd,.int .i64 x.rise,.int .i64 x.fall],.pointer (some ⟨b,0,none⟩)] _ _;clear h hb hlt
 go_enter Tryz.func118,Tryz.ntmps118
 go_wp2_with fail
 go_ret;exact⟨ret_bool (str_eq _ _),below_new _ _⟩
theorem mv_from(x:Mv){w:World}{b:Nat}(h:∀i,i<5→(w.cell? ⟨b,i,none⟩).isSome=true):MvAt (setFrom w b 0 [.string x.name,.int .i64 x.to,.int .i64 x.spd,.int .i64 x.rise,.int .i64 x.fall]) b x:=by
 have r:=read_from ([.string x.name,.int .i64 x.to,.int .i64 x.spd,.int .i64 x.rise,.int .i64 x.fall]:List Value) w b 0 (fun i hi=>by rw[Nat.zero_add];exact h i hi);simp only[Nat.zero_add]at r;exact⟨r 0 (by simp),r 1 (by simp),r 2 (by simp),r 3 (by simp),r 4 (by simp)⟩
structure ZMv(w:World)(b:Nat):Prop where
 c:w.cell? ⟨b,0,none⟩=some (.string ⟨#[]⟩)∧w.cell? ⟨b,1,none⟩=some (.int .i64 0)∧w.cell? ⟨b,2,none⟩=some (.int .i64 0)∧w.cell? ⟨b,3,none⟩=some (.int .i64 0)∧w.cell? ⟨b,4,none⟩=some (.int .i64 0)
 free:∀i,w.frozen? ⟨b,i,none⟩=false
theorem ZMv.lt{w:World}{b:Nat}(z:ZMv w b):b<w.heap.size:=wl z.c.1
theorem ZMv.some{w:World}{b:Nat}(z:ZMv w b):∀i,i<5→(w.cell? ⟨b,i,none⟩).isSome=true:=by
 obtain⟨c0,c1,c2,c3,c4⟩:=z.c;intro i hi;obtain rfl | rfl | rfl | rfl | rfl:i=0∨i=1∨i=2∨i=3∨i=4:=by omega
 ·rw[c0];rfl
 ·rw[c1];rfl
 ·rw[c2];rfl
 ·rw[c3];rfl
 ·rw[c4];rfl
theorem ZMv.carry{w w':World}{b:Nat}(z:ZMv w b)(h:Below w.heap.size w w'):ZMv w' b:=by
 have hl:=z.lt;obtain⟨c0,c1,c2,c3,c4⟩:=z.c;exact⟨⟨(h.cell (p:=⟨b,0,none⟩) hl).trans c0,(h.cell (p:=⟨b,1,none⟩) hl).trans c1,(h.cell (p:=⟨b,2,none⟩) hl).trans c2,(h.cell (p:=⟨b,3,none⟩) hl).trans c3,(h.cell (p:=⟨b,4,none⟩) hl).trans c4⟩,fun i=>(h.frozen (p:=⟨b,i,none⟩) hl).trans (z.free i)⟩
theorem ZMv.new(w:World):ZMv (w.alloc (.cells #[.string ⟨#[]⟩,.int .i64 0,.int .i64 0,.int .i64 0,.int .i64 0] 94)) w.heap.size:=⟨by simp,fun i=>by simp⟩
theorem tmoves_any(q:CueR)(s:ByteArray)(w:World)(hm:Movs w.heap.size w q.ma q.moves)(hl:q.moves.length≤1000)(_:q.moves.length≤q.mc):
  Calls Tryz.prog 79 #[.agg #[.string q.name,.string q.after,.int .i64 q.link,.int .i64 q.delay,.slice q.ma q.moves.length q.mc,.int .i64 q.crew,.int .i64 q.power],.string s] w fun e w'=>e=.returned (.tuple #[.agg #[.string (mvO q.moves s).name,.int .i64 (mvO q.moves s).to,.int .i64 (mvO q.moves s).spd,.int .i64 (mvO q.moves s).rise,.int .i64 (mvO q.moves s).fall],.bool (mvB q.moves s)])∧Below w.heap.size w w':=by
 have hb:Below w.heap.size w (((w.alloc (LCu q)).alloc (.cells #[.string s] 9)).alloc (.cells #[.string ⟨#[]⟩,.int .i64 0,.int .i64 0,.int .i64 0,.int .i64 0] 94)):=((below_new w _).alloc (by simp) _).alloc (by simp;omega) _;have hq:=((CueAt.new w q 86 _ rfl).carry (below_new _ (.cells #[.string s] 9))).carry (below_new _ (.cells #[.string ⟨#[]⟩,.int .i64 0,.int .i64 0,.int .i64 0,.int .i64 0] 94));have hs1:((w.alloc (LCu q)).alloc (.cells #[.string s] 9)).cell? ⟨w.heap.size+1,0,none⟩=some (.string s):=by simp
 have hs:=((below_new ((w.alloc (LCu q)).alloc (.cells #[.string s] 9)) (.cells #[.string ⟨#[]⟩,.int .i64 0,.int .i64 0,.int .i64 0,.int .i64 0] 94)).cell (p:=⟨w.heap.size+1,0,none⟩) (wl hs1)).trans hs1;have hz:=ZMv.new ((w.alloc (LCu q)).alloc (.cells #[.string s] 9));rw[show((w.alloc (LCu q)).alloc (.cells #[.string s] 9)).heap.size=w.heap.size+1+1 by simp]at hz;clear hs1;obtain⟨W0,hW0⟩:=nm ((((w.alloc (LCu q)).alloc (.cells #[.string s] 9)).alloc (.cells #[.string ⟨#[]⟩,.int .i64 0,.int .i64 0,.int .i64 0,.int .i64 0] 94)));rw[hW0]at hb hq hs hz;have HIX:=lh (mov_indexFunc q.ma q.moves q.mc _ _ _ (fun y=>decide (y.name=s)) W0 ent_tmoves (by omega) (Nat.le_refl _) (hm.grow hb) (asks_tmoves hs));have HX:Hid (∀w',Below W0.heap.size W0 w'→CueAt w' w.heap.size q∧Movs w'.heap.size w' q.ma q.moves∧ZMv w' (w.heap.size+1+1)∧Below w.heap.size w w'):=lh fun w' z=>⟨hq.carry z,(hm.grow hb).grow z,hz.carry z,hb.trans (z.mono hb.size)⟩;have hr:=mov_first_cases q.moves (fun y=>decide (y.name=s));clear hb hq hs hz hm;obtain⟨B,hB⟩:=nm (w.heap.size+1+1);have HBL:Hid (w.heap.size≤B):=lh (by omega);rw[hB]at HX;rcases hr with ⟨hr,-⟩ | ⟨k,hk,hr,-,-⟩
 ·have HM:=lh (mv_no (show mvI q.moves s=-1 from hr))
  rw[hr]at HIX;rw[HM.out.1,HM.out.2];clear hr
  go_enter Tryz.func79,Tryz.ntmps79
  go_upto_region 1 with (fail)
  try simp only[hW0]
  clear hW0
  try simp only[hB]
  clear hB;obtain⟨⟨q0,q1,q2,q3,q4,q5,q6⟩,-⟩:=HX.out _ br
  go_upto_region 3 with (go_at_call 117;(with_reducible refine HIX.out.mono ?_);rintro e w1 ⟨rfl,hb1⟩)
  clear q0 q1 q2 q3 q4 q5 q6;obtain⟨⟨q0,q1,q2,q3,q4,q5,q6⟩,hmv,hz,hw1⟩:=HX.out _ hb1;have hzz:=hz.some;obtain⟨⟨z0,z1,z2,z3,z4⟩,hff⟩:=hz
  go_wp2_with fail
  show bodyPost _ _ _ Exit.ret _ (setFrom w1 B 0 [.string ⟨#[]⟩,.int .i64 0,.int .i64 0,.int .i64 0,.int .i64 0]);have hf:=mv_from zMv hzz;have hbb:=below_from (m:=w.heap.size) (b:=B) (W:=w) [.string ⟨#[]⟩,.int .i64 0,.int .i64 0,.int .i64 0,.int .i64 0] w1 0 hw1 HBL.out
  try dsimp only[zMv]at hf hbb
  generalize setFrom w1 B 0 [.string ⟨#[]⟩,.int .i64 0,.int .i64 0,.int .i64 0,.int .i64 0]=WF at *;obtain⟨f0,f1,f2,f3,f4⟩:=hf
  try dsimp only[zMv]at f0 f1 f2 f3 f4
  refine bodyPost_ret (v:=.tuple #[.agg #[.string ⟨#[]⟩,.int .i64 0,.int .i64 0,.int .i64 0,.int .i64 0],.bool false]) (by simp[results,Tryz.results79,go_sem,f0,f1,f2,f3,f4]) rfl ⟨rfl,hbb⟩
 ·have HM:=lh (mv_yes (show mvI q.moves s=(k:Int)from hr))
  rw[hr]at HIX;rw[HM.out.1,HM.out.2];have i0:0≤(k:Int):=by omega
  have i1:(k:Int)<(q.moves.length:Int):=by omega
  clear hr
  go_enter Tryz.func79,Tryz.ntmps79
  go_upto_region 1 with (fail)
  try simp only[hW0]
  clear hW0
  try simp only[hB]
  clear hB;obtain⟨⟨q0,q1,q2,q3,q4,q5,q6⟩,-⟩:=HX.out _ br
  go_upto_region 4 with (go_at_call 117;(with_reducible refine HIX.out.mono ?_);rintro e w1 ⟨rfl,hb1⟩)
  clear q0 q1 q2 q3 q4 q5 q6;obtain⟨⟨q0,q1,q2,q3,q4,q5,q6⟩,hmv,hz,hw1⟩:=HX.out _ hb1;have hzz:=hz.some;obtain⟨⟨z0,z1,z2,z3,z4⟩,hff⟩:=hz;obtain⟨bm,off,hma,hbm,hcm⟩:=hmv (by omega);obtain⟨c0,c1,c2,c3,c4⟩:=hcm k hk;rw[hma]at q4;clear hcm hmv
  go_wp2_with fail
  show bodyPost _ _ _ Exit.ret _ (setFrom w1 B 0 [.string (mg q.moves k).name,.int .i64 (mg q.moves k).to,.int .i64 (mg q.moves k).spd,.int .i64 (mg q.moves k).rise,.int .i64 (mg q.moves k).fall]);have hf:=mv_from (mg q.moves k) hzz;have hbb:=below_from (m:=w.heap.size) (b:=B) (W:=w) [.string (mg q.moves k).name,.int .i64 (mg q.moves k).to,.int .i64 (mg q.moves k).spd,.int .i64 (mg q.moves k).rise,.int .i64 (mg q.moves k).fall] w1 0 hw1 HBL.out
  try dsimp only[zMv]at hf hbb
  generalize setFrom w1 B 0 [.string (mg q.moves k).name,.int .i64 (mg q.moves k).to,.int .i64 (mg q.moves k).spd,.int .i64 (mg q.moves k).rise,.int .i64 (mg q.moves k).fall]=WF at *;obtain⟨f0,f1,f2,f3,f4⟩:=hf
  try dsimp only[zMv]at f0 f1 f2 f3 f4
  refine bodyPost_ret (v:=.tuple #[.agg #[.string (mg q.moves k).name,.int .i64 (mg q.moves k).to,.int .i64 (mg q.moves k).spd,.int .i64 (mg q.moves k).rise,.int .i64 (mg q.moves k).fall],.bool true]) (by simp[results,Tryz.results79,go_sem,f0,f1,f2,f3,f4]) rfl ⟨rfl,hbb⟩
theorem boxPS{w:World}{s:SheetR}(ta:Option Addr)(tn tc:Nat){sa na:Option Addr}{S N:List Int}(sc nc:Nat)(hs:SheetIn w s)(hS:Nums w.heap.size w sa S)(hN:Nums w.heap.size w na N):
  ∃W0,((w.alloc (.cells #[.slice ta tn tc,.slice sa S.length sc,.slice na N.length nc] 109)).alloc (LSh s))=W0∧Hid (∀w',Below W0.heap.size W0 w'→PC w' w.heap.size (.slice ta tn tc) (.slice sa S.length sc) (.slice na N.length nc)∧SheetAt w' (w.heap.size+1) s∧SheetIn w' s∧Nums w'.heap.size w' sa S∧Nums w'.heap.size w' na N∧Below w.heap.size w w'):=by
 have hb:Below w.heap.size w ((w.alloc (.cells #[.slice ta tn tc,.slice sa S.length sc,.slice na N.length nc] 109)).alloc (LSh s)):=(below_new w _).alloc (by simp) _;have hS':SheetAt ((w.alloc (.cells #[.slice ta tn tc,.slice sa S.length sc,.slice na N.length nc] 109)).alloc (LSh s)) (w.heap.size+1) s:=by unfold SheetAt;simp
 exact⟨_,rfl,lh fun w' z=>⟨((PC.put w (.slice ta tn tc) (.slice sa S.length sc) (.slice na N.length nc) 109).carry (below_new _ _)).carry z,hS'.carry z,(hs.grow hb).grow z,(hS.grow hb).grow z,(hN.grow hb).grow z,hb.trans (z.mono hb.size)⟩⟩
theorem tordered_any(s:SheetR)(ta:Option Addr)(tn tc:Nat)(sa na:Option Addr)(S N:List Int)(sc nc:Nat)(w:World)(hs:SheetIn w s)(hS:Nums w.heap.size w sa S)(hN:Nums w.heap.size w na N)(hSl:S.length=s.cues.length)(hNl:N.length=s.cues.length)
  (hb1:∀i,i<s.cues.length→0≤ig S i∧ig S i≤4611686018427387903) (hb2:∀i,i<s.cues.length→0≤ig N i∧ig N i≤4611686018427387903):
  Calls Tryz.prog 47 #[.agg #[.slice ta tn tc,.slice sa S.length sc,.slice na N.length nc],.agg #[.slice s.ca s.cues.length s.cc,.slice s.pa s.pairs.length s.pc]] w fun e w'=>e=.returned (.bool (ordrB s.cues S N))∧Below w.heap.size w w':=by
 have hcl:=hs.clen;have hcc:s.cues.length≤s.cc:=hs.ccap;have HML:=lh hs.mlen;have HCP:=lh hs.mcap;have HB1:=lh hb1;have HB2:=lh hb2;have HSL:=lh hSl;have HNL:=lh hNl;obtain⟨W0,hW0,HX⟩:=boxPS (s:=s) ta tn tc sc nc hs hS hN;have HMI:Hid (∀i,i<s.cues.length→∀w',Below W0.heap.size W0 w'→Movs w'.heap.size w' (cg s.cues i).ma (cg s.cues i).moves):=lh fun i hi w' z=>(HX.out w' z).2.2.1.each i hi;have HNO:Hid (¬OrdrOK s.cues S N→ordrB s.cues S N=false):=lh fun n=>ordr_no n;have HYE:Hid (OrdrOK s.cues S N→ordrB s.cues S N=true):=lh fun n=>ordrB_iff.2 n;obtain⟨ca,hca⟩:=nm (s.ca);have HCA:=lh hca;clear hs hS hN hSl hNl hb1 hb2 hca
 go_enter Tryz.func47,Tryz.ntmps47
 go_upto_region 1 with (fail)
 try simp only[hW0]
 clear hW0;obtain⟨⟨p0,p1,p2,p3,p4,p5,p6⟩,⟨s0,s1⟩,-,-,-,-⟩:=HX.out _ br;rw[HCA.out]at s0
 go_upto_region 2 with (fail)
 clear p0 p1 p2 p3 p4 p5 p6 s0 s1
 go_loopw [16] (fun iv wr=>∃i:Nat,iv=.int .i64 i∧i≤s.cues.length∧Below W0.heap.size W0 wr∧Hid (∀i',i'<i→∀k,k<i'→∀j,j<(cg s.cues i').moves.length→ordrAt s.cues S N i' k j)) (fun iv _=>s.cues.length-(intOf iv).toNat)
 case atStart=>exact⟨0,rfl,Nat.zero_le _,br,lh fun _ z=>absurd z (Nat.not_lt_zero _)⟩
 case round=>
  obtain⟨i,rfl,hi,hB,HA⟩:=hrel;obtain⟨wi,rfl⟩:∃wo:World,wo=wr:=⟨_,rfl⟩
  by_cases hlt:i<s.cues.length
  case neg=>
   obtain rfl:i=s.cues.length:=by omega
   go_wp2_with fail
   go_ret;exact⟨ret_bool (HYE.out HA.out).symm,(HX.out _ hB).2.2.2.2.2⟩
  obtain⟨xb,xo,hxa,hxb,hxc⟩:=(HX.out _ hB).2.2.1.lies (by omega);rw[HCA.out]at hxa;subst hxa;obtain⟨c0,c1,c2,c3,c4,c5,c6⟩:=hxc i hlt;obtain⟨q,hq⟩:=nm (cg s.cues i);rw[hq]at c0 c1 c2 c3 c4 c5 c6;have HQ:=lh hq;have i0:0≤(i:Int):=by omega
  have i1:(i:Int)<(s.cues.length:Int):=by omega
  have i2:(i:Int)≤(s.cc:Int):=by omega
  have iw:IntKind.i64.wrap ((i:Int)+1)=(i:Int)+1:=IntWalk.i64_in _ (by omega);have HXC:Hid (∀k,k<s.cues.length→wi.cell? ⟨xb,xo+k*7,none⟩=some (.string (cg s.cues k).name)∧wi.cell? ⟨xb,xo+k*7+1,none⟩=some (.string (cg s.cues k).after)∧wi.cell? ⟨xb,xo+k*7+2,none⟩=some (.int .i64 (cg s.cues k).link)∧wi.cell? ⟨xb,xo+k*7+3,none⟩=some (.int .i64 (cg s.cues k).delay)∧wi.cell? ⟨xb,xo+k*7+4,none⟩=some (.slice (cg s.cues k).ma (cg s.cues k).moves.length (cg s.cues k).mc)∧wi.cell? ⟨xb,xo+k*7+5,none⟩=some (.int .i64 (cg s.cues k).crew)∧wi.cell? ⟨xb,xo+k*7+6,none⟩=some (.int .i64 (cg s.cues k).power)):=lh hxc;have HXB:=lh hxb;obtain⟨-,⟨s0,s1⟩,-⟩:=HX.out _ hB;rw[HCA.out]at s0;have zs:w.heap.size+1<wi.heap.size:=wl s0;have hbn:=below_new wi (LCu q);have hqn:=CueAt.new wi q 86 _ rfl;clear hq hxc
  go_upto_region 5 with (fail)
  clear c0 c1 c2 c3 c4 c5 c6 s0 s1 zs;obtain⟨Bq,hBq⟩:=nm (wi.heap.size);obtain⟨Wq,hWq⟩:=nm (wi.alloc (LCu q));rw[hWq]at hbn hqn;simp only[hWq];rw[hBq]at hqn;simp only[hBq];have HBQ:Hid (Below W0.heap.size W0 Wq):=lh (hB.trans (by rw[←hBq]at *;exact hbn.mono hB.size));have HBW:Hid (Below wi.heap.size wi Wq):=lh hbn;have HQA:Hid (∀w',Below Wq.heap.size Wq w'→CueAt w' Bq q):=lh fun w' z=>hqn.carry z;clear hWq hBq hbn hqn hB
  go_loopw [26] (fun kv wk=>∃k:Nat,kv=.int .i64 k∧k≤i∧Below Wq.heap.size Wq wk∧Hid (∀k',k'<k→∀j,j<q.moves.length→ordrAt s.cues S N i k' j)) (fun kv _=>i-(intOf kv).toNat)
  case atStart=>exact⟨0,rfl,Nat.zero_le _,br,lh fun _ z=>absurd z (Nat.not_lt_zero _)⟩
  case round=>
   obtain⟨k,rfl,hk,hB2,HA2⟩:=hrel;obtain⟨wk,rfl⟩:∃wo:World,wo=wr:=⟨_,rfl⟩
   by_cases hlk:k<i
   case neg=>
    obtain rfl:k=i:=by omega
    go_wp2_with fail
    go_roundw
    case rel=>exact⟨k+1,by go_num,by omega,HBQ.out.trans (hB2.mono HBQ.out.size),lh fun i' hi' k' hk' j hj=>by
     rcases Nat.lt_or_ge i' k with l | l
     ·exact HA.out i' l k' hk' j hj
     ·obtain rfl:i'=k:=by omega
      rw[HQ.out]at hj;exact HA2.out k' hk' j hj⟩
    case measure=>simp[intOf];omega
   have hbk:Below wi.heap.size wi wk:=HBW.out.trans (hB2.mono HBW.out.size);obtain⟨c0,c1,c2,c3,c4,c5,c6⟩:=HXC.out k (by omega);obtain⟨r,hr⟩:=nm (cg s.cues k);rw[hr]at c0 c1 c2 c3 c4 c5 c6;replace c0:=(hbk.cell (p:=⟨xb,_,none⟩) HXB.out).trans c0;replace c1:=(hbk.cell (p:=⟨xb,_,none⟩) HXB.out).trans c1;replace c2:=(hbk.cell (p:=⟨xb,_,none⟩) HXB.out).trans c2;replace c3:=(hbk.cell (p:=⟨xb,_,none⟩) HXB.out).trans c3;replace c4:=(hbk.cell (p:=⟨xb,_,none⟩) HXB.out).trans c4;replace c5:=(hbk.cell (p:=⟨xb,_,none⟩) HXB.out).trans c5;replace c6:=(hbk.cell (p:=⟨xb,_,none⟩) HXB.out).trans c6;have HR:=lh hr;have k0:0≤(k:Int):=by omega
   have k1:(k:Int)<(i:Int):=by omega
   have kw:IntKind.i64.wrap ((k:Int)+1)=(k:Int)+1:=IntWalk.i64_in _ (by omega);obtain⟨q0,q1,q2,q3,q4,q5,q6⟩:=HQA.out _ hB2;have zq:Bq<wk.heap.size:=wl q0;have hbn:=below_new wk (.cells #[.string r.name,.string r.after,.int .i64 r.link,.int .i64 r.delay,.slice r.ma r.moves.length r.mc,.int .i64 r.crew,.int .i64 r.power] 86);have hrn:=CueAt.new wk r 86 _ rfl;clear hr hbk
   go_upto_region 8 with (fail)
   clear c0 c1 c2 c3 c4 c5 c6 q0 q1 q2 q3 q4 q5 q6 zq;obtain⟨Br,hBr⟩:=nm (wk.heap.size);obtain⟨Wr,hWr⟩:=nm (wk.alloc (.cells #[.string r.name,.string r.after,.int .i64 r.link,.int .i64 r.delay,.slice r.ma r.moves.length r.mc,.int .i64 r.crew,.int .i64 r.power] 86));rw[hWr]at hbn hrn;simp only[hWr];rw[hBr]at hrn;simp only[hBr];have HBR:Hid (Below Wq.heap.size Wq Wr):=lh (hB2.trans (by rw[←hBr]at *;exact hbn.mono hB2.size));have HRA:Hid (∀w',Below Wr.heap.size Wr w'→CueAt w' Br r):=lh fun w' z=>hrn.carry z;have HB0:Hid (∀w',Below Wr.heap.size Wr w'→Below W0.heap.size W0 w'):=lh fun w' z=>HBQ.out.trans ((HBR.out.trans (z.mono HBR.out.size)).mono HBQ.out.size);have hql:q.moves.length≤1000:=by rw[←HQ.out];exact HML.out i hlt
   have hqm:q.moves.length≤q.mc:=by rw[←HQ.out];exact HCP.out i hlt
   have hkc:k<s.cues.length:=by omega
   have hrl:r.moves.length≤1000:=by rw[←HR.out];exact HML.out k hkc
   have hrm:r.moves.length≤r.mc:=by rw[←HR.out];exact HCP.out k hkc
   have HRM:Hid (∀w',Below W0.heap.size W0 w'→Movs w'.heap.size w' r.ma r.moves):=lh fun w' z=>by rw[←HR.out];exact HMI.out k hkc w' z
   have HQM:Hid (∀w',Below W0.heap.size W0 w'→Movs w'.heap.size w' q.ma q.moves):=lh fun w' z=>by rw[←HQ.out];exact HMI.out i hlt w' z
   clear hWr hBr hbn hrn hB2
   go_loopw [34] (fun jv wj=>∃j:Nat,jv=.int .i64 j∧j≤q.moves.length∧Below Wr.heap.size Wr wj∧Hid (∀j',j'<j→ordrAt s.cues S N i k j')) (fun jv _=>q.moves.length-(intOf jv).toNat)
   case atStart=>exact⟨0,rfl,Nat.zero_le _,br,lh fun _ z=>absurd z (Nat.not_lt_zero _)⟩
   case round=>
    obtain⟨j,rfl,hj,hB3,HA3⟩:=hrel;obtain⟨wj,rfl⟩:∃wo:World,wo=wr:=⟨_,rfl⟩
    by_cases hlj:j<q.moves.length
    case neg=>
     obtain rfl:j=q.moves.length:=by omega
     go_wp2_with fail
     go_roundw
     case rel=>exact⟨k+1,by go_num,by omega,HBR.out.trans (hB3.mono HBR.out.size),lh fun k' hk' j hj=>by
      rcases Nat.lt_or_ge k' k with l | l
      ·exact HA2.out k' l j hj
      ·obtain rfl:k'=k:=by omega
       exact HA3.out j hj⟩
     case measure=>simp[intOf];omega
    have hw0:=HB0.out _ hB3;obtain⟨mb,mo,hma,hmb,hmc⟩:=(HQM.out _ hw0) (by omega);obtain⟨d0,d1,d2,d3,d4⟩:=hmc j hlj;obtain⟨y,hy⟩:=nm (mg q.moves j);rw[hy]at d0 d1 d2 d3 d4;have HY:=lh hy;have j0:0≤(j:Int):=by omega
    have j1:(j:Int)<(q.moves.length:Int):=by omega
    have jw:IntKind.i64.wrap ((j:Int)+1)=(j:Int)+1:=IntWalk.i64_in _ (by omega);obtain⟨r0,r1,r2,r3,r4,r5,r6⟩:=HRA.out _ hB3;have zr:Br<wj.heap.size:=wl r0;have hbn:=below_new wj (.cells #[.string y.name,.int .i64 y.to,.int .i64 y.spd,.int .i64 y.rise,.int .i64 y.fall] 94);have HTM:=lh (tmoves_any r y.name _ ((HRM.out _ hw0).grow hbn) hrl hrm);have HMA:=lh hma;obtain⟨B,hBm⟩:=nm (mvB r.moves y.name);rw[hBm]at HTM;have HBM:=lh hBm;have HW3:Hid (Below Wr.heap.size Wr (wj.alloc (.cells #[.string y.name,.int .i64 y.to,.int .i64 y.spd,.int .i64 y.rise,.int .i64 y.fall] 94))):=lh (hB3.alloc hB3.size _);clear hmc hy hma hBm;rw[HMA.out]at *
    go_upto_region 11 with (go_at_call 79;(with_reducible refine HTM.out.mono ?_);rintro e w9 ⟨rfl,hb9⟩)
    have hb10:Below Wr.heap.size Wr (w9.alloc (.cells #[.string (mvO r.moves y.name).name,.int .i64 (mvO r.moves y.name).to,.int .i64 (mvO r.moves y.name).spd,.int .i64 (mvO r.moves y.name).rise,.int .i64 (mvO r.moves y.name).fall] 94)):=(HW3.out.trans (hb9.mono HW3.out.size)).alloc (HW3.out.trans (hb9.mono HW3.out.size)).size _;obtain⟨W10,hW10⟩:=nm (w9.alloc (.cells #[.string (mvO r.moves y.name).name,.int .i64 (mvO r.moves y.name).to,.int .i64 (mvO r.moves y.name).spd,.int .i64 (mvO r.moves y.name).rise,.int .i64 (mvO r.moves y.name).fall] 94));rw[hW10]at hb10;simp only[hW10];clear hW10 hb9 d0 d1 d2 d3 d4 r0 r1 r2 r3 r4 r5 r6 zr HTM HW3
    have HAJ:Hid (ordrAt s.cues S N i k j→∀j',j'<j+1→ordrAt s.cues S N i k j'):=lh fun z j' hj'=>by
     rcases Nat.lt_or_ge j' j with l | l
     ·exact HA3.out j' l
     ·obtain rfl:j'=j:=by omega
      exact z
    have HAT:Hid (ordrAt s.cues S N i k j↔(B=true→ig S k+ig N k≤ig S i)):=lh (by unfold ordrAt;rw[HQ.out,HR.out,HY.out,HBM.out])
    cases B
    ·refine wp_region_held_drew (S:=fun w'=>Below Wr.heap.size Wr w') (by kernel_rfl) hb10.drew (fun hHeld=>?_)
     refine tk 0 ?_;refine tk 1 ?_;refine sk 2 ?_;refine sk 3 ?_;refine sk 4 ?_;refine sk 5 ?_;refine sk 6 ?_;refine sk 7 ?_;refine sk 8 ?_;refine sk 9 ?_;refine sk 10 ?_;refine sk 11 ?_;refine sk 12 ?_;refine sk 13 ?_;refine sk 14 ?_;refine sk 15 ?_;refine sk 16 ?_;refine sk 17 ?_;refine sk 18 ?_;refine tk 19 ?_;refine dn ?_
     go_wp2_with fail
     go_roundw
     case rel=>exact⟨j+1,by go_num,by omega,hHeld,lh (HAJ.out (HAT.out.2 (fun z=>by cases z)))⟩
     case measure=>simp[intOf];omega
    ·obtain⟨sb,so,hsb,hsl,hsc⟩:=(HX.out _ br).2.2.2.1 (by rw[HSL.out];omega)
     obtain⟨nb,no,hnb,hnl,hnc⟩:=(HX.out _ br).2.2.2.2.1 (by rw[HNL.out];omega);have f1:∀w',Below Wr.heap.size Wr w'→w'.cell? ⟨w.heap.size,1,none⟩=some (.slice (some ⟨sb,so,none⟩) S.length sc):=fun w' z=>by have:=(HX.out _ (HB0.out _ z)).1.2.1;rwa [hsb]at this
     have f2:∀w',Below Wr.heap.size Wr w'→w'.cell? ⟨w.heap.size,2,none⟩=some (.slice (some ⟨nb,no,none⟩) N.length nc):=fun w' z=>by have:=(HX.out _ (HB0.out _ z)).1.2.2.1;rwa [hnb]at this
     have e1:∀w',Below Wr.heap.size Wr w'→w'.cell? ⟨sb,so+i,none⟩=some (.int .i64 (ig S i)):=fun w' z=>((HB0.out _ z).cell (p:=⟨sb,so+i,none⟩) hsl).trans (hsc i (by rw[HSL.out];omega));have e2:∀w',Below Wr.heap.size Wr w'→w'.cell? ⟨sb,so+k,none⟩=some (.int .i64 (ig S k)):=fun w' z=>((HB0.out _ z).cell (p:=⟨sb,so+k,none⟩) hsl).trans (hsc k (by rw[HSL.out];omega));have e3:∀w',Below Wr.heap.size Wr w'→w'.cell? ⟨nb,no+k,none⟩=some (.int .i64 (ig N k)):=fun w' z=>((HB0.out _ z).cell (p:=⟨nb,no+k,none⟩) hnl).trans (hnc k (by rw[HNL.out];omega));obtain⟨SL,hSL⟩:=nm (S.length);obtain⟨NL,hNL⟩:=nm (N.length);rw[hSL]at f1;rw[hNL]at f2;have l1:(i:Int)<(SL:Int):=by have:=HSL.out;omega
     have l2:(k:Int)<(SL:Int):=by have:=HSL.out;omega
     have l3:(k:Int)<(NL:Int):=by have:=HNL.out;omega
     have b1:=HB1.out k hkc;have b2:=HB2.out k hkc;have wa:IntKind.i64.wrap (ig S k+ig N k)=ig S k+ig N k:=IntWalk.i64_in _ (by omega);clear hsc hnc hsb hnb hSL hNL b1 b2
     by_cases lt:ig S i<ig S k+ig N k
     ·have g:=decide_eq_true lt
      have LT:=lh lt;clear lt;refine wp_region_held_drew (S:=fun w'=>Below Wr.heap.size Wr w') (by kernel_rfl) hb10.drew (fun hHeld=>?_);refine tk 0 ?_;refine tk 1 ?_;refine tk 2 ?_;refine tk 3 ?_;refine tk 4 ?_;refine tk 5 ?_;refine tk 6 ?_;refine tk 7 ?_;refine tk 8 ?_;refine tk 9 ?_;refine tk 10 ?_;refine tk 11 ?_;refine tk 12 ?_;refine tk 13 ?_;refine tk 14 ?_;refine tk 15 ?_;refine tk 16 ?_;refine tk 17 ?_;refine tk 18 ?_;refine tk 19 ?_;refine dn ?_
      go_wp2_with fail
      go_ret;exact⟨ret_bool (HNO.out fun z=>by have:=HAT.out.1 (z i hlt k hlk j (by rw[HQ.out];exact hlj));simp only[forall_const]at this;have:=LT.out;omega).symm,(HX.out _ (HB0.out _ hHeld)).2.2.2.2.2⟩
     ·have g:=decide_eq_false lt
      have LT:=lh lt;clear lt;refine wp_region_held_drew (S:=fun w'=>Below Wr.heap.size Wr w') (by kernel_rfl) hb10.drew (fun hHeld=>?_);refine tk 0 ?_;refine tk 1 ?_;refine tk 2 ?_;refine tk 3 ?_;refine tk 4 ?_;refine tk 5 ?_;refine tk 6 ?_;refine tk 7 ?_;refine tk 8 ?_;refine tk 9 ?_;refine tk 10 ?_;refine tk 11 ?_;refine tk 12 ?_;refine tk 13 ?_;refine tk 14 ?_;refine tk 15 ?_;refine tk 16 ?_;refine tk 17 ?_;refine tk 18 ?_;refine tk 19 ?_;refine dn ?_
      go_wp2_with fail
      go_roundw
      case rel=>exact⟨j+1,by go_num,by omega,hHeld,lh (HAJ.out (HAT.out.2 (fun _=>by have:=LT.out;omega)))⟩
      case measure=>simp[intOf];omega
end
section
open Go.RowKit Go.Shelf
theorem frac_und:Tryz.prog.underlying 49=some (.struct (Tryz.prog.fieldsOf 49)):=by
 unfold Program.fieldsOf;rw[Tryz.underlying49]
theorem frac_held:Tryz.prog.stoodInHeld 49=false:=by kernel_rfl
theorem frac_guard:Tryz.prog.eqGuardType Tryz.prog.depth 49=false:=by kernel_rfl
theorem frac_eql(w:World)(a b c d:Int):(binOp .eql 49 (.agg #[.int .i64 a,.int .i64 b]) (.agg #[.int .i64 c,.int .i64 d])).run Tryz.prog w=.ok (.bool ((a==c)&&(b==d))) w:=by
 rw[run_eql_struct,show(10000:Nat)=9998+1+1 from rfl,run_equalIn_agg _ _ _ _ _ frac_und frac_held];unfold Program.fieldsOf;rw[Tryz.underlying49];cases h:a==c
 ·go_simp
 ·go_simp
  by_cases e:b=d
  ·simp[e]
  ·simp[e]
theorem frac_eqg(w:World)(x y:Operand)(xs ys:Array Value):(eqGuard .eql 49 x y (.agg xs) (.agg ys)).run Tryz.prog w=.ok () w:=run_eqGuard_agg _ _ _ _ _ _ _ frac_guard
theorem exec_eql(ρ:Operand→Value)(o:Oper)(x y:Operand)(yt:TypeId)(a b c d:Int)(ho:o.op=.binOp .eql 49 x y yt)(hx:ρ x=.agg #[.int .i64 a,.int .i64 b])(hy:ρ y=.agg #[.int .i64 c,.int .i64 d])(w:World):(execOp ρ o).run Tryz.prog w=.ok (.value (.bool ((a==c)&&(b==d)))) w:=by
 unfold execOp;rw[ho];simp only[hx,hy,Sem.run_bind,frac_eqg,Result.andThen_ok,frac_eql,Sem.run_pure]
end
section
open Go.RowKit Go.Shelf
attribute [local go_sem] Oper.semAt_some
structure PathIn(w:World)(h:HouseR)(s:SheetR)(ta:Option Addr)(P:List LstR)(sa:Option Addr)(S:List Int):Prop where
 hh:HouseIn w h
 hs:SheetIn w s
 hT:TrimsIn w ta h s.cues P
 hS:Nums w.heap.size w sa S
theorem PathIn.grow{w w':World}{h:HouseR}{s:SheetR}{ta:Option Addr}{P:List LstR}{sa:Option Addr}{S:List Int}(x:PathIn w h s ta P sa S)(hb:Below w.heap.size w w'):PathIn w' h s ta P sa S:=⟨x.hh.grow hb,x.hs.grow hb,x.hT.grow hb,x.hS.grow hb⟩
theorem sheetAt_new(w:World)(s:SheetR):SheetAt (w.alloc (LSh s)) w.heap.size s:=by unfold SheetAt;simp
theorem boxPHS{w:World}{h:HouseR}{s:SheetR}{ta:Option Addr}{P:List LstR}{sa:Option Addr}{S:List Int}(tc:Nat)(na:Option Addr)(N:List Int)(sc nc:Nat)(x:PathIn w h s ta P sa S):
  ∃W0,(((w.alloc (.cells #[.slice ta P.length tc,.slice sa S.length sc,.slice na N.length nc] 109)).alloc (LHo h)).alloc (LSh s))=W0∧Hid (∀w',Below W0.heap.size W0 w'→PC w' w.heap.size (.slice ta P.length tc) (.slice sa S.length sc) (.slice na N.length nc)∧HouseAt w' (w.heap.size+1) h∧SheetAt w' (w.heap.size+1+1) s∧PathIn w' h s ta P sa S∧Below w.heap.size w w'):=by
 have hb:Below w.heap.size w (((w.alloc (.cells #[.slice ta P.length tc,.slice sa S.length sc,.slice na N.length nc] 109)).alloc (LHo h)).alloc (LSh s)):=((below_new w _).alloc (by simp) _).alloc (by simp;omega) _;have hH:=(HouseAt.new (w.alloc (.cells #[.slice ta P.length tc,.slice sa S.length sc,.slice na N.length nc] 109)) h 25).carry (below_new _ (LSh s));rw[show(w.alloc (.cells #[.slice ta P.length tc,.slice sa S.length sc,.slice na N.length nc] 109)).heap.size=w.heap.size+1 by simp]at hH;have hS':=sheetAt_new ((w.alloc (.cells #[.slice ta P.length tc,.slice sa S.length sc,.slice na N.length nc] 109)).alloc (LHo h)) s;rw[show((w.alloc (.cells #[.slice ta P.length tc,.slice sa S.length sc,.slice na N.length nc] 109)).alloc (LHo h)).heap.size=w.heap.size+1+1 by simp]at hS';exact⟨_,rfl,lh fun w' z=>⟨(((PC.put w (.slice ta P.length tc) (.slice sa S.length sc) (.slice na N.length nc) 109).carry (below_new _ _)).carry (below_new _ _)).carry z,hH.carry z,hS'.carry z,(x.grow hb).grow z,hb.trans (z.mono hb.size)⟩⟩
def PathV(w w':World)(v:Value)(r:List Pc×Int):Prop:=(r.2=0→w'.ownsRow w.heap.size 122 8 v r.1.length (pcflat r.1))∧(r.2≠0→v=.slice none 0 0)
theorem tpath_any(h:HouseR)(s:SheetR)(ta:Option Addr)(P:List LstR)(tc:Nat)(sa na:Option Addr)(S N:List Int)(sc nc k:Nat)(w:World)(hx:PathIn w h s ta P sa S)(hSl:S.length=s.cues.length)(hok:SheetOK h s)(hk:k<h.sets.length)(hb1:∀i,i<s.cues.length→0≤ig S i∧ig S i≤1099511627776):
  Calls Tryz.prog 48 #[.agg #[.slice ta P.length tc,.slice sa S.length sc,.slice na N.length nc],.agg #[.string h.name,.int .i64 h.height,.slice h.sa h.sets.length h.sc,.slice h.ra h.roofs.length h.rc],.agg #[.slice s.ca s.cues.length s.cc,.slice s.pa s.pairs.length s.pc],.int .i64 k] w fun e w'=>Hid (∃v,e=.returned (.tuple #[v,.int .i64 (pathP h s.cues S k).2])∧PathV w w' v (pathP h s.cues S k))∧Below w.heap.size w w':=by
 have hcl:=hok.cues;have hcc:s.cues.length≤s.cc:=hx.hs.ccap;have hsc:h.sets.length≤h.sc:=hx.hh.scap;have HML:=lh hx.hs.mlen;have HCP:=lh hx.hs.mcap;have HSL:=lh hSl;have HOK:=lh hok;have HB1:=lh hb1;have HPL:=lh hx.hT.rows.len;have HTR:=lh hx.hT.rows;obtain⟨W0,hW0,HX⟩:=boxPHS tc na N sc nc hx;have k0:0≤(k:Int):=by omega
 have k1:(k:Int)<(h.sets.length:Int):=by omega
 obtain⟨Hh,hHh⟩:=nm ((hg h.sets k).high);obtain⟨nme,hnm⟩:=nm ((hg h.sets k).name);obtain⟨ca,hca⟩:=nm (s.ca);have HCA:=lh hca;obtain⟨hb,ho,hha,hhl,hhc⟩:=(HX.out _ br).2.2.2.1.hh.sets (by omega);have HHC:Hid (W0.cell? ⟨hb,ho+k*13,none⟩=some (.string nme)∧W0.cell? ⟨hb,ho+k*13+3,none⟩=some (.int .i64 Hh)):=lh (by obtain⟨e0,_,_,e3,_⟩:=hhc k hk;rw[hnm]at e0;rw[hHh]at e3;exact⟨e0,e3⟩);have HHA:=lh hha;have HHL:=lh hhl;have HNM:=lh hnm;have HP0:Hid (pathTo h s.cues S k 0=([⟨0,1,Hh,1,0,1,0,1⟩],0)):=lh (by rw[←hHh];rfl);clear hx hSl hok hb1 hHh hnm hca hha hhl hhc
 go_enter Tryz.func48,Tryz.ntmps48
 go_upto_region 1 with (fail)
 try simp only[hW0]
 clear hW0
 go_upto_region 2 with (go_at_call 76;(with_reducible refine(twhole_any 0 _).mono ?_);rintro e w1 ⟨rfl,hb1⟩)
 have hbz:=hb1.alloc hb1.size (.cells #[.int .i64 0,.int .i64 1] 49);have hfz:=FI.put w1 0 1 49;clear hb1;obtain⟨Bz,hBz⟩:=nm (w1.heap.size);obtain⟨W1,hW1⟩:=nm (w1.alloc (.cells #[.int .i64 0,.int .i64 1] 49));rw[hW1]at hbz hfz;simp only[hW1];rw[hBz]at hfz;simp only[hBz];clear hW1 hBz;have HB1':Hid (Below W0.heap.size W0 W1):=lh hbz;have HX1:Hid (∀w',Below W1.heap.size W1 w'→Below W0.heap.size W0 w'):=lh fun w' z=>hbz.trans (z.mono hbz.size)
 go_cut [11] (fun v wx=>Below W1.heap.size W1 wx∧Hid (wx.ownsRow W1.heap.size 122 8 v 1 (pcflat [⟨0,1,Hh,1,0,1,0,1⟩])))
 case first=>
  have z0:∀w',Below W1.heap.size W1 w'→w'.cell? ⟨Bz,0,none⟩=some (.int .i64 0):=fun w' z=>(hfz.carry z).1;have z1:∀w',Below W1.heap.size W1 w'→w'.cell? ⟨Bz,1,none⟩=some (.int .i64 1):=fun w' z=>(hfz.carry z).2.1;have e2:∀w',Below W1.heap.size W1 w'→w'.cell? ⟨w.heap.size+1,2,none⟩=some (.slice (some ⟨hb,ho,none⟩) h.sets.length h.sc):=fun w' z=>by have:=(HX.out _ (HX1.out _ z)).2.1.2.2.1;rwa [HHA.out]at this
  have e3:∀w',Below W1.heap.size W1 w'→w'.cell? ⟨hb,ho+k*13+3,none⟩=some (.int .i64 Hh):=fun w' z=>((HX1.out _ z).cell (p:=⟨hb,_,none⟩) HHL.out).trans HHC.out.2;refine wp_region_held_drew (S:=fun w'=>Below W1.heap.size W1 w') (by kernel_rfl) (br).drew (fun hHeld=>?_);refine tk 0 ?_;refine tk 1 ?_;refine tk 2 ?_;refine tk 3 ?_;refine tk 4 ?_;refine tk 5 ?_;refine tk 6 ?_;refine tk 8 ?_;refine tk 9 ?_;refine cl 7 (twhole_any Hh _) (fun _ hb=>hHeld.trans (hb.mono hHeld.size)) (fun y1 hb2 hH1=>?_);refine tk 10 ?_;refine ry [11] (vl 11 (w1:=y1.alloc (.cells #[.int .i64 0,.int .i64 1,.int .i64 Hh,.int .i64 1,.int .i64 0,.int .i64 1,.int .i64 0,.int .i64 1] 122)) (hH1.alloc hH1.size _) (fun hH2=>?_) nl);refine tk 12 ?_;refine dn ?_
  go_wp2_with fail
  go_meet
  have hol:=World.ownsRow_lit (base:=W1.heap.size) (e:=122) (size:=8) y1 #[.int .i64 0,.int .i64 1,.int .i64 Hh,.int .i64 1,.int .i64 0,.int .i64 1,.int .i64 0,.int .i64 1] 1 hH1.size (by unfold maxLen;omega) rfl;exact⟨hH2,lh hol⟩
 case rest=>
 obtain⟨hB,HO⟩:=hcut;clear hbz hfz;have hw0:=HX1.out _ hB;obtain⟨-,⟨a0,a1,a2,a3⟩,⟨s0,s1⟩,-⟩:=HX.out _ hw0;rw[HCA.out]at s0
 go_upto_region 4 with (fail)
 clear a0 a1 a2 a3 s0 s1 hw0
 go_loopw [11,39] (fun v11 iv wr=>∃n:Nat,iv=.int .i64 n∧n≤s.cues.length∧Below W1.heap.size W1 wr∧Hid ((pathTo h s.cues S k n).2=0∧wr.ownsRow W1.heap.size 122 8 v11 (pathTo h s.cues S k n).1.length (pcflat (pathTo h s.cues S k n).1))) (fun _ iv _=>s.cues.length-(intOf iv).toNat)
 case atStart=>exact⟨0,rfl,Nat.zero_le _,hB,lh (by rw[HP0.out];exact⟨rfl,HO.out⟩)⟩
 case round=>
  clear hB HO;obtain⟨n,rfl,hn,hB,HO⟩:=hrel;obtain⟨wi,rfl⟩:∃wo:World,wo=wr:=⟨_,rfl⟩
  by_cases hlt:n<s.cues.length
  case neg=>
   obtain rfl:n=s.cues.length:=by omega
   have hws:w.heap.size≤W1.heap.size:=(HX.out _ (HX1.out _ br)).2.2.2.2.size;have hwb:=(HX.out _ (HX1.out _ hB)).2.2.2.2;obtain⟨xa,xc,rfl,hxl,hxm,-,-⟩:=pc_of_row HO.out.2;have HP:=lh HO.out.1;obtain⟨O,hO⟩:=nm ((pathTo h s.cues S k s.cues.length).1);rw[hO]at HO hxl;simp only[hO];have HOO:=lh hO;clear hO;have hol:O.length≤1000:=by rw[←HOO.out];have:=(pathTo_len h s.cues S k _ HP.out).2;omega
   by_cases hL:(200:Int)<(O.length:Int)
   ·have HE:Hid (pathP h s.cues S k=([],4)):=lh (pathP_full HP.out (by rw[HOO.out];omega))
    go_wp2_with fail
    go_ret2
    exact⟨lh ⟨_,by first | rfl | (rw[HE.out];rfl) | rw[HE.out],by rw[HE.out];exact⟨fun e=>absurd e (by decide),fun _=>rfl⟩⟩,hwb⟩
   ·have HE:Hid (pathP h s.cues S k=(O,0)):=lh (by rw[pathP_ok HP.out (by rw[HOO.out];omega),←HOO.out,←HP.out])
    go_wp2_with fail
    go_ret2
    exact⟨lh ⟨_,by first | rfl | (rw[HE.out];rfl) | rw[HE.out],by rw[HE.out];exact⟨fun _=>ownsRow_base HO.out.2 hws,fun e=>absurd rfl e⟩⟩,hwb⟩
  obtain⟨xb,xo,hxa,hxb,hxc⟩:=(HX.out _ (HX1.out _ hB)).2.2.2.1.hs.lies (by omega);rw[HCA.out]at hxa;subst hxa;obtain⟨c0,c1,c2,c3,c4,c5,c6⟩:=hxc n hlt;obtain⟨q,hq⟩:=nm (cg s.cues n);rw[hq]at c0 c1 c2 c3 c4 c5 c6;have HQ:=lh hq;have i0:0≤(n:Int):=by omega
  have i1:(n:Int)<(s.cues.length:Int):=by omega
  have iw:IntKind.i64.wrap ((n:Int)+1)=(n:Int)+1:=IntWalk.i64_in _ (by omega);have hbn:=below_new wi (LCu q);have hqn:=CueAt.new wi q 86 _ rfl;clear hq hxc
  go_upto_region 6 with (fail)
  clear c0 c1 c2 c3 c4 c5 c6;obtain⟨Bq,hBq⟩:=nm (wi.heap.size);obtain⟨Wq,hWq⟩:=nm (wi.alloc (LCu q));rw[hWq]at hbn hqn;simp only[hWq];rw[hBq]at hqn;simp only[hBq];have hle:=hB.size;have HBQ:Hid (Below W1.heap.size W1 Wq):=lh (hB.trans (hbn.mono hle));have HOQ:=lh (ownsRow_below HO.out.2 hbn);have HP:=lh HO.out.1;have HQA:Hid (∀w',Below Wq.heap.size Wq w'→CueAt w' Bq q):=lh fun w' z=>hqn.carry z;have HXQ:Hid (∀w',Below Wq.heap.size Wq w'→Below W0.heap.size W0 w'):=lh fun w' z=>HX1.out _ (HBQ.out.trans (z.mono HBQ.out.size));obtain⟨O,hO⟩:=nm ((pathTo h s.cues S k n).1);rw[hO]at HOQ;have HOO:=lh hO;obtain⟨m,hm⟩:=nm (mvO q.moves nme);obtain⟨b,hbb⟩:=nm (mvB q.moves nme);have HM:=lh hm;have HBB:=lh hbb;clear hWq hBq hbn hqn hB HO hO hle
  go_cut [14,15] (fun v14 v15 wx=>∃(Bm:Nat) (W4:World),W4=wx∧v14=.pointer (some ⟨Bm,0,none⟩)∧v15=.bool b∧Below Wq.heap.size Wq wx∧Hid (MvAt wx Bm m)∧Hid (Wq.heap.size≤Bm))
  case first=>
   have f0:∀w',Below Wq.heap.size Wq w'→CueAt w' Bq q:=HQA.out;have q0:∀w',Below Wq.heap.size Wq w'→w'.cell? ⟨Bq,0,none⟩=some (.string q.name):=fun w' z=>(f0 w' z).1;have q1:∀w',Below Wq.heap.size Wq w'→w'.cell? ⟨Bq,1,none⟩=some (.string q.after):=fun w' z=>(f0 w' z).2.1;have q2:∀w',Below Wq.heap.size Wq w'→w'.cell? ⟨Bq,2,none⟩=some (.int .i64 q.link):=fun w' z=>(f0 w' z).2.2.1;have q3:∀w',Below Wq.heap.size Wq w'→w'.cell? ⟨Bq,3,none⟩=some (.int .i64 q.delay):=fun w' z=>(f0 w' z).2.2.2.1;have q4:∀w',Below Wq.heap.size Wq w'→w'.cell? ⟨Bq,4,none⟩=some (.slice q.ma q.moves.length q.mc):=fun w' z=>(f0 w' z).2.2.2.2.1;have q5:∀w',Below Wq.heap.size Wq w'→w'.cell? ⟨Bq,5,none⟩=some (.int .i64 q.crew):=fun w' z=>(f0 w' z).2.2.2.2.2.1;have q6:∀w',Below Wq.heap.size Wq w'→w'.cell? ⟨Bq,6,none⟩=some (.int .i64 q.power):=fun w' z=>(f0 w' z).2.2.2.2.2.2;have e2:∀w',Below Wq.heap.size Wq w'→w'.cell? ⟨w.heap.size+1,2,none⟩=some (.slice (some ⟨hb,ho,none⟩) h.sets.length h.sc):=fun w' z=>by have:=(HX.out _ (HXQ.out _ z)).2.1.2.2.1;rwa [HHA.out]at this
   have e3:∀w',Below Wq.heap.size Wq w'→w'.cell? ⟨hb,ho+k*13,none⟩=some (.string nme):=fun w' z=>((HXQ.out _ z).cell (p:=⟨hb,_,none⟩) HHL.out).trans HHC.out.1
   have HTM:Hid (∀w',Below Wq.heap.size Wq w'→Calls Tryz.prog 79 #[.agg #[.string q.name,.string q.after,.int .i64 q.link,.int .i64 q.delay,.slice q.ma q.moves.length q.mc,.int .i64 q.crew,.int .i64 q.power],.string nme] w' fun e w2=>e=.returned (.tuple #[.agg #[.string m.name,.int .i64 m.to,.int .i64 m.spd,.int .i64 m.rise,.int .i64 m.fall],.bool b])∧Below w'.heap.size w' w2):=lh fun w' z=>by
    have hmv:=(HX.out _ (HXQ.out _ z)).2.2.2.1.hs.each n hlt;have hml:=HML.out n hlt;have hmc:=HCP.out n hlt;rw[HQ.out]at hmv hml hmc;have:=tmoves_any q nme w' hmv hml hmc
    rwa [hm,hbb]at this
   clear hm hbb f0;have hD:Below Wq.heap.size Wq Wq.drew:=(br).drew;refine wp_region_held_drew (S:=fun w'=>Below Wq.heap.size Wq w') (by kernel_rfl) hD (fun hHeld=>?_);refine tk 0 ?_;refine tk 1 ?_;refine tk 2 ?_;refine tk 3 ?_;refine tk 4 ?_;refine tk 5 ?_;refine tk 6 ?_;refine ry [7,11] (rc 7 (HTM.out _ hHeld) (fun _ hb=>hHeld.trans (hb.mono hHeld.size)) (fun y1 hb2 hH1=>?_) (al 11 (.cells #[.string ⟨#[]⟩,.int .i64 0,.int .i64 0,.int .i64 0,.int .i64 0] 94) (hHeld.alloc hHeld.size _) (fun Bm y1 eB ey hH1=>?_) nl))
   ·refine tk 8 ?_;refine tk 9 ?_;refine tk 10 ?_
    refine ry [11] (al 11 (.cells #[.string ⟨#[]⟩,.int .i64 0,.int .i64 0,.int .i64 0,.int .i64 0] 94) (hH1.alloc hH1.size _) (fun Bm y2 eB ey hH2=>?_) nl);have hz:ZMv y2 Bm:=by rw[←ey,←eB];exact ZMv.new _
    have hlo:Wq.heap.size≤Bm:=by rw[←eB];exact hH1.size
    clear ey eB;have hzz:=hz.some;obtain⟨⟨g0,g1,g2,g3,g4⟩,hff⟩:=hz;have hst:Below Wq.heap.size Wq (setFrom y2 Bm 0 [.string m.name,.int .i64 m.to,.int .i64 m.spd,.int .i64 m.rise,.int .i64 m.fall]):=below_from (m:=Wq.heap.size) (b:=Bm) (W:=Wq) [.string m.name,.int .i64 m.to,.int .i64 m.spd,.int .i64 m.rise,.int .i64 m.fall] y2 0 hH2 hlo;have hmf:=mv_from m hzz;refine ry [12] (vl 12 (w1:=setFrom y2 Bm 0 [.string m.name,.int .i64 m.to,.int .i64 m.spd,.int .i64 m.rise,.int .i64 m.fall]) hst (fun hH3=>?_) nl);refine tk 13 ?_;refine dn ?_
    go_wp2_with fail
    go_meet
    exact⟨Bm,_,rfl,rfl,rfl,hst,lh hmf,lh hlo⟩
   ·have hz1:ZMv y1 Bm:=by rw[←ey,←eB];exact ZMv.new _
    have hlo:Wq.heap.size≤Bm:=by rw[←eB];exact hHeld.size
    clear ey eB;refine ry [7] (rc 7 (HTM.out _ hH1) (fun _ hb=>hH1.trans (hb.mono hH1.size)) (fun y2 hb2 hH2=>?_) nl);refine tk 8 ?_;refine tk 9 ?_;refine tk 10 ?_;have hz:=hz1.carry hb2;have hzz:=hz.some;obtain⟨⟨g0,g1,g2,g3,g4⟩,hff⟩:=hz;have hst:Below Wq.heap.size Wq (setFrom y2 Bm 0 [.string m.name,.int .i64 m.to,.int .i64 m.spd,.int .i64 m.rise,.int .i64 m.fall]):=below_from (m:=Wq.heap.size) (b:=Bm) (W:=Wq) [.string m.name,.int .i64 m.to,.int .i64 m.spd,.int .i64 m.rise,.int .i64 m.fall] y2 0 hH2 hlo;have hmf:=mv_from m hzz;refine ry [12] (vl 12 (w1:=setFrom y2 Bm 0 [.string m.name,.int .i64 m.to,.int .i64 m.spd,.int .i64 m.rise,.int .i64 m.fall]) hst (fun hH3=>?_) nl);refine tk 13 ?_;refine dn ?_
    go_wp2_with fail
    go_meet
    exact⟨Bm,_,rfl,rfl,rfl,hst,lh hmf,lh hlo⟩
  case rest=>
  obtain⟨Bm,W4,rfl,rfl,rfl,hB4,HMA,HBM⟩:=hcut;have hpos:1≤O.length:=by rw[←HOO.out];exact(pathTo_len h s.cues S k n HP.out).1
  obtain⟨xa,c0,rfl,hxl,hxm,-,-⟩:=pc_of_row HOQ.out;obtain⟨g0,rfl,hg1,hg2⟩:=row_addr HOQ.out (by omega);have HG1:=lh hg1;have HG2:=lh hg2;clear hxl hxm hg1 hg2 hpos;obtain⟨⟨a0,a1,a2,-,-,-,-⟩,-,-,hin,-⟩:=HX.out _ (HXQ.out _ hB4);obtain⟨tb,tf,hta,htb,htx⟩:=hin.hT.lies (by have:=HPL.out;omega);subst hta;have t0:=htx n (by have:=HPL.out;omega);have hrl:(lg P n).xs.length=h.sets.length:=by rw[HTR.out.eq n hn,trimL_len]
  obtain⟨zb,zf,hza,hzb,hzx⟩:=hin.hT.each n (by have:=HPL.out;omega) (by omega);have t1:=hzx k (by omega);rw[hza,hrl]at t0;rw[HTR.out.eq n hn]at t1;obtain⟨z,hz⟩:=nm (ig (trimL h s.cues n) k);rw[hz]at t1;have HZ:=lh hz;obtain⟨z0,z1⟩:=z_ok HOK.out hk hlt hz;have p1:(n:Int)<(P.length:Int):=by have:=HPL.out;omega
  obtain⟨trc,htrc⟩:=nm ((lg P n).c);rw[htrc]at t0;obtain⟨sb,sf,hsa,-,-⟩:=hin.hS (by rw[HSL.out];omega);subst hsa
  have HSC:Hid (∀w',Below W0.heap.size W0 w'→w'.cell? ⟨sb,sf+n,none⟩=some (.int .i64 (ig S n))):=lh fun w' y=>by
   obtain⟨b',o',e,-,ex⟩:=(HX.out w' y).2.2.2.1.hS (by rw[HSL.out];omega)
   cases e
   exact ex n (by rw[HSL.out];omega)
  clear hz hzx hza hrl htx htrc hin
  go_upto_region 8 with (fail)
  clear t0 t1 a0 a1 a2 p1;have HSTAY:Hid (b=false∨m.to=z→pathTo h s.cues S k (n+1)=pathTo h s.cues S k n):=lh fun e=>pathTo_stay (by rw[HQ.out,HNM.out,HBB.out,HM.out,HZ.out];exact e);have HB1W:Hid (Below W1.heap.size W1 W4):=lh (HBQ.out.trans (hB4.mono HBQ.out.size));have HO4:=lh (ownsRow_below HOQ.out hB4);obtain⟨m0,m1,m2,m3,m4⟩:=HMA.out
  by_cases hstay:b=false∨m.to=z
  case pos=>
   have HE:Hid (pathTo h s.cues S k (n+1)=pathTo h s.cues S k n):=lh (HSTAY.out hstay)
   by_cases hbf:b=false
   ·subst hbf
    go_wp2_with fail
    go_roundw
    case rel=>exact⟨n+1,by go_num,by omega,HB1W.out,lh ⟨by rw[HE.out];exact HP.out,by rw[HE.out,HOO.out];exact HO4.out⟩⟩
    case measure=>simp[intOf];omega
   ·obtain rfl:b=true:=by cases b<;>simp_all
    obtain hez:m.to=z:=by simpa using hstay
    have hnb:(m.to==z)=true:=by simpa using hez
    go_wp2_with fail
    go_roundw
    case rel=>exact⟨n+1,by go_num,by omega,HB1W.out,lh ⟨by rw[HE.out];exact HP.out,by rw[HE.out,HOO.out];exact HO4.out⟩⟩
    case measure=>simp[intOf];omega
  obtain⟨hbt,hne⟩:b=true∧m.to≠z:=⟨by cases b<;>simp_all,fun e=>hstay (.inr e)⟩;subst hbt;have hnb:(m.to==z)=false:=by simpa using hne
  obtain⟨-,-,to0,to1,HG0⟩:=way_ok (nme:=nme) (m:=m) (z:=z) HOK.out hk hlt (by rw[HQ.out];exact HBB.out) (by rw[HQ.out];exact HM.out) HZ.out;obtain⟨d,hd⟩:=nm ((if z≤m.to then m.to-z else z-m.to));rw[hd]at HG0;have HG:=lh HG0;obtain⟨Wc,hWc⟩:=nm (curveL d m.rise m.fall (topV d m));have HWC:=lh hWc;obtain⟨s0,hs0⟩:=nm (ig S n);have HS0:=lh hs0;have HGO:Hid (pathTo h s.cues S k (n+1)=wayTo s0 z (decide (z<m.to)) O Wc Wc.length):=lh (by rw[←hs0,←HOO.out];exact pathTo_go HP.out (by rw[HQ.out,HNM.out];exact HBB.out) (by rw[HQ.out,HNM.out];exact HM.out) HZ.out hne hd hWc);rw[hs0]at HSC;have HMX:Hid (max (m.to-z) (z-m.to)=d):=lh (by rw[←hd];split<;>omega);obtain⟨up,hup⟩:=nm (decide (z<m.to));rw[hup]at HGO;have HUP:=lh hup;have hmlt:Bm<W4.heap.size:=wl m1;have HML4:=lh hmlt;clear hWc hs0 HG0 hd hup hmlt
  go_upto_region 13 with (go_at_call 80;rw[HMX.out];(with_reducible refine(way_curve HG.out HWC.out _).mono ?_);rintro e w6 ⟨⟨cb,cc,rfl,hcb1,hcb2,hcc,HPC⟩,hb6⟩)
  have HCB1:=lh hcb1;have HCB2:=lh hcb2;have HW6:Hid (Below W1.heap.size W1 w6):=lh (HB1W.out.trans (hb6.mono HB1W.out.size));have HM6:Hid (w6.cell? ⟨Bm,1,none⟩=some (.int .i64 m.to)∧Bm<w6.heap.size∧Bm≠g0):=lh ⟨(hb6.cell (p:=⟨Bm,1,none⟩) HML4.out).trans m1,Nat.lt_of_lt_of_le HML4.out hb6.size,by have:=HG2.out;have:=HBM.out;omega⟩;have HC6:Hid (cb≠g0):=lh (by have:=HG2.out;have:=hB4.size;omega);have HOW:Hid (w6.ownsRow W1.heap.size 122 8 (.slice (some ⟨g0,0,none⟩) O.length c0) O.length (pcflat O)):=lh (ownsRow_below HO4.out hb6);clear m0 m1 m2 m3 m4 hcb1 hcb2 hb6 HO4
  go_loopw [11,90] (fun v jv wx=>∃j g n' c:Nat,v=.slice (some ⟨g,0,none⟩) n' c∧jv=.int .i64 j∧j≤Wc.length∧Hid (Kept w6 wx g0 (.slice (some ⟨g,0,none⟩) n' c))∧Hid (n'=(wayTo s0 z up O Wc j).1.length∧(wayTo s0 z up O Wc j).2=0∧wx.ownsRow W1.heap.size 122 8 (.slice (some ⟨g,0,none⟩) n' c) n' (pcflat (wayTo s0 z up O Wc j).1))) (fun _ jv _=>Wc.length-(intOf jv).toNat)
  case atStart=>exact⟨0,g0,O.length,c0,rfl,rfl,Nat.zero_le _,lh (Kept.start rfl),lh ⟨rfl,rfl,HOW.out⟩⟩
  case round=>
   clear HOW;obtain⟨j,g,n',c,rfl,rfl,hj,HK,HW⟩:=hrel;obtain⟨wj,rfl⟩:∃wo:World,wo=wr:=⟨_,rfl⟩
   by_cases hlj:j<Wc.length
   case neg=>
    obtain rfl:j=Wc.length:=by omega
    have HBX:Hid (Below W1.heap.size W1 wj):=lh (HK.out.under HW6.out HW6.out.size HG1.out)
    go_wp2_with fail
    go_roundw
    case rel=>exact⟨n+1,by go_num,by omega,HBX.out,lh ⟨by rw[HGO.out];exact HW.out.2.1,by obtain⟨e,-,o⟩:=HW.out;rw[HGO.out,←e];exact o⟩⟩
    case measure=>simp[intOf];omega
   obtain⟨hkg,hkl⟩:=HK.out;obtain⟨c0,c1,c2,c3,c4,c5,c6,c7⟩:=HK.out.pcs HCB2.out HC6.out HPC.out hlj;obtain⟨p,hp⟩:=nm (pcg Wc j);rw[hp]at c0 c1 c2 c3 c4 c5 c6 c7;have HPK:Hid (PcOK p):=lh (by rw[←hp];exact way_piece HG.out HWC.out hlj);have HPJ:=lh hp;have j0:0≤(j:Int):=by omega
   have j1:(j:Int)<(Wc.length:Int):=by omega
   have hwl:Wc.length≤4:=by rw[←HWC.out];exact curve_len4 _ _ _ _
   have jw:IntKind.i64.wrap ((j:Int)+1)=(j:Int)+1:=IntWalk.i64_in _ (by omega);have hbn:=below_new wj (.cells #[.int .i64 p.f0,.int .i64 p.f1,.int .i64 p.a0,.int .i64 p.a1,.int .i64 p.b0,.int .i64 p.b1,.int .i64 p.c0,.int .i64 p.c1] 122);have hpn:=PB.new wj p 122;clear hp hkg hkl
   go_upto_region 15 with (fail)
   clear c0 c1 c2 c3 c4 c5 c6 c7;obtain⟨Bt,hBt⟩:=nm (wj.heap.size);obtain⟨Wt,hWt⟩:=nm (wj.alloc (.cells #[.int .i64 p.f0,.int .i64 p.f1,.int .i64 p.a0,.int .i64 p.a1,.int .i64 p.b0,.int .i64 p.b1,.int .i64 p.c0,.int .i64 p.c1] 122));rw[hWt]at hbn hpn;simp only[hWt];rw[hBt]at hpn;simp only[hBt];have HKT:Hid (∀w',Below Wt.heap.size Wt w'→Kept w6 w' g0 (.slice (some ⟨g,0,none⟩) n' c)):=lh fun w' y=>(HK.out.below hbn).below y;have HRT:Hid (Wt.ownsRow W1.heap.size 122 8 (.slice (some ⟨g,0,none⟩) n' c) n' (pcflat (wayTo s0 z up O Wc j).1)):=lh (ownsRow_below HW.out.2.2 hbn);have HXT:Hid (∀w',Below Wt.heap.size Wt w'→Below W1.heap.size W1 w'):=lh fun w' y=>(HKT.out w' y).under HW6.out HW6.out.size HG1.out;have HPT:Hid (∀w',Below Wt.heap.size Wt w'→PB w' Bt p):=lh fun w' y=>hpn.carry y;obtain⟨Y,hY⟩:=nm (pieceP p s0 z up);have HY:=lh hY
   have HTP:Hid (∀w',Calls Tryz.prog 81 #[.agg #[.int .i64 p.f0,.int .i64 p.f1,.int .i64 p.a0,.int .i64 p.a1,.int .i64 p.b0,.int .i64 p.b1,.int .i64 p.c0,.int .i64 p.c1],.int .i64 s0,.int .i64 z,.bool up] w' fun e w2=>e=.returned (.tuple #[.agg #[.int .i64 Y.1.f0,.int .i64 Y.1.f1,.int .i64 Y.1.a0,.int .i64 Y.1.a1,.int .i64 Y.1.b0,.int .i64 Y.1.b1,.int .i64 Y.1.c0,.int .i64 Y.1.c1],.int .i64 Y.2])∧Below w'.heap.size w' w2):=lh fun w'=>by
    have:=tpiece_any p s0 z up (by have:=HB1.out n hlt;rw[HS0.out]at this;exact this.1) (by have:=HB1.out n hlt;rw[HS0.out]at this;exact this.2) z0 z1 HPK.out.f HPK.out.a (vf_bd HPK.out.b) (vf_bd HPK.out.c) w'
    rwa [hY]at this
   clear hBt hWt hbn hpn hY HK
   go_cut [21,22] (fun v21 v22 wx=>∃(By:Nat) (w9:World),w9=wx∧v21=.pointer (some ⟨By,0,none⟩)∧v22=.int .i64 Y.2∧Below Wt.heap.size Wt wx∧Hid (PB wx By Y.1))
   case first=>
    have f0:∀w',Below Wt.heap.size Wt w'→PB w' Bt p:=HPT.out;have q0:∀w',Below Wt.heap.size Wt w'→w'.cell? ⟨Bt,0,none⟩=some (.int .i64 p.f0):=fun w' y=>(f0 w' y).c0;have q1:∀w',Below Wt.heap.size Wt w'→w'.cell? ⟨Bt,1,none⟩=some (.int .i64 p.f1):=fun w' y=>(f0 w' y).c1;have q2:∀w',Below Wt.heap.size Wt w'→w'.cell? ⟨Bt,2,none⟩=some (.int .i64 p.a0):=fun w' y=>(f0 w' y).c2;have q3:∀w',Below Wt.heap.size Wt w'→w'.cell? ⟨Bt,3,none⟩=some (.int .i64 p.a1):=fun w' y=>(f0 w' y).c3;have q4:∀w',Below Wt.heap.size Wt w'→w'.cell? ⟨Bt,4,none⟩=some (.int .i64 p.b0):=fun w' y=>(f0 w' y).c4;have q5:∀w',Below Wt.heap.size Wt w'→w'.cell? ⟨Bt,5,none⟩=some (.int .i64 p.b1):=fun w' y=>(f0 w' y).c5;have q6:∀w',Below Wt.heap.size Wt w'→w'.cell? ⟨Bt,6,none⟩=some (.int .i64 p.c0):=fun w' y=>(f0 w' y).c6;have q7:∀w',Below Wt.heap.size Wt w'→w'.cell? ⟨Bt,7,none⟩=some (.int .i64 p.c1):=fun w' y=>(f0 w' y).c7;have e1:∀w',Below Wt.heap.size Wt w'→w'.cell? ⟨w.heap.size,1,none⟩=some (.slice (some ⟨sb,sf,none⟩) S.length sc):=fun w' y=>(HX.out _ (HX1.out _ (HXT.out w' y))).1.2.1;have e2:∀w',Below Wt.heap.size Wt w'→w'.cell? ⟨sb,sf+n,none⟩=some (.int .i64 s0):=fun w' y=>HSC.out _ (HX1.out _ (HXT.out w' y));have e3:∀w',Below Wt.heap.size Wt w'→w'.cell? ⟨Bm,1,none⟩=some (.int .i64 m.to):=fun w' y=>((HKT.out w' y).cell (p:=⟨Bm,1,none⟩) HM6.out.2.1 HM6.out.2.2).trans HM6.out.1;have sl:(n:Int)<(S.length:Int):=by rw[HSL.out];exact i1
    have hup:decide (z<m.to)=up:=HUP.out;clear f0;have hD:Below Wt.heap.size Wt Wt.drew:=(br).drew;refine wp_region_held_drew (S:=fun w'=>Below Wt.heap.size Wt w') (by kernel_rfl) hD (fun hHeld=>?_);refine tk 0 ?_;refine tk 1 ?_;refine tk 2 ?_;refine tk 3 ?_;refine tk 4 ?_;refine tk 5 ?_;refine tk 6 ?_;refine tk 7 ?_;refine tk 8 ?_;refine tk 9 ?_;refine tk 10 ?_
    try simp only[hup]
    refine ry [11,15] (rc 11 (HTP.out _) (fun _ hb=>hHeld.trans (hb.mono hHeld.size)) (fun y1 hb2 hH1=>?_) (al 15 (.cells #[.int .i64 0,.int .i64 0,.int .i64 0,.int .i64 0,.int .i64 0,.int .i64 0,.int .i64 0,.int .i64 0] 122) (hHeld.alloc hHeld.size _) (fun By y1 eB ey hH1=>?_) nl))
    ·refine tk 12 ?_;refine tk 13 ?_;refine tk 14 ?_
     refine ry [15] (al 15 (.cells #[.int .i64 0,.int .i64 0,.int .i64 0,.int .i64 0,.int .i64 0,.int .i64 0,.int .i64 0,.int .i64 0] 122) (hH1.alloc hH1.size _) (fun By y2 eB ey hH2=>?_) nl);have hz:PB y2 By ⟨0,0,0,0,0,0,0,0⟩:=by rw[←ey,←eB];exact PB.new _ ⟨0,0,0,0,0,0,0,0⟩ _
     have hlo:Wt.heap.size≤By:=by rw[←eB];exact hH1.size
     clear ey eB;have hmf:=pb_from Y.1 hz;have hst:Below Wt.heap.size Wt (setFrom y2 By 0 [.int .i64 Y.1.f0,.int .i64 Y.1.f1,.int .i64 Y.1.a0,.int .i64 Y.1.a1,.int .i64 Y.1.b0,.int .i64 Y.1.b1,.int .i64 Y.1.c0,.int .i64 Y.1.c1]):=below_from _ y2 0 hH2 hlo;obtain⟨g0,g1,g2,g3,g4,g5,g6,g7,hff⟩:=hz;refine ry [16] (vl 16 (w1:=setFrom y2 By 0 [.int .i64 Y.1.f0,.int .i64 Y.1.f1,.int .i64 Y.1.a0,.int .i64 Y.1.a1,.int .i64 Y.1.b0,.int .i64 Y.1.b1,.int .i64 Y.1.c0,.int .i64 Y.1.c1]) hst (fun hH3=>?_) nl);refine tk 17 ?_;refine dn ?_
     go_wp2_with fail
     go_meet
     exact⟨By,_,rfl,rfl,rfl,hst,lh hmf⟩
    ·have hz1:PB y1 By ⟨0,0,0,0,0,0,0,0⟩:=by rw[←ey,←eB];exact PB.new _ ⟨0,0,0,0,0,0,0,0⟩ _
     have hlo:Wt.heap.size≤By:=by rw[←eB];exact hHeld.size
     clear ey eB;refine ry [11] (rc 11 (HTP.out _) (fun _ hb=>hH1.trans (hb.mono hH1.size)) (fun y2 hb2 hH2=>?_) nl);refine tk 12 ?_;refine tk 13 ?_;refine tk 14 ?_;have hz:=hz1.carry hb2;have hmf:=pb_from Y.1 hz;have hst:Below Wt.heap.size Wt (setFrom y2 By 0 [.int .i64 Y.1.f0,.int .i64 Y.1.f1,.int .i64 Y.1.a0,.int .i64 Y.1.a1,.int .i64 Y.1.b0,.int .i64 Y.1.b1,.int .i64 Y.1.c0,.int .i64 Y.1.c1]):=below_from _ y2 0 hH2 hlo;obtain⟨g0,g1,g2,g3,g4,g5,g6,g7,hff⟩:=hz;refine ry [16] (vl 16 (w1:=setFrom y2 By 0 [.int .i64 Y.1.f0,.int .i64 Y.1.f1,.int .i64 Y.1.a0,.int .i64 Y.1.a1,.int .i64 Y.1.b0,.int .i64 Y.1.b1,.int .i64 Y.1.c0,.int .i64 Y.1.c1]) hst (fun hH3=>?_) nl);refine tk 17 ?_;refine dn ?_
     go_wp2_with fail
     go_meet
     exact⟨By,_,rfl,rfl,rfl,hst,lh hmf⟩
   case rest=>
   obtain⟨By,w9,rfl,rfl,rfl,hB9,HPY⟩:=hcut;have HB9:Hid (Below W1.heap.size W1 w9):=lh (HXT.out _ hB9);have HK9:=lh (HKT.out _ hB9);have HR9:Hid (w9.ownsRow W1.heap.size 122 8 (.slice (some ⟨g,0,none⟩) n' c) n' (pcflat (wayTo s0 z up O Wc j).1)):=lh (ownsRow_below HRT.out hB9);have HYE:Hid (pieceP (pcg Wc j) s0 z up=Y):=lh (by rw[HPJ.out];exact HY.out)
   by_cases he:Y.2=0
   case neg=>
    have hF:wayTo s0 z up O Wc (j+1)=([],Y.2):=by rw[wayTo_fail HW.out.2.1 (by rw[HYE.out];exact he),HYE.out]
    have hF2:pathTo h s.cues S k (n+1)=([],Y.2):=by rw[HGO.out,wayTo_err (k:=j+1) (by rw[hF];exact he) _ hlj,hF]
    have HE:Hid (pathP h s.cues S k=([],Y.2)):=lh (by rw[pathP_err (n:=n+1) hlt (by rw[hF2];exact he),hF2]);have hwb:=(HX.out _ (HX1.out _ HB9.out)).2.2.2.2;have hye:(Y.2==0)=false:=by simpa using he
    clear hF hF2
    go_wp2_with fail
    go_ret2
    exact⟨lh ⟨_,by first | rfl | (rw[HE.out];rfl) | rw[HE.out],by rw[HE.out];exact⟨fun e=>absurd e he,fun _=>rfl⟩⟩,hwb⟩
   have hye:(Y.2==0)=true:=by simpa using he
   obtain⟨Oj,hOj⟩:=nm ((wayTo s0 z up O Wc j).1);have hlen:=wayTo_len s0 z up O Wc j HW.out.2.1;have hol:O.length≤300:=by rw[←HOO.out];have:=(pathTo_len h s.cues S k n HP.out).2;omega
   have hop:1≤O.length:=by rw[←HOO.out];exact(pathTo_len h s.cues S k n HP.out).1
   have hnl:=HW.out.1;have HN:Hid (wayTo s0 z up O Wc (j+1)=(putP Oj Y.1,0)):=lh (by rw[wayTo_next HW.out.2.1 (by rw[HYE.out];exact he),HYE.out,hOj]);rw[hOj]at hlen hnl HR9;obtain⟨n1,hn'⟩:∃n1,n'=n1+1:=⟨n'-1,by omega⟩;have HNN:=lh hn';have HNJ:Hid (Oj.length=n'):=lh hnl.symm;have HNL:Hid (Oj.length=n1+1):=lh (by omega);have hn1:n1≤400:=by omega
   obtain⟨y0,y1,y2,y3,y4,y5,y6,y7,yf⟩:=HPY.out
   have hpr:Pcs w9.heap.size w9 (some ⟨g,0,none⟩) Oj:=by
    have:=HR9.out;rw[hnl]at this;obtain⟨a,c',e,-,-,-,hh⟩:=pc_of_row this
    cases e
    exact hh
   obtain⟨b',o',e',-,hcc'⟩:=hpr (by omega)
   cases e'
   obtain⟨l0,l1,l2,l3,l4,l5,l6,l7⟩:=hcc' n1 (by omega);simp only[Nat.zero_add]at l0 l1 l2 l3 l4 l5 l6 l7;have HLS:Hid (w9.cell? ⟨g,n1*8+2,none⟩=some (.int .i64 (pcg Oj n1).a0)∧w9.cell? ⟨g,n1*8+3,none⟩=some (.int .i64 (pcg Oj n1).a1)∧w9.cell? ⟨g,n1*8+4,none⟩=some (.int .i64 (pcg Oj n1).b0)∧w9.cell? ⟨g,n1*8+5,none⟩=some (.int .i64 (pcg Oj n1).b1)∧w9.cell? ⟨g,n1*8+6,none⟩=some (.int .i64 (pcg Oj n1).c0)∧w9.cell? ⟨g,n1*8+7,none⟩=some (.int .i64 (pcg Oj n1).c1)):=lh ⟨l2,l3,l4,l5,l6,l7⟩;have HGL:Hid (g<w9.heap.size):=lh (wl l0);have n10:0≤(n1:Int):=by omega
   have n1w:IntKind.i64.wrap ((n':Int)-1)=(n1:Int):=by rw[show(n':Int)-1=(n1:Int)by omega];exact IntWalk.i64_in _ (by omega)
   have n1t:(n1:Int)<(n':Int):=by omega
   clear l2 l3 l4 l5 l6 l7 hOj hlen hol hop hnl hpr hcc' HW HPT HXT HRT HKT hn' y0 y1 y2 y3 y4 y5 y6 y7 yf
   go_upto_region 18 with (fail)
   have l0':∀w',Below w9.heap.size w9 w'→w'.cell? ⟨g,n1*8,none⟩=some (.int .i64 (pcg Oj n1).f0):=fun w' y=>(y.cell (p:=⟨g,_,none⟩) HGL.out).trans l0;have l1':∀w',Below w9.heap.size w9 w'→w'.cell? ⟨g,n1*8+1,none⟩=some (.int .i64 (pcg Oj n1).f1):=fun w' y=>(y.cell (p:=⟨g,_,none⟩) HGL.out).trans l1;have m0':∀w',Below w9.heap.size w9 w'→w'.cell? ⟨By,0,none⟩=some (.int .i64 Y.1.f0):=fun w' y=>(HPY.out.carry y).c0;have m1':∀w',Below w9.heap.size w9 w'→w'.cell? ⟨By,1,none⟩=some (.int .i64 Y.1.f1):=fun w' y=>(HPY.out.carry y).c1;have hD:Below w9.heap.size w9 w9.drew:=(br).drew;refine wp_region_held_drew (S:=fun w'=>Below w9.heap.size w9 w') (by kernel_rfl) hD (fun hHeld=>?_);refine tk 0 ?_;refine tk 1 ?_;refine tk 2 ?_;refine tk 3 ?_;refine tk 4 ?_;refine tk 5 ?_;refine tk 6 ?_;refine tk 7 ?_;refine tk 8 ?_;obtain⟨r,hr⟩:=nm (((pcg Oj n1).f0==Y.1.f0&&(pcg Oj n1).f1==Y.1.f1));refine ry [9] (vl 9 (n:=.value (.bool r)) (v:=.bool r) (w1:=w9.drew) hHeld (fun _=>?_) nl (hx:=(exec_eql _ _ _ _ _ _ _ _ _ rfl rfl rfl _).trans (by rw[hr])));refine dn ?_;have HRR:=lh hr;obtain⟨w10,hw10⟩:=nm (w9.drew);rw[hw10]at hHeld;simp only[hw10];have HK10:=lh (HK9.out.below hHeld);have HR10:=lh (ownsRow_below HR9.out hHeld);have HP10:=lh (HPY.out.carry hHeld);have HF10:=lh (own_free HR10.out)
   have HS10:Hid (w10.cell? ⟨g,n1*8,none⟩=some (.int .i64 (pcg Oj n1).f0)∧w10.cell? ⟨g,n1*8+1,none⟩=some (.int .i64 (pcg Oj n1).f1)∧w10.cell? ⟨g,n1*8+2,none⟩=some (.int .i64 (pcg Oj n1).a0)∧w10.cell? ⟨g,n1*8+3,none⟩=some (.int .i64 (pcg Oj n1).a1)∧w10.cell? ⟨g,n1*8+4,none⟩=some (.int .i64 (pcg Oj n1).b0)∧w10.cell? ⟨g,n1*8+5,none⟩=some (.int .i64 (pcg Oj n1).b1)∧w10.cell? ⟨g,n1*8+6,none⟩=some (.int .i64 (pcg Oj n1).c0)∧w10.cell? ⟨g,n1*8+7,none⟩=some (.int .i64 (pcg Oj n1).c1)):=lh (by
    obtain⟨x2,x3,x4,x5,x6,x7⟩:=HLS.out;exact⟨l0' _ hHeld,l1' _ hHeld,(hHeld.cell (p:=⟨g,_,none⟩) HGL.out).trans x2,(hHeld.cell (p:=⟨g,_,none⟩) HGL.out).trans x3,(hHeld.cell (p:=⟨g,_,none⟩) HGL.out).trans x4,(hHeld.cell (p:=⟨g,_,none⟩) HGL.out).trans x5,(hHeld.cell (p:=⟨g,_,none⟩) HGL.out).trans x6,(hHeld.cell (p:=⟨g,_,none⟩) HGL.out).trans x7⟩)
   have HB10:Hid (Below W1.heap.size W1 w10):=lh (HB9.out.trans (hHeld.mono HB9.out.size));clear hr hw10 hHeld hD l0 l1 l0' l1' m0' m1' hB9;obtain⟨y0,y1,y2,y3,y4,y5,y6,y7,yf⟩:=HP10.out
   cases r
   case true=>
    have he2:(pcg Oj n1).f0=Y.1.f0∧(pcg Oj n1).f1=Y.1.f1:=by simpa using HRR.out
    have HN2:Hid (wayTo s0 z up O Wc (j+1)=(Oj.set n1 Y.1,0)):=lh (by rw[HN.out,putP_set HNL.out he2]);obtain⟨l0,l1,l2,l3,l4,l5,l6,l7⟩:=HS10.out;have lf:=HF10.out;clear he2
    go_wp2_with fail
    go_roundw
    case rel=>exact⟨j+1,g,n',c,rfl,by go_num,by omega,lh (HK10.out.step (w':=setFrom w10 g (n1*8) [.int .i64 Y.1.f0,.int .i64 Y.1.f1,.int .i64 Y.1.a0,.int .i64 Y.1.a1,.int .i64 Y.1.b0,.int .i64 Y.1.b1,.int .i64 Y.1.c0,.int .i64 Y.1.c1]) (grown_set _ _ _ (World.grownBy.refl _ _)) (.inl rfl)),lh ⟨by rw[HN2.out,List.length_set,HNJ.out],by rw[HN2.out],by rw[HN2.out];exact own_put HR10.out Y.1 (by have:=HNL.out;omega)⟩⟩
    case measure=>simp[intOf];omega
   case false=>
    have he2:¬((pcg Oj n1).f0=Y.1.f0∧(pcg Oj n1).f1=Y.1.f1):=by have:=HRR.out;simpa using this
    have HN2:Hid (wayTo s0 z up O Wc (j+1)=(Oj++[Y.1],0)):=lh (by rw[HN.out,putP_app HNL.out he2]);have HOJ:Hid (w10.ownsRow W1.heap.size 122 8 (.slice (some ⟨g,0,none⟩) n' c) Oj.length (pcflat Oj)):=lh (by rw[HNJ.out];exact HR10.out);have hsz:=HB10.out.size;clear he2
    go_wp2_with (at_builtin;refine pcb_append rfl _ _ rfl W1.heap.size _ Oj rfl (HOJ.out.alloc _) _ Y.1 rfl (PB.new _ _ _) (by have:=HNL.out;omega) (by simp;omega) ?_;intro v2 w8 hown8 hg8 hat8;have HO8:=lh hown8;have HK8:=lh ((HK10.out.below (below_new w10 _)).step hg8 hat8);clear hown8 hg8 hat8)
    obtain⟨a8,c8,rfl,-,-,-,-⟩:=pc_of_row HO8.out;obtain⟨g8,rfl,-,-⟩:=row_addr HO8.out (by simp);go_roundw
    case rel=>exact⟨j+1,g8,(Oj++[Y.1]).length,c8,rfl,by go_num,by omega,HK8,lh ⟨by rw[HN2.out],by rw[HN2.out],by rw[HN2.out];exact HO8.out⟩⟩
    case measure=>simp[intOf];omega
theorem ent_tpath(args:Array Value)(w:World):(callFunc 46 args).run Tryz.prog w=.ok (.enter 46 args) w:=enters_of Tryz.func46 (by kernel_rfl) rfl args w
theorem asks_tpath{w:World}{b:Nat}{s:ByteArray}(h:w.cell? ⟨b,0,none⟩=some (.string s)):AsksSet 46 #[.pointer (some ⟨b,0,none⟩)] w.heap.size w (fun y=>decide (y.name=s)):=by
 intro W x hb;have hlt:=wl h;have h':=(hb.cell (p:=⟨b,0,none⟩) hlt).trans h;have hlt':b<W.heap.size:=wl h';show Calls _ _ #[.agg #[.string x.name,.int .i64 x.depth,.int .i64 x.low,.int .i64 x.high,.int .i64 x.length,.slice x.la x.lines.length x.lc,.int .i64 x.pipe,.int .i64 x.arbor,.int .i64 x.purchase,.int .i64 x.most,.int .i64 x.brake,.slice x.ia x.items.length x.ic,.slice x.ba x.bricks.length x.bc],.pointer (some ⟨b,0,none⟩)] _ _;clear h hb hlt
 go_enter Tryz.func46,Tryz.ntmps46
 go_wp2_with fail
 go_ret;exact⟨ret_bool (str_eq _ _),below_new _ _⟩
noncomputable def pathE(h:HouseR)(s:SheetR)(G:List Int)(nme:ByteArray):List Pc×Int:=
 if planE h s G=0 then(if findS h.sets nme<0 then([],9)else if ordrB s.cues (planS h s G) (planN h s)=true then pathP h s.cues (planS h s G) (findS h.sets nme).toNat else([],13))else([],planE h s G)
theorem boxHSN{w:World}{h:HouseR}{s:SheetR}{ga:Option Addr}{G:List Int}(nme:ByteArray)(hh:HouseIn w h)(hs:SheetIn w s)(hG:Nums w.heap.size w ga G):
  ∃W0,((LTw w h s).alloc (.cells #[.string nme] 9))=W0∧Hid (∀w',Below W0.heap.size W0 w'→HouseAt w' w.heap.size h∧SheetAt w' (w.heap.size+1) s∧w'.cell? ⟨w.heap.size+1+1,0,none⟩=some (.string nme)∧HouseIn w' h∧SheetIn w' s∧Nums w'.heap.size w' ga G∧Below w.heap.size w w'):=by
 have hb:Below w.heap.size w ((LTw w h s).alloc (.cells #[.string nme] 9)):=((below_new w _).alloc (by simp) _).alloc (by simp;omega) _;have hH:=((HouseAt.new w h 25).carry (below_new _ (LSh s))).carry (below_new _ (.cells #[.string nme] 9));have hS':=(sheetAt_new (w.alloc (LHo h)) s).carry (below_new _ (.cells #[.string nme] 9));rw[show(w.alloc (LHo h)).heap.size=w.heap.size+1 by simp]at hS';have hN0:∀V:World,(V.alloc (.cells #[.string nme] 9)).cell? ⟨V.heap.size,0,none⟩=some (.string nme):=fun V=>by simp
 have hN:=hN0 (LTw w h s);rw[show(LTw w h s).heap.size=w.heap.size+1+1 by simp]at hN;clear hN0;refine⟨_,rfl,lh fun w' z=>⟨hH.carry z,hS'.carry z,(z.cell (p:=⟨w.heap.size+1+1,0,none⟩) (wl hN)).trans hN,(hh.grow hb).grow z,(hs.grow hb).grow z,(hG.grow hb).grow z,hb.trans (z.mono hb.size)⟩⟩
theorem tPath_any(h:HouseR)(s:SheetR)(ga:Option Addr)(G:List Int)(gc:Nat)(nme:ByteArray)(w:World)(hh:HouseIn w h)(hs:SheetIn w s)(hG:Nums w.heap.size w ga G)(hgl:G.length≤1000):
  Calls Tryz.prog 12 #[.agg #[.string h.name,.int .i64 h.height,.slice h.sa h.sets.length h.sc,.slice h.ra h.roofs.length h.rc],.agg #[.slice s.ca s.cues.length s.cc,.slice s.pa s.pairs.length s.pc],.slice ga G.length gc,.string nme] w fun e w'=>Hid (∃v,e=.returned (.tuple #[v,.int .i64 (pathE h s G nme).2])∧PathV w w' v (pathE h s G nme))∧Below w.heap.size w w':=by
 have hsl:=hh.slen;have hcap:=hh.scap;obtain⟨W0,hW0,HX⟩:=boxHSN nme hh hs hG;clear hh hs hG;obtain⟨E,hE⟩:=nm (planE h s G)
 by_cases hz:E=0
 case neg=>
  have HE:=lh hE;have HR:Hid (pathE h s G nme=([],E)):=lh (by unfold pathE;rw[hE,if_neg hz]);have HZ:=lh hz;have g0:(E !=0)=true:=bne_iff_ne.2 hz;clear hz hE;have HMD:=lh (made_any h s ga G gc _ (HX.out _ br).2.2.2.1 (HX.out _ br).2.2.2.2.1 (HX.out _ br).2.2.2.2.2.1 hgl)
  go_enter Tryz.func12,Tryz.ntmps12
  go_upto_region 1 with (fail)
  try simp only[hW0]
  clear hW0;obtain⟨⟨a0,a1,a2,a3⟩,⟨s0,s1⟩,n0,-,-,-,-⟩:=HX.out _ br
  go_wp2_with (go_at_call 44;(with_reducible refine HMD.out.mono ?_);rintro e w1 ⟨hx1,hb1⟩;obtain⟨ta,tn,tc,sa,sn,sc,na,nn,nc,rfl,hp1⟩:=hx1.out;clear hx1 hp1;rw[HE.out])
  go_ret2
  exact⟨lh ⟨_,by first | rfl | (rw[HR.out];rfl) | rw[HR.out],by rw[HR.out];exact⟨fun e=>absurd e HZ.out,fun _=>rfl⟩⟩,(HX.out _ hb1).2.2.2.2.2.2.alloc (by have:=(HX.out _ hb1).2.2.2.2.2.2.size;omega) _⟩
 case pos=>
  subst hz;obtain⟨hok,hpo⟩:=plan_sheet hE;have HOK:=lh hok;have HPO:=lh hpo;have HE:=lh hE;have HMD:=lh (made_more h s ga G gc _ (HX.out _ br).2.2.2.1 (HX.out _ br).2.2.2.2.1 (HX.out _ br).2.2.2.2.2.1 hgl hE);clear hok hpo hE
  go_enter Tryz.func12,Tryz.ntmps12
  go_upto_region 1 with (fail)
  try simp only[hW0]
  clear hW0;obtain⟨⟨a0,a1,a2,a3⟩,⟨s0,s1⟩,n0,-,-,-,-⟩:=HX.out _ br
  go_upto_region 4 with (go_at_call 44;(with_reducible refine HMD.out.mono ?_);rintro e w1 ⟨hx1,hb1⟩;obtain⟨ta,tc,sa,sc,na,nc,rfl,hp1⟩:=hx1.out;have HP1:=lh hp1;clear hx1 hp1)
  obtain⟨hS1,hN1,hT1⟩:=HP1.out;have hbx:=below_new w1 (.cells #[.slice ta (s.cues.length+1) tc,.slice sa s.cues.length sc,.slice na s.cues.length nc] 109);have hPC:=PC.put w1 (.slice ta (s.cues.length+1) tc) (.slice sa s.cues.length sc) (.slice na s.cues.length nc) 109;have hsz:=hb1.size;have HB2:Hid (Below W0.heap.size W0 (w1.alloc (.cells #[.slice ta (s.cues.length+1) tc,.slice sa s.cues.length sc,.slice na s.cues.length nc] 109))):=lh (hb1.alloc hsz _);obtain⟨B8,hB8⟩:=nm (w1.heap.size);have HPS:Hid (Nums (w1.alloc (.cells #[.slice ta (s.cues.length+1) tc,.slice sa s.cues.length sc,.slice na s.cues.length nc] 109)).heap.size (w1.alloc (.cells #[.slice ta (s.cues.length+1) tc,.slice sa s.cues.length sc,.slice na s.cues.length nc] 109)) sa (planS h s G)∧Nums (w1.alloc (.cells #[.slice ta (s.cues.length+1) tc,.slice sa s.cues.length sc,.slice na s.cues.length nc] 109)).heap.size (w1.alloc (.cells #[.slice ta (s.cues.length+1) tc,.slice sa s.cues.length sc,.slice na s.cues.length nc] 109)) na (planN h s)∧(0<h.sets.length→∃P,TrimsIn (w1.alloc (.cells #[.slice ta (s.cues.length+1) tc,.slice sa s.cues.length sc,.slice na s.cues.length nc] 109)) ta h s.cues P)):=lh ⟨hS1.grow hbx,hN1.grow hbx,fun q=>by obtain⟨P,t⟩:=hT1 q;exact⟨P,t.grow hbx⟩⟩;have HPC:=lh hPC;clear hS1 hN1 hT1 hbx hPC HP1 HMD hsz hb1 a0 a1 a2 a3 s0 s1 n0;obtain⟨W2,hW2⟩:=nm (w1.alloc (.cells #[.slice ta (s.cues.length+1) tc,.slice sa s.cues.length sc,.slice na s.cues.length nc] 109));rw[hW2]at HB2 HPS HPC;simp only[hW2];rw[hB8]at HPC;simp only[hB8];clear hW2 hB8;obtain⟨⟨a0,a1,a2,a3⟩,⟨s0,s1⟩,n0,hin,-,-,-⟩:=HX.out _ HB2.out;have HIF:=lh (set_indexFunc h.sa h.sets h.sc _ _ _ (fun y=>decide (y.name=nme)) W2 ent_tpath (by omega) (Nat.le_refl _) hin.sets (asks_tpath n0));obtain⟨f,hf⟩:=nm (findS h.sets nme);rw[show set_first h.sets (fun y=>decide (y.name=nme))=f from hf]at HIF;have HF:=lh hf;clear hf hin
  by_cases hn:f<0
  ·have HR:Hid (pathE h s G nme=([],9)):=lh (by unfold pathE;rw[HE.out,if_pos rfl,HF.out,if_pos hn])
   go_wp2_with (go_at_call 45;(with_reducible refine HIF.out.mono ?_);rintro e w3 ⟨rfl,hb3⟩)
   go_ret2
   exact⟨lh ⟨_,by first | rfl | (rw[HR.out];rfl) | rw[HR.out],by rw[HR.out];exact⟨fun e=>absurd e (by decide),fun _=>rfl⟩⟩,(HX.out _ (HB2.out.trans (hb3.mono HB2.out.size))).2.2.2.2.2.2⟩
  ·go_upto_region 7 with (go_at_call 45;(with_reducible refine HIF.out.mono ?_);rintro e w3 ⟨rfl,hb3⟩)
   have HB3:Hid (Below W0.heap.size W0 w3):=lh (HB2.out.trans (hb3.mono HB2.out.size));have HP3:=lh (HPC.out.carry hb3);have HS3:Hid (Nums w3.heap.size w3 sa (planS h s G)∧Nums w3.heap.size w3 na (planN h s)∧(0<h.sets.length→∃P,TrimsIn w3 ta h s.cues P)):=lh ⟨HPS.out.1.grow hb3,HPS.out.2.1.grow hb3,fun q=>by obtain⟨P,t⟩:=HPS.out.2.2 q;exact⟨P,t.grow hb3⟩⟩;clear hb3 a0 a1 a2 a3 s0 s1 n0 HIF;obtain⟨⟨a0,a1,a2,a3⟩,⟨s0,s1⟩,n0,hin,hsi,-,-⟩:=HX.out _ HB3.out;obtain⟨p0,p1,p2,-,-,-,-⟩:=HP3.out;have HTO:=lh (tordered_any s ta (s.cues.length+1) tc sa na (planS h s G) (planN h s) sc nc w3 hsi HS3.out.1 HS3.out.2.1 HPO.out.lenS HPO.out.lenN (fun i hi=>by have:=HPO.out.starts i hi;omega) (fun i hi=>by have:=HPO.out.lens i hi;omega));rw[HPO.out.lenS,HPO.out.lenN]at HTO;obtain⟨o,ho⟩:=nm (ordrB s.cues (planS h s G) (planN h s));rw[ho]at HTO;have HO:=lh ho;have HN:=lh hn;clear hin hsi ho hn
   cases o
   case false=>
    have HR:Hid (pathE h s G nme=([],13)):=lh (by unfold pathE;rw[HE.out,if_pos rfl,HF.out,if_neg (by have:=HN.out;omega),HO.out];rfl)
    go_wp2_with (go_at_call 47;(with_reducible refine HTO.out.mono ?_);rintro e w4 ⟨rfl,hb4⟩)
    go_ret2
    exact⟨lh ⟨_,by first | rfl | (rw[HR.out];rfl) | rw[HR.out],by rw[HR.out];exact⟨fun e=>absurd e (by decide),fun _=>rfl⟩⟩,(HX.out _ (HB3.out.trans (hb4.mono HB3.out.size))).2.2.2.2.2.2⟩
   case true=>
    have hk:=find_name (h:=h) (s:=nme) (by rw[HF.out];have:=HN.out;omega);rw[HF.out]at hk;obtain⟨k,rfl⟩:∃k:Nat,f=k:=⟨f.toNat,by have:=HN.out;omega⟩;have HKK:Hid (k<h.sets.length):=lh (by simpa using hk.1);have HR:Hid (pathE h s G nme=pathP h s.cues (planS h s G) k):=lh (by unfold pathE;rw[HE.out,if_pos rfl,HF.out,if_neg (by have:=HN.out;omega),if_pos HO.out];rfl);clear hk
    go_upto_region 9 with (go_at_call 47;(with_reducible refine HTO.out.mono ?_);rintro e w4 ⟨rfl,hb4⟩)
    have HB4:Hid (Below W0.heap.size W0 w4):=lh (HB3.out.trans (hb4.mono HB3.out.size));obtain⟨P,ht⟩:=HS3.out.2.2 (by have:=HKK.out;omega);have HTP:=lh (tpath_any h s ta P tc sa na (planS h s G) (planN h s) sc nc k w4 ⟨(HX.out _ HB4.out).2.2.2.1,(HX.out _ HB4.out).2.2.2.2.1,ht.grow hb4,HS3.out.1.grow hb4⟩ HPO.out.lenS HOK.out HKK.out (fun i hi=>by have:=HPO.out.starts i hi;omega));have HP4:=lh (HP3.out.carry hb4);rw[HPO.out.lenS,HPO.out.lenN,ht.rows.len]at HTP;clear ht hb4 a0 a1 a2 a3 s0 s1 n0 p0 p1 p2 HTO;obtain⟨⟨a0,a1,a2,a3⟩,⟨s0,s1⟩,n0,-,-,-,-⟩:=HX.out _ HB4.out;obtain⟨p0,p1,p2,-,-,-,-⟩:=HP4.out
    go_wp2_with (go_at_call 48;(with_reducible refine HTP.out.mono ?_);rintro e w5 ⟨hx5,hb5⟩;obtain⟨v5,rfl,hv5⟩:=hx5.out;have HV5:=lh hv5;clear hx5 hv5)
    go_ret2
    have hw4:=(HX.out _ HB4.out).2.2.2.2.2.2;exact⟨lh ⟨_,by first | rfl | (rw[HR.out];rfl) | rw[HR.out],by rw[HR.out];exact⟨fun e=>ownsRow_base (HV5.out.1 e) hw4.size,fun e=>HV5.out.2 e⟩⟩,(HX.out _ (HB4.out.trans (hb5.mono HB4.out.size))).2.2.2.2.2.2⟩
noncomputable def setAt(h:HouseR)(C:List CueR)(S:List Int)(ms:Int)(k:Nat):Int×Int×Int:=if(pathP h C S k).2=0 then atP (pathP h C S k).1 (lowN ms 1000,lowD ms 1000)else(0,0,(pathP h C S k).2)
noncomputable def atTo(h:HouseR)(C:List CueR)(S:List Int)(ms:Int):Nat→List (Int×Int)×Int
 | 0=>([],0)
 | k+1=>if(atTo h C S ms k).2=0 then(if(setAt h C S ms k).2.2=0 then((atTo h C S ms k).1++[((setAt h C S ms k).1,(setAt h C S ms k).2.1)],0)else([],(setAt h C S ms k).2.2))else atTo h C S ms k
theorem atTo_err{h:HouseR}{C:List CueR}{S:List Int}{ms:Int}{k:Nat}(e:(atTo h C S ms k).2≠0):∀n,k≤n→atTo h C S ms n=atTo h C S ms k
 | 0,hn=>by
  obtain rfl:k=0:=by omega
  rfl
 | n+1,hn=>by
  rcases Nat.lt_or_ge n k with l | l
  ·obtain rfl:k=n+1:=by omega
   rfl
  ·have ih:=atTo_err e n l
   rw[atTo,ih,if_neg e]
theorem atTo_next{h:HouseR}{C:List CueR}{S:List Int}{ms:Int}{k:Nat}(a:(atTo h C S ms k).2=0)(b:(setAt h C S ms k).2.2=0):atTo h C S ms (k+1)=((atTo h C S ms k).1++[((setAt h C S ms k).1,(setAt h C S ms k).2.1)],0):=by rw[atTo,if_pos a,if_pos b]
theorem atTo_fail{h:HouseR}{C:List CueR}{S:List Int}{ms:Int}{k:Nat}(a:(atTo h C S ms k).2=0)(b:(setAt h C S ms k).2.2≠0):atTo h C S ms (k+1)=([],(setAt h C S ms k).2.2):=by rw[atTo,if_pos a,if_neg b]
theorem atTo_len{h:HouseR}{C:List CueR}{S:List Int}{ms:Int}:∀k,(atTo h C S ms k).2=0→(atTo h C S ms k).1.length=k
 | 0,_=>rfl
 | k+1,e=>by
  by_cases a:(atTo h C S ms k).2=0
  ·by_cases b:(setAt h C S ms k).2.2=0
   ·rw[atTo_next a b,List.length_append,atTo_len k a];rfl
   ·rw[atTo_fail a b]at e;exact absurd e b
  ·rw[atTo_err a (k+1) (Nat.le_succ k)]at e;exact absurd e a
noncomputable def atE(h:HouseR)(s:SheetR)(G:List Int)(ms:Int):List (Int×Int)×Int:=
 if planE h s G=0 then(if ms<0∨1099511627776<ms then([],2)else if ordrB s.cues (planS h s G) (planN h s)=true then atTo h s.cues (planS h s G) ms h.sets.length else([],13))else([],planE h s G)
def AtV(w w':World)(v:Value)(r:List (Int×Int)×Int):Prop:=(r.2=0→w'.ownsRow w.heap.size 49 2 v r.1.length (frflat r.1))∧(r.2≠0→v=.slice none 0 0)
theorem boxHS2{w:World}{h:HouseR}{s:SheetR}{ga:Option Addr}{G:List Int}(hh:HouseIn w h)(hs:SheetIn w s)(hG:Nums w.heap.size w ga G):
  ∃W0,(LTw w h s)=W0∧Hid (∀w',Below W0.heap.size W0 w'→HouseAt w' w.heap.size h∧SheetAt w' (w.heap.size+1) s∧HouseIn w' h∧SheetIn w' s∧Nums w'.heap.size w' ga G∧Below w.heap.size w w'):=by
 have hb:Below w.heap.size w (LTw w h s):=(below_new w _).alloc (by simp) _;have hH:=(HouseAt.new w h 25).carry (below_new _ (LSh s));have hS':=sheetAt_new (w.alloc (LHo h)) s;rw[show(w.alloc (LHo h)).heap.size=w.heap.size+1 by simp]at hS';refine⟨_,rfl,lh fun w' z=>⟨hH.carry z,hS'.carry z,(hh.grow hb).grow z,(hs.grow hb).grow z,(hG.grow hb).grow z,hb.trans (z.mono hb.size)⟩⟩
theorem tAt_any(h:HouseR)(s:SheetR)(ga:Option Addr)(G:List Int)(gc:Nat)(ms:Int)(w:World)(hh:HouseIn w h)(hs:SheetIn w s)(hG:Nums w.heap.size w ga G)(hgl:G.length≤1000)(hm:-4611686018427387904≤ms∧ms≤4611686018427387904)
  (hC:∀k,k<h.sets.length→planE h s G=0→ordrB s.cues (planS h s G) (planN h s)=true→(pathP h s.cues (planS h s G) k).2=0→CurveOK (pathP h s.cues (planS h s G) k).1):
  Calls Tryz.prog 15 #[.agg #[.string h.name,.int .i64 h.height,.slice h.sa h.sets.length h.sc,.slice h.ra h.roofs.length h.rc],.agg #[.slice s.ca s.cues.length s.cc,.slice s.pa s.pairs.length s.pc],.slice ga G.length gc,.int .i64 ms] w fun e w'=>Hid (∃v,e=.returned (.tuple #[v,.int .i64 (atE h s G ms).2])∧AtV w w' v (atE h s G ms))∧Below w.heap.size w w':=by
 have hsl:=hh.slen;have hcap:=hh.scap;obtain⟨m0,m1⟩:=hm;have HCV:=lh hC;obtain⟨W0,hW0,HX⟩:=boxHS2 hh hs hG;clear hh hs hG hC;obtain⟨E,hE⟩:=nm (planE h s G)
 by_cases hz:E=0
 case neg=>
  have HE:=lh hE;have HR:Hid (atE h s G ms=([],E)):=lh (by unfold atE;rw[hE,if_neg hz]);have HZ:=lh hz;have g0:(E !=0)=true:=bne_iff_ne.2 hz;clear hz hE;have HMD:=lh (made_any h s ga G gc _ (HX.out _ br).2.2.1 (HX.out _ br).2.2.2.1 (HX.out _ br).2.2.2.2.1 hgl)
  go_enter Tryz.func15,Tryz.ntmps15
  go_upto_region 1 with (fail)
  try simp only[hW0]
  clear hW0;obtain⟨⟨a0,a1,a2,a3⟩,⟨s0,s1⟩,-,-,-,-⟩:=HX.out _ br
  go_wp2_with (go_at_call 44;(with_reducible refine HMD.out.mono ?_);rintro e w1 ⟨hx1,hb1⟩;obtain⟨ta,tn,tc,sa,sn,sc,na,nn,nc,rfl,hp1⟩:=hx1.out;clear hx1 hp1;rw[HE.out])
  go_ret2
  exact⟨lh ⟨_,by first | rfl | (rw[HR.out];rfl) | rw[HR.out],by rw[HR.out];exact⟨fun e=>absurd e HZ.out,fun _=>rfl⟩⟩,(HX.out _ hb1).2.2.2.2.2.alloc (by have:=(HX.out _ hb1).2.2.2.2.2.size;omega) _⟩
 case pos=>
  subst hz;obtain⟨hok,hpo⟩:=plan_sheet hE;have HOK:=lh hok;have HPO:=lh hpo;have HE:=lh hE;have HMD:=lh (made_more h s ga G gc _ (HX.out _ br).2.2.1 (HX.out _ br).2.2.2.1 (HX.out _ br).2.2.2.2.1 hgl hE);clear hok hpo hE
  go_enter Tryz.func15,Tryz.ntmps15
  go_upto_region 1 with (fail)
  try simp only[hW0]
  clear hW0;obtain⟨⟨a0,a1,a2,a3⟩,⟨s0,s1⟩,-,-,-,-⟩:=HX.out _ br
  go_upto_region 4 with (go_at_call 44;(with_reducible refine HMD.out.mono ?_);rintro e w1 ⟨hx1,hb1⟩;obtain⟨ta,tc,sa,sc,na,nc,rfl,hp1⟩:=hx1.out;have HP1:=lh hp1;clear hx1 hp1)
  obtain⟨hS1,hN1,hT1⟩:=HP1.out;have hbx:=below_new w1 (.cells #[.slice ta (s.cues.length+1) tc,.slice sa s.cues.length sc,.slice na s.cues.length nc] 109);have hPC:=PC.put w1 (.slice ta (s.cues.length+1) tc) (.slice sa s.cues.length sc) (.slice na s.cues.length nc) 109;have hsz:=hb1.size;have HB2:Hid (Below W0.heap.size W0 (w1.alloc (.cells #[.slice ta (s.cues.length+1) tc,.slice sa s.cues.length sc,.slice na s.cues.length nc] 109))):=lh (hb1.alloc hsz _);obtain⟨B8,hB8⟩:=nm (w1.heap.size);have HPS:Hid (Nums (w1.alloc (.cells #[.slice ta (s.cues.length+1) tc,.slice sa s.cues.length sc,.slice na s.cues.length nc] 109)).heap.size (w1.alloc (.cells #[.slice ta (s.cues.length+1) tc,.slice sa s.cues.length sc,.slice na s.cues.length nc] 109)) sa (planS h s G)∧Nums (w1.alloc (.cells #[.slice ta (s.cues.length+1) tc,.slice sa s.cues.length sc,.slice na s.cues.length nc] 109)).heap.size (w1.alloc (.cells #[.slice ta (s.cues.length+1) tc,.slice sa s.cues.length sc,.slice na s.cues.length nc] 109)) na (planN h s)∧(0<h.sets.length→∃P,TrimsIn (w1.alloc (.cells #[.slice ta (s.cues.length+1) tc,.slice sa s.cues.length sc,.slice na s.cues.length nc] 109)) ta h s.cues P)):=lh ⟨hS1.grow hbx,hN1.grow hbx,fun q=>by obtain⟨P,t⟩:=hT1 q;exact⟨P,t.grow hbx⟩⟩;have HPC:=lh hPC;clear hS1 hN1 hT1 hbx hPC HP1 HMD hsz hb1 a0 a1 a2 a3 s0 s1;obtain⟨W2,hW2⟩:=nm (w1.alloc (.cells #[.slice ta (s.cues.length+1) tc,.slice sa s.cues.length sc,.slice na s.cues.length nc] 109));rw[hW2]at HB2 HPS HPC;simp only[hW2];rw[hB8]at HPC;simp only[hB8];clear hW2 hB8
  by_cases hr:ms<0∨1099511627776<ms
  ·have HR:Hid (atE h s G ms=([],2)):=lh (by unfold atE;rw[HE.out,if_pos rfl,if_pos hr])
   have hw2:=(HX.out _ HB2.out).2.2.2.2.2
   by_cases hl:ms<0
   ·go_wp2_with fail
    go_ret2
    exact⟨lh ⟨_,by first | rfl | (rw[HR.out];rfl) | rw[HR.out],by rw[HR.out];exact⟨fun e=>absurd e (by decide),fun _=>rfl⟩⟩,hw2⟩
   ·have hl2:1099511627776<ms:=by omega
    go_wp2_with fail
    go_ret2
    exact⟨lh ⟨_,by first | rfl | (rw[HR.out];rfl) | rw[HR.out],by rw[HR.out];exact⟨fun e=>absurd e (by decide),fun _=>rfl⟩⟩,hw2⟩
  have l0:¬ms<0:=fun e=>hr (.inl e);have l1:¬1099511627776<ms:=fun e=>hr (.inr e);have HL:Hid (¬(ms<0∨1099511627776<ms)):=lh hr;clear hr
  go_upto_region 6 with (fail)
  obtain⟨⟨a0,a1,a2,a3⟩,⟨s0,s1⟩,hin,hsi,-,-⟩:=HX.out _ HB2.out;obtain⟨p0,p1,p2,-,-,-,-⟩:=HPC.out;have HTO:=lh (tordered_any s ta (s.cues.length+1) tc sa na (planS h s G) (planN h s) sc nc W2 hsi HPS.out.1 HPS.out.2.1 HPO.out.lenS HPO.out.lenN (fun i hi=>by have:=HPO.out.starts i hi;omega) (fun i hi=>by have:=HPO.out.lens i hi;omega));rw[HPO.out.lenS,HPO.out.lenN]at HTO;obtain⟨o,ho⟩:=nm (ordrB s.cues (planS h s G) (planN h s));rw[ho]at HTO;have HO:=lh ho;clear hin hsi ho
  cases o
  case false=>
   have HR:Hid (atE h s G ms=([],13)):=lh (by unfold atE;rw[HE.out,if_pos rfl,if_neg HL.out,HO.out];rfl)
   go_wp2_with (go_at_call 47;(with_reducible refine HTO.out.mono ?_);rintro e w4 ⟨rfl,hb4⟩)
   go_ret2
   exact⟨lh ⟨_,by first | rfl | (rw[HR.out];rfl) | rw[HR.out],by rw[HR.out];exact⟨fun e=>absurd e (by decide),fun _=>rfl⟩⟩,(HX.out _ (HB2.out.trans (hb4.mono HB2.out.size))).2.2.2.2.2⟩
  case true=>
  have HR:Hid (atE h s G ms=atTo h s.cues (planS h s G) ms h.sets.length):=lh (by unfold atE;rw[HE.out,if_pos rfl,if_neg HL.out,if_pos HO.out]);have HMK:=lh (fun w'=>tsec_any ms (by omega) (by omega) w');obtain⟨N1,hN1⟩:=nm (lowN ms 1000);obtain⟨D1,hD1⟩:=nm (lowD ms 1000);rw[hN1,hD1]at HMK;have HND:Hid (lowN ms 1000=N1∧lowD ms 1000=D1):=lh ⟨hN1,hD1⟩;clear hN1 hD1
  go_upto_region 12 with (first | (go_at_call 47;(with_reducible refine HTO.out.mono ?_);rintro e w3 ⟨rfl,hb3⟩) | (go_at_call 53;(with_reducible refine(HMK.out _).mono ?_);rintro e w4 ⟨rfl,hb4⟩))
  have hbw:=hb3.trans (hb4.mono hb3.size);have hf4:=FI.put w4 N1 D1 49;have hb5:=hbw.alloc hbw.size (.cells #[.int .i64 N1,.int .i64 D1] 49);obtain⟨Bf,hBf⟩:=nm (w4.heap.size);obtain⟨W5,hW5⟩:=nm (w4.alloc (.cells #[.int .i64 N1,.int .i64 D1] 49));rw[hW5]at hb5 hf4;simp only[hW5];rw[hBf]at hf4;simp only[hBf]
  have HX5:Hid (∀w',Below W5.heap.size W5 w'→Below W0.heap.size W0 w'∧Below W2.heap.size W2 w'):=lh fun w' z=>by
   have y:=hb5.trans (z.mono hb5.size);exact⟨HB2.out.trans (y.mono HB2.out.size),y⟩
  have HF5:Hid (∀w',Below W5.heap.size W5 w'→w'.cell? ⟨Bf,0,none⟩=some (.int .i64 N1)∧w'.cell? ⟨Bf,1,none⟩=some (.int .i64 D1)):=lh fun w' z=>⟨(hf4.carry z).1,(hf4.carry z).2.1⟩
  have HPT:Hid (∀w' k,Below W5.heap.size W5 w'→k<h.sets.length→Calls Tryz.prog 48 #[.agg #[.slice ta (s.cues.length+1) tc,.slice sa s.cues.length sc,.slice na s.cues.length nc],.agg #[.string h.name,.int .i64 h.height,.slice h.sa h.sets.length h.sc,.slice h.ra h.roofs.length h.rc],.agg #[.slice s.ca s.cues.length s.cc,.slice s.pa s.pairs.length s.pc],.int .i64 (k:Nat)] w' fun e w2=>Hid (∃v,e=.returned (.tuple #[v,.int .i64 (pathP h s.cues (planS h s G) k).2])∧PathV w' w2 v (pathP h s.cues (planS h s G) k))∧Below w'.heap.size w' w2):=lh fun w' k z hk=>by
   obtain⟨y0,y2⟩:=HX5.out w' z;obtain⟨P,ht⟩:=HPS.out.2.2 (by omega);have:=tpath_any h s ta P tc sa na (planS h s G) (planN h s) sc nc k w' ⟨(HX.out _ y0).2.2.1,(HX.out _ y0).2.2.2.1,ht.grow y2,HPS.out.1.grow y2⟩ HPO.out.lenS HOK.out hk (fun i hi=>by have:=HPO.out.starts i hi;omega)
   rwa [HPO.out.lenS,HPO.out.lenN,ht.rows.len]at this
  have HWB:Hid (∀w',Below W5.heap.size W5 w'→HouseAt w' w.heap.size h∧SheetAt w' (w.heap.size+1) s∧Below w.heap.size w w'∧PC w' B8 (.slice ta (s.cues.length+1) tc) (.slice sa s.cues.length sc) (.slice na s.cues.length nc)):=lh fun w' z=>by
   obtain⟨y0,y2⟩:=HX5.out w' z;obtain⟨x1,x2,-,-,-,x6⟩:=HX.out _ y0;exact⟨x1,x2,x6,HPC.out.carry y2⟩
  clear hBf hW5 hf4 hb5 hbw hb3 hb4 a0 a1 a2 a3 s0 s1 p0 p1 p2 HTO HMK;obtain⟨⟨a0,a1,a2,a3⟩,-,-,-⟩:=HWB.out _ br
  go_upto_region 13 with (fail)
  clear a0 a1 a2 a3
  go_loopw [13,52] (fun v iv wr=>∃k:Nat,iv=.int .i64 k∧k≤h.sets.length∧Below W5.heap.size W5 wr∧Hid ((atTo h s.cues (planS h s G) ms k).2=0∧wr.ownsRow W5.heap.size 49 2 v k (frflat (atTo h s.cues (planS h s G) ms k).1))) (fun _ iv _=>h.sets.length-(intOf iv).toNat)
  case atStart=>exact⟨0,rfl,Nat.zero_le _,br,lh ⟨rfl,World.ownsRow_nil _ _ _ _⟩⟩
  case round=>
   obtain⟨k,rfl,hk,hB,HO2⟩:=hrel;obtain⟨wk,rfl⟩:∃wo:World,wo=wr:=⟨_,rfl⟩;have hws:w.heap.size≤W5.heap.size:=(HWB.out _ br).2.2.1.size
   by_cases hlt:k<h.sets.length
   case neg=>
    obtain rfl:k=h.sets.length:=by omega
    have hw:=(HWB.out _ hB).2.2.1;have HZ:Hid ((atTo h s.cues (planS h s G) ms h.sets.length).1.length=h.sets.length):=lh (atTo_len _ HO2.out.1)
    go_wp2_with fail
    go_ret2
    exact⟨lh ⟨_,by first | rfl | (rw[HR.out,HO2.out.1];rfl) | rw[HR.out,HO2.out.1],by rw[HR.out];exact⟨fun _=>by rw[HZ.out];exact ownsRow_base HO2.out.2 hws,fun e=>absurd HO2.out.1 e⟩⟩,hw⟩
   have HWS:=lh hws;have k0:0≤(k:Int):=by omega
   have k1:(k:Int)<(h.sets.length:Int):=by omega
   have kw:IntKind.i64.wrap ((k:Int)+1)=(k:Int)+1:=IntWalk.i64_in _ (by omega);obtain⟨⟨a0,a1,a2,a3⟩,⟨s0,s1⟩,-,p0,p1,p2,-,-,-,-⟩:=HWB.out _ hB;have HPK:=lh (HPT.out wk k hB hlt);obtain⟨Y,hY⟩:=nm (pathP h s.cues (planS h s G) k);rw[hY]at HPK;have HY:=lh hY;clear hY hws
   go_upto_region 16 with (go_at_call 48;(with_reducible refine HPK.out.mono ?_);rintro e w6 ⟨hx6,hb6⟩;obtain⟨v6,rfl,hv6⟩:=hx6.out;have HV6:=lh hv6;clear hx6 hv6)
   have HB6:Hid (Below W5.heap.size W5 w6):=lh (hB.trans (hb6.mono hB.size));have HO6:Hid (w6.ownsRow W5.heap.size 49 2 u13 k (frflat (atTo h s.cues (planS h s G) ms k).1)):=lh (ownsRow_below HO2.out.2 hb6);clear a0 a1 a2 a3 s0 s1 p0 p1 p2 hb6 hB
   by_cases he:Y.2=0
   case neg=>
    have hF:setAt h s.cues (planS h s G) ms k=(0,0,Y.2):=by unfold setAt;rw[HY.out,if_neg he]
    have hF2:atTo h s.cues (planS h s G) ms (k+1)=([],Y.2):=by rw[atTo_fail HO2.out.1 (by rw[hF];exact he),hF]
    have HE2:Hid (atE h s G ms=([],Y.2)):=lh (by rw[HR.out,atTo_err (k:=k+1) (by rw[hF2];exact he) _ hlt,hF2]);have hwb:=(HWB.out _ HB6.out).2.2.1;have hye:(Y.2==0)=false:=by simpa using he
    clear hF hF2
    go_wp2_with fail
    go_ret2
    exact⟨lh ⟨_,by first | rfl | (rw[HE2.out];rfl) | rw[HE2.out],by rw[HE2.out];exact⟨fun e=>absurd e he,fun _=>rfl⟩⟩,hwb⟩
   have hr6:=HV6.out.1 he;obtain⟨ya,yc,rfl,-,-,-,hps⟩:=pc_of_row hr6;obtain⟨X,hX⟩:=nm (atP Y.1 (N1,D1));have HQA:=lh (qat_any Y.1 (by rw[←HY.out];exact HCV.out k hlt HE.out HO.out (by rw[HY.out];exact he)) (N1,D1) ya yc w6 hps);rw[hX]at HQA;have HSA:Hid (setAt h s.cues (planS h s G) ms k=X):=lh (by unfold setAt;rw[HY.out,if_pos he,HND.out.1,HND.out.2,hX]);have hye:(Y.2==0)=true:=by simpa using he
   obtain⟨f0,f1⟩:=HF5.out _ HB6.out;clear hr6 hps hX
   go_upto_region 19 with (go_at_call 39;(with_reducible refine HQA.out.mono ?_);rintro e w7 ⟨rfl,hb7⟩)
   have hf7:=FI.put w7 X.1 X.2.1 49;have hb8:=hb7.alloc hb7.size (.cells #[.int .i64 X.1,.int .i64 X.2.1] 49);obtain⟨Bx,hBx⟩:=nm (w7.heap.size);obtain⟨W8,hW8⟩:=nm (w7.alloc (.cells #[.int .i64 X.1,.int .i64 X.2.1] 49));rw[hW8]at hf7 hb8;simp only[hW8];rw[hBx]at hf7;simp only[hBx];have HB8:Hid (Below W5.heap.size W5 W8):=lh (HB6.out.trans (hb8.mono HB6.out.size));have HO8:Hid (W8.ownsRow W5.heap.size 49 2 u13 k (frflat (atTo h s.cues (planS h s G) ms k).1)):=lh (ownsRow_below HO6.out hb8);have HLN:Hid ((atTo h s.cues (planS h s G) ms k).1.length=k):=lh (atTo_len k HO2.out.1);obtain⟨y0,y1,-⟩:=hf7;clear hBx hW8 hb8 hb7 f0 f1
   by_cases hx:X.2.2=0
   case neg=>
    have hF2:atTo h s.cues (planS h s G) ms (k+1)=([],X.2.2):=by rw[atTo_fail HO2.out.1 (by rw[HSA.out];exact hx),HSA.out]
    have HE2:Hid (atE h s G ms=([],X.2.2)):=lh (by rw[HR.out,atTo_err (k:=k+1) (by rw[hF2];exact hx) _ hlt,hF2]);have hwb:=(HWB.out _ HB8.out).2.2.1;have hxe:(X.2.2==0)=false:=by simpa using hx
    clear hF2
    go_wp2_with fail
    go_ret2
    exact⟨lh ⟨_,by first | rfl | (rw[HE2.out];rfl) | rw[HE2.out],by rw[HE2.out];exact⟨fun e=>absurd e hx,fun _=>rfl⟩⟩,hwb⟩
   have hxe:(X.2.2==0)=true:=by simpa using hx
   have HN2:Hid (atTo h s.cues (planS h s G) ms (k+1)=((atTo h s.cues (planS h s G) ms k).1++[(X.1,X.2.1)],0)):=lh (by rw[atTo_next HO2.out.1 (by rw[HSA.out];exact hx),HSA.out]);obtain⟨L,hL⟩:=nm ((atTo h s.cues (planS h s G) ms k).1);rw[hL]at HN2 HLN HO8;have HOL:Hid (W8.ownsRow W5.heap.size 49 2 u13 L.length (frflat L)):=lh (by rw[HLN.out];exact HO8.out);have hsz:=HB8.out.size;clear hL HO2 HO6
   go_wp2_with (at_builtin;refine fr_append rfl _ _ rfl W5.heap.size _ L rfl (HOL.out.alloc _) _ (X.1,X.2.1) rfl ⟨by simp,by simp⟩ (by rw[HLN.out];omega) (by simp;omega) ?_;intro v2 w9 hown9 hg9;have HO9:=lh hown9;have HB9:=lh ((below_a (.cells #[.int .i64 X.1,.int .i64 X.2.1] 49) HB8.out).grown hg9 (by simp;omega) (fun j e=>(HOL.out.lt _ e).1));clear hown9 hg9)
   go_roundw
   case rel=>exact⟨k+1,by go_num,by omega,HB9.out,lh ⟨by rw[HN2.out],by have:=HO9.out;rw[List.length_append,HLN.out]at this;rw[HN2.out];exact this⟩⟩
   case measure=>simp[intOf];omega
end
section
open Go.RowKit
theorem piece_err(x:Pc)(s z:Int)(up:Bool):(pieceP x s z up).2=0∨(pieceP x s z up).2=5:=by
 unfold pieceP;have h1:(addP (lowN s 1000) (lowD s 1000) x.f0 x.f1).2.2=0∨(addP (lowN s 1000) (lowD s 1000) x.f0 x.f1).2.2=5:=fit_valid
 by_cases e:(addP (lowN s 1000) (lowD s 1000) x.f0 x.f1).2.2=0
 ·simp only[if_pos e]
  exact fit_valid
 ·simp only[if_neg e]
  exact h1
theorem wayTo_errs(s z:Int)(up:Bool)(out W:List Pc):∀k,(wayTo s z up out W k).2=0∨(wayTo s z up out W k).2=5
 | 0=>.inl rfl
 | k+1=>by
  by_cases a:(wayTo s z up out W k).2=0
  ·by_cases b:(pieceP (pcg W k) s z up).2=0
   ·rw[wayTo_next a b];exact .inl rfl
   ·rw[wayTo_fail a b];exact piece_err _ _ _ _
  ·rw[wayTo_err a (k+1) (Nat.le_succ k)];exact wayTo_errs s z up out W k
theorem pathTo_errs(h:HouseR)(C:List CueR)(S:List Int)(k:Nat):∀n,(pathTo h C S k n).2=0∨(pathTo h C S k n).2=5
 | 0=>.inl rfl
 | n+1=>by
  by_cases a:(pathTo h C S k n).2=0
  ·by_cases g:goesK h C k n
   ·rw[pathTo_go (S:=S) a g.1 rfl rfl g.2 rfl rfl];exact wayTo_errs _ _ _ _ _ _
   ·rw[pathTo_stay (by
     by_cases b:mvB (cg C n).moves (hg h.sets k).name=true
     ·exact .inr (Classical.byContradiction fun q=>g ⟨b,q⟩)
     ·exact .inl (Bool.eq_false_iff.2 b))]
    exact .inl a
  ·rw[pathTo_err a (n+1) (Nat.le_succ n)];exact pathTo_errs h C S k n
theorem pathP_errs(h:HouseR)(C:List CueR)(S:List Int)(k:Nat):(pathP h C S k).2=0∨(pathP h C S k).2=4∨(pathP h C S k).2=5:=by
 have e:=pathTo_errs h C S k C.length;unfold pathP
 by_cases a:(pathTo h C S k C.length).2=0
 ·rw[if_pos a]
  split
  ·exact .inr (.inl rfl)
  ·exact .inl a
 ·rw[if_neg a]
  exact e.imp id fun q=>.inr q
theorem setAt_errs(h:HouseR)(C:List CueR)(S:List Int){ms:Int}(m0:0≤ms)(m1:ms≤1099511627776)(k:Nat):(setAt h C S ms k).2.2=0∨(setAt h C S ms k).2.2=4∨(setAt h C S ms k).2.2=5:=by
 unfold setAt
 by_cases a:(pathP h C S k).2=0
 ·rw[if_pos a]
  exact(atP_err (sec_vF m0 (by omega))).imp id fun q=>.inr q
 ·rw[if_neg a]
  exact pathP_errs h C S k
theorem atTo_errs(h:HouseR)(C:List CueR)(S:List Int){ms:Int}(m0:0≤ms)(m1:ms≤1099511627776):∀n,(atTo h C S ms n).2=0∨(atTo h C S ms n).2=4∨(atTo h C S ms n).2=5
 | 0=>.inl rfl
 | n+1=>by
  by_cases a:(atTo h C S ms n).2=0
  ·by_cases b:(setAt h C S ms n).2.2=0
   ·rw[atTo_next a b];exact .inl rfl
   ·rw[atTo_fail a b];exact setAt_errs h C S m0 m1 n
  ·rw[atTo_err a (n+1) (Nat.le_succ n)];exact atTo_errs h C S m0 m1 n
theorem atTo_at(h:HouseR)(C:List CueR)(S:List Int)(ms:Int):∀n,(atTo h C S ms n).2=0→∀k,k<n→frg (atTo h C S ms n).1 k=((setAt h C S ms k).1,(setAt h C S ms k).2.1)∧(setAt h C S ms k).2.2=0
 | 0,_,k,hk=>absurd hk (Nat.not_lt_zero _)
 | n+1,e,k,hk=>by
  by_cases a:(atTo h C S ms n).2=0
  case neg=>rw[atTo_err a (n+1) (Nat.le_succ n)]at e;exact absurd e a
  by_cases b:(setAt h C S ms n).2.2=0
  case neg=>rw[atTo_fail a b]at e;exact absurd e b
  rw[atTo_next a b];have l:=atTo_len (h:=h) (C:=C) (S:=S) (ms:=ms) n a
  dsimp only
  rcases Nat.lt_or_ge k n with q | q
  ·rw[frg_old _ _ _ (by omega)]
   exact atTo_at h C S ms n a k q
  ·obtain rfl:k=n:=by omega
   have:=frg_new (atTo h C S ms k).1 ((setAt h C S ms k).1,(setAt h C S ms k).2.1);rw[l]at this;exact⟨this,b⟩
theorem setAt_ok{h:HouseR}{C:List CueR}{S:List Int}{ms:Int}{k:Nat}(e:(setAt h C S ms k).2.2=0):(pathP h C S k).2=0∧setAt h C S ms k=atP (pathP h C S k).1 (lowN ms 1000,lowD ms 1000):=by
 unfold setAt at e⊢
 by_cases a:(pathP h C S k).2=0
 ·rw[if_pos a];exact⟨a,rfl⟩
 ·rw[if_neg a]at e;exact absurd e a
theorem pathP_is{h:HouseR}{C:List CueR}{S:List Int}{k:Nat}(e:(pathP h C S k).2=0):pathP h C S k=pathTo h C S k C.length∧(pathTo h C S k C.length).2=0:=by
 unfold pathP at e⊢
 by_cases a:(pathTo h C S k C.length).2=0
 case neg=>rw[if_neg a]at e;exact absurd e a
 rw[if_pos a]at e⊢
 by_cases l:200<(pathTo h C S k C.length).1.length
 ·rw[if_pos l]at e;cases e
 ·rw[if_neg l];exact⟨rfl,a⟩
theorem setAt_pos{h:HouseR}{s:SheetR}{S G:List Int}{k:Nat}{ms:Int}(m0:0≤ms)(m1:ms≤1099511627776)(hok:SheetOK h s)(hp:PlanOK s.cues s.pairs (planN h s) G S)(ho:OrdrOK s.cues S (planN h s))(hk:k<h.sets.length)(e:(setAt h s.cues S ms k).2.2=0):
  vF ((setAt h s.cues S ms k).1,(setAt h s.cues S ms k).2.1)=true∧fr ((setAt h s.cues S ms k).1,(setAt h s.cues S ms k).2.1)=posTo h s.cues S k ((ms:Rat)/1000) s.cues.length:=by
 obtain⟨pe,se⟩:=setAt_ok e;have cv:=path_curve hok hp ho hk pe;obtain⟨pi,a⟩:=pathP_is pe;have vt:=sec_vF m0 (by omega);rw[se]at e⊢;refine⟨atP_valid cv vt e,?_⟩;rw[atP_ok cv vt e,pi,frq_low ms 1000 (by decide)];refine(path_inv hok hp ho hk _ (Nat.le_refl _) a).2 _ ?_;have:=rat_div_le m0
 grind
theorem reach_first{h:HouseR}{s:SheetR}{S G:List Int}{k:Nat}(hok:SheetOK h s)(hp:PlanOK s.cues s.pairs (planN h s) G S)(ho:OrdrOK s.cues S (planN h s))(hk:k<h.sets.length)(e:(setAt h s.cues S 0 k).2.2=0):(setAt h s.cues S 0 k).1=(hg h.sets k).high∧(setAt h s.cues S 0 k).2.1=1:=by
 obtain⟨pe,se⟩:=setAt_ok e;have cv:=path_curve hok hp ho hk pe;obtain⟨pi,a⟩:=pathP_is pe;obtain⟨⟨f,pv,_⟩,_⟩:=path_inv hok hp ho hk _ (Nat.le_refl _) a;rw[←pi]at pv;have n1:=cv.pos;have v:=cv.val 0 (by omega);obtain⟨c,r,hh⟩:=pv.head;have g:=qL_get (pathP h s.cues S k).1 0 (by rw[qL_len];omega);simp only[hh]at g;have g':qp (pcg (pathP h s.cues S k).1 0)=⟨0,(hg h.sets k).high,0,c⟩:=g.symm;unfold qp at g';rw[QP.mk.injEq]at g'
 have hb:-1152921504606846976≤(hg h.sets k).high∧(hg h.sets k).high≤1152921504606846976:=by
  have t:=(highs_ok hok.house).2 k (by rw[(highs_ok hok.house).1];exact hk);have:=(house_set hok.house hk).1.low;have:=(house_set hok.house hk).2;have:=(houseB_iff.1 hok.house).2.2.1;omega
 have f0:=frq_inj v.vf vF_zero (by rw[g'.1,frq_zero]);have a0:=frq_inj (b:=((hg h.sets k).high,1)) v.va (valid_one hb.1 hb.2) (by rw[g'.2.1,frq_one]);have af:=at_first cv;rw[f0]at af;rw[Prod.mk.injEq]at a0;rw[a0.1,a0.2]at af;rw[se,show(lowN 0 1000,lowD 0 1000)=((0,1):Int×Int)by decide,af];exact⟨rfl,rfl⟩
theorem reach_last{h:HouseR}{s:SheetR}{S G:List Int}{k:Nat}{ms:Int}(m0:0≤ms)(m1:ms≤1099511627776)(hok:SheetOK h s)(hp:PlanOK s.cues s.pairs (planN h s) G S)(ho:OrdrOK s.cues S (planN h s))(hk:k<h.sets.length)
  (hm:∀j,j<s.cues.length→ig S j+ig (planN h s) j≤ms) (e:(setAt h s.cues S ms k).2.2=0):(setAt h s.cues S ms k).1=ig (trimL h s.cues s.cues.length) k∧(setAt h s.cues S ms k).2.1=1:=by
 obtain⟨vv,fv⟩:=setAt_pos m0 m1 hok hp ho hk e;obtain⟨pe,se⟩:=setAt_ok e;obtain⟨pi,a⟩:=pathP_is pe;obtain⟨⟨f,pv,hf⟩,hat⟩:=path_inv hok hp ho hk _ (Nat.le_refl _) a
 have x0:(0:Rat)≤(ms:Rat)/1000:=by
  have:=rat_div_le m0
  grind
 rw[←hat _ x0]at fv
 have fl:f≤(ms:Rat)/1000:=by
  rcases hf with hf | ⟨j,hj,_,hf⟩
  ·rw[hf];exact x0
  ·exact Rat.le_trans hf (rat_div_le (hm j hj))
 obtain⟨P,hP⟩:=pv.rep;have gd:=pv.good;rw[hP]at fv gd;rw[(at_app _ gd).1 fl]at fv
 have e1:atL [(⟨f,(ig (trimL h s.cues s.cues.length) k:Rat),0,0⟩:QP)] ((ms:Rat)/1000)=(ig (trimL h s.cues s.cues.length) k:Rat):=by
  rw[atL,if_pos fl];unfold qv
  grind
 rw[e1]at fv;have ht:=trim_ok hok.house (fun j hj=>(hok.each j hj).1) s.cues.length (Nat.le_refl _)
 have hb:-1152921504606846976≤ig (trimL h s.cues s.cues.length) k∧ig (trimL h s.cues s.cues.length) k≤1152921504606846976:=by
  have t:=ht.2 k (by rw[ht.1];exact hk);have:=(house_set hok.house hk).1.low;have:=(house_set hok.house hk).2;have:=(houseB_iff.1 hok.house).2.2.1;omega
 have:=frq_inj (b:=(ig (trimL h s.cues s.cues.length) k,1)) vv (valid_one hb.1 hb.2) (by rw[fv,frq_one]);rw[Prod.mk.injEq]at this;exact this
end
end Go.Proofs.YtebofaenlhhkaaaGreat
