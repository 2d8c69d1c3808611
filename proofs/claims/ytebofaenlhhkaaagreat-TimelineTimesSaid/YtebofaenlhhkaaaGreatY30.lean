import Derived.Test.YtebofaenlhhkaaaGreatY29
namespace Go.Proofs.YtebofaenlhhkaaaGreat
set_option maxRecDepth 100000
set_option maxHeartbeats 80000000
set_option linter.unusedSimpArgs false
section
open Go.RowKit Go.Shelf
attribute [local go_sem] Oper.semAt_some
noncomputable def Cl(h:Ae)(s:Aq):List Int:=Dp h s.cues s.cues.length
noncomputable def Db(h:Ae)(s:Aq)(G:List Int):Int:=if Fd h s=true then(Ca s.cues s.pairs (Cl h s) G).2 else 1
noncomputable def Bv(h:Ae)(s:Aq)(G:List Int):List Int:=(Ca s.cues s.pairs (Cl h s) G).1
theorem Er{h:Ae}{s:Aq}{G:List Int}(e:Db h s G=0):Hv h s∧APn s.cues s.pairs (Cl h s) G (Bv h s G):=by
 unfold Db at e
 by_cases c:Fd h s=true
 ·rw[if_pos c]at e
  have ok:=Em.1 c;exact⟨ok,ARk e ok.cues⟩
 ·rw[if_neg c]at e;cases e
def AUp(w:World)(h:Ae)(s:Aq)(G:List Int)(sa na:Option Addr)(sn nn:Nat):Prop:=sn=s.cues.length∧nn=s.cues.length∧Bl w.heap.size w sa (Bv h s G)∧Bl w.heap.size w na (Cl h s)
theorem Iq(h:Ae)(s:Aq)(ga:Option Addr)(G:List Int)(gc:Nat)(w:World)(hh:Ax w h)(hs:Bg w s)(hG:Bl w.heap.size w ga G)(hgl:G.length≤1000):
  Calls Tryz.prog 44 #[.agg #[.string h.name,.int .i64 h.height,.slice h.sa h.sets.length h.sc,.slice h.ra h.roofs.length h.rc],.agg #[.slice s.ca s.cues.length s.cc,.slice s.pa s.pairs.length s.pc],.slice ga G.length gc] w fun e w'=>Hid (∃(ta:Option Addr) (tn tc:Nat) (sa:Option Addr) (sn sc:Nat) (na:Option Addr) (nn nc:Nat),e=.returned (.tuple #[.agg #[.slice ta tn tc,.slice sa sn sc,.slice na nn nc],.int .i64 (Db h s G)])∧(Db h s G=0→AUp w' h s G sa na sn nn))∧Below w.heap.size w w':=by
 cases hv:Fd h s
 ·refine(ARh h s ga G gc w hh hs hG hv).mono fun e w' z=>⟨lh ⟨none,0,0,none,0,0,none,0,0,z.1.trans ?_,?_⟩,z.2⟩
  ·unfold Db;rw[hv];rfl
  ·intro q;unfold Db at q;rw[hv]at q;cases q
 ·refine(ACf h s ga G gc w hh hs hG hgl hv).mono fun e w' z=>⟨?_,z.2⟩
  obtain⟨ta,tc,na,nc,sv,he,hn,ho,-⟩:=z.1.out;obtain⟨sa,sc,hsv,-,-,-,hsn⟩:=Be ho;subst hsv;refine lh ⟨ta,_,tc,sa,_,sc,na,_,nc,he.trans (by unfold Db;rw[if_pos hv];rfl),fun q=>?_⟩;have po:=Er q;exact⟨po.2.lenS,rfl,hsn,hn⟩
theorem AAj(h:Ae)(s:Aq)(ga:Option Addr)(G:List Int)(gc:Nat)(w:World)(hh:Ax w h)(hs:Bg w s)(hG:Bl w.heap.size w ga G)(hgl:G.length≤1000)(q:Db h s G=0):
  Calls Tryz.prog 44 #[.agg #[.string h.name,.int .i64 h.height,.slice h.sa h.sets.length h.sc,.slice h.ra h.roofs.length h.rc],.agg #[.slice s.ca s.cues.length s.cc,.slice s.pa s.pairs.length s.pc],.slice ga G.length gc] w fun e w'=>Hid (∃(ta:Option Addr) (tc:Nat) (sa:Option Addr) (sc:Nat) (na:Option Addr) (nc:Nat),e=.returned (.tuple #[.agg #[.slice ta (s.cues.length+1) tc,.slice sa s.cues.length sc,.slice na s.cues.length nc],.int .i64 0])∧Bl w'.heap.size w' sa (Bv h s G)∧Bl w'.heap.size w' na (Cl h s)∧(0<h.sets.length→∃P,Fi w' ta h s.cues P))∧Below w.heap.size w w':=by
 have po:=Er q;have hv:=Em.2 po.1;have e2:(Ca s.cues s.pairs (Cl h s) G).2=0:=by unfold Db at q;rwa [if_pos hv]at q
 refine(ACf h s ga G gc w hh hs hG hgl hv).mono fun e w' z=>⟨?_,z.2⟩;obtain⟨ta,tc,na,nc,sv,he,hn,ho,ht⟩:=z.1.out;obtain⟨sa,sc,hsv,-,-,-,hsn⟩:=Be ho;subst hsv;have hl:(Ca s.cues s.pairs (Dp h s.cues s.cues.length) G).1.length=s.cues.length:=po.2.lenS;rw[hl]at he;exact lh ⟨ta,tc,sa,sc,na,nc,he.trans (by rw[show(Ca s.cues s.pairs (Dp h s.cues s.cues.length) G).2=0 from e2]),hsn,hn,ht⟩
noncomputable def Ij(h:Ae)(s:Aq)(G:List Int)(n:Nat):List Int:=(List.range n).map fun i=>ig (Bv h s G) i+ig (Cl h s) i
theorem Yc(h:Ae)(s:Aq)(G:List Int)(n:Nat):Ij h s G (n+1)=Ij h s G n++[ig (Bv h s G) n+ig (Cl h s) n]:=by
 unfold Ij;rw[List.range_succ,List.map_append]
 rfl
theorem Mt(h:Ae)(s:Aq)(G:List Int)(n:Nat):(Ij h s G n).length=n:=by unfold Ij;rw[List.length_map,List.length_range]
noncomputable def Jv(h:Ae)(s:Aq)(G:List Int):List Int:=if Db h s G=0 then Ij h s G s.cues.length else[]
theorem ADh(h:Ae)(s:Aq)(ga:Option Addr)(G:List Int)(gc:Nat)(w:World)(hh:Ax w h)(hs:Bg w s)(hG:Bl w.heap.size w ga G)(hgl:G.length≤1000):
  Calls Tryz.prog 18 #[.agg #[.string h.name,.int .i64 h.height,.slice h.sa h.sets.length h.sc,.slice h.ra h.roofs.length h.rc],.agg #[.slice s.ca s.cues.length s.cc,.slice s.pa s.pairs.length s.pc],.slice ga G.length gc] w fun e w'=>Hid (∃v,e=.returned (.tuple #[v,.int .i64 (Db h s G)])∧w'.ownsRow w.heap.size 3 1 v (Jv h s G).length (Ap (Jv h s G)))∧Below w.heap.size w w':=by
 obtain⟨hb0,HX,HW⟩:=o1 hh hs hG;have HP:=lh fun (q:Db h s G=0)=>Er q;have hcl:=hs.clen;clear hh hs hG hb0;obtain⟨E,hE⟩:=nm (Db h s G)
 by_cases hz:E=0
 case neg=>
  have HE:=lh hE;have HEP:Hid (Jv h s G=[]):=lh (by unfold Jv;rw[hE,if_neg hz]);have g0:(E !=0)=true:=bne_iff_ne.2 hz;clear hz hE
  go_enter Tryz.func18,Tryz.ntmps18
  go_upto_region 1 with (fail)
  obtain⟨W0,hW0⟩:=nm ((Fo w h s):World);simp only[hW0]at HX HW⊢;clear hW0;obtain⟨B1,hB1⟩:=nm (w.heap.size);obtain⟨B2,hB2⟩:=nm (w.heap.size+1);rw[hB2]at HX⊢;rw[hB1]at HX⊢;have HBB:Hid (w.heap.size=B1):=lh hB1;clear hB1 hB2;obtain⟨⟨a0,a1,a2,a3⟩,⟨s0,s1⟩,-,-,-⟩:=HX.out _ br;have HMD:=lh (Iq h s ga G gc _ (HX.out _ br).2.2.1 (HX.out _ br).2.2.2.1 (HX.out _ br).2.2.2.2 hgl)
  go_wp2_with (go_at_call 44;go_fit HMD.out;rintro e w1 ⟨hx1,hb1⟩;obtain⟨ta,tn,tc,sa,sn,sc,na,nn,nc,rfl,hp1⟩:=hx1.out;have HP1:=lh hp1;clear hx1 hp1;rw[HE.out])
  go_ret2
  exact⟨lh ⟨.slice none 0 0,by first | rfl | (rw[HE.out];rfl),by rw[HEP.out];exact World.ownsRow_nil _ _ _ _⟩,(HW.out _ hb1).alloc (by have:=(HW.out _ hb1).size;omega) _⟩
 case pos=>
  subst hz;have HE:=lh hE;have HEP:Hid (Jv h s G=Ij h s G s.cues.length):=lh (by unfold Jv;rw[hE,if_pos rfl]);have HQ:=lh (HP.out hE);clear hE HP
  go_enter Tryz.func18,Tryz.ntmps18
  go_upto_region 1 with (fail)
  obtain⟨W0,hW0⟩:=nm ((Fo w h s):World);simp only[hW0]at HX HW⊢;clear hW0;obtain⟨B1,hB1⟩:=nm (w.heap.size);obtain⟨B2,hB2⟩:=nm (w.heap.size+1);rw[hB2]at HX⊢;rw[hB1]at HX⊢;have HBB:Hid (w.heap.size=B1):=lh hB1;clear hB1 hB2;obtain⟨⟨a0,a1,a2,a3⟩,⟨s0,s1⟩,-,-,-⟩:=HX.out _ br;have HMD:=lh (Iq h s ga G gc _ (HX.out _ br).2.2.1 (HX.out _ br).2.2.2.1 (HX.out _ br).2.2.2.2 hgl)
  go_upto_region 5 with (go_at_call 44;go_fit HMD.out;rintro e w1 ⟨hx1,hb1⟩;obtain⟨ta,tn,tc,sa,sn,sc,na,nn,nc,rfl,hp1⟩:=hx1.out;have HP1:=lh hp1;clear hx1 hp1;rw[HE.out])
  obtain⟨e1,e2,hS1,hN1⟩:=HP1.out HE.out;subst e1;subst e2;have hbx:=Aa w1 (.cells #[.slice ta tn tc,.slice sa s.cues.length sc,.slice na s.cues.length nc] 109);have hP2:=PC.put w1 (.slice ta tn tc) (.slice sa s.cues.length sc) (.slice na s.cues.length nc) 109;have hW2:=(HW.out _ hb1).alloc (by have:=(HW.out _ hb1).size;omega) (.cells #[.slice ta tn tc,.slice sa s.cues.length sc,.slice na s.cues.length nc] 109);have hX2:Hid (Below W0.heap.size W0 (w1.alloc (.cells #[.slice ta tn tc,.slice sa s.cues.length sc,.slice na s.cues.length nc] 109))):=lh (hb1.alloc hb1.size _);replace hS1:=hS1.grow hbx;replace hN1:=hN1.grow hbx;clear hbx HP1 HMD a0 a1 a2 a3 s0 s1;generalize w1.alloc (.cells #[.slice ta tn tc,.slice sa s.cues.length sc,.slice na s.cues.length nc] 109)=W2 at *;obtain⟨B8,hB8⟩:=nm (w1.heap.size);rw[hB8]at hP2⊢;clear hB8
  have HXX:Hid (∀w',Below W2.heap.size W2 w'→Below w.heap.size w w'∧PC w' B8 (.slice ta tn tc) (.slice sa s.cues.length sc) (.slice na s.cues.length nc)∧Bl w'.heap.size w' sa (Bv h s G)∧Bl w'.heap.size w' na (Cl h s)∧Bo w' B2 s∧Bg w' s):=lh fun w' z=>by
   have y:=hX2.out.trans (z.mono hX2.out.size);obtain⟨-,y2,-,y4,-⟩:=HX.out w' y;exact⟨hW2.trans (z.mono hW2.size),hP2.carry z,hS1.grow z,hN1.grow z,y2,y4⟩
  clear HX hW2 hS1 hN1 hP2 HW hX2 hb1;obtain⟨n₂,hn2⟩:=nm (W2.heap.size);rw[hn2]at HXX;have hB2:Below n₂ W2 W2:=by rw[←hn2];exact br
  have hnn:n₂≤W2.heap.size:=by omega
  have HBN:Hid (w.heap.size≤n₂):=lh (by have:=(HXX.out _ hB2).1.size;omega);clear hn2;obtain⟨-,⟨p0,p1,p2,p3,p4,p5,p6⟩,-,-,-,-⟩:=HXX.out _ hB2
  go_upto_region 6 with (fail)
  clear p0 p1 p2 p3 p4 p5 p6
  go_loopw [10,11,12,26] (fun v10 _ _ iv wr=>∃(k:Nat),iv=.int .i64 k∧k≤s.cues.length∧Below n₂ W2 wr∧n₂≤wr.heap.size∧Hid (wr.ownsRow n₂ 3 1 v10 k (Ap (Ij h s G k)))) (fun _ _ _ iv _=>s.cues.length-(intOf iv).toNat)
  case atStart=>exact⟨0,rfl,nz,hB2,hnn,lh (World.ownsRow_nil _ _ _ _)⟩
  case round=>
   clear hB2 hnn;obtain⟨k,rfl,hk,hB,hnw,HR⟩:=hrel
   by_cases hlt:k<s.cues.length
   ·obtain⟨-,⟨p0,p1,p2,p3,p4,p5,p6⟩,hS,hN,-,-⟩:=HXX.out _ hB
    have hls:k<(Bv h s G).length:=by rw[HQ.out.2.lenS];exact hlt
    have hln:k<(Cl h s).length:=by rw[HQ.out.2.lenN];exact hlt
    obtain⟨sb,so,hsa,hsb,hsx⟩:=hS (by omega);subst hsa;obtain⟨nb,no,hna,hnb,hnx⟩:=hN (by omega);subst hna;have e0:=hsx k hls;have e1:=hnx k hln;have HSN:=lh (Yc h s G k);have q1:=HQ.out.2.lens k hlt;have q2:=HQ.out.2.starts k hlt;obtain⟨x,hx⟩:=nm (ig (Bv h s G) k);obtain⟨y,hy⟩:=nm (ig (Cl h s) k);rw[hx]at e0 HSN q2;rw[hy]at e1 HSN q1;have hsum:IntKind.i64.wrap (x+y)=x+y:=by simp only[IntKind.wrap_i64];omega
    clear hS hN hsx hnx hx hy q1 q2 hls hln;have HKL:Hid ((Ij h s G k).length=k):=lh (Mt _ _ _ _);have hbx:=Aa wr (.cells #[.int .i64 (x+y)] 3);have HO8:Hid ((wr.alloc (.cells #[.int .i64 (x+y)] 3)).ownsRow n₂ 3 1 u10 (Ij h s G k).length (Ap (Ij h s G k))):=lh (by rw[HKL.out];exact Ac HR.out hbx);have hB8:=hB.alloc hnw (.cells #[.int .i64 (x+y)] 3);have hn8:n₂≤(wr.alloc (.cells #[.int .i64 (x+y)] 3)).heap.size:=by simp;omega
    have hkl:(Ij h s G k).length≤1000000:=by rw[HKL.out];omega
    have hc8:(wr.alloc (.cells #[.int .i64 (x+y)] 3)).cell? ⟨wr.heap.size,0,none⟩=some (.int .i64 (x+y)):=by simp
    clear hbx
    go_wp2_with (at_builtin;refine Fe rfl _ _ rfl n₂ _ (Ij h s G k) rfl HO8.out _ (x+y) rfl (by first | exact hc8 | (rw[hsum];exact hc8)) hkl hn8 ?_;intro v2 w8 hown8 hg8;have HO9:=lh hown8;have hB9:=hB8.grown hg8 (by omega) (fun j hj=>(HO8.out.lt _ hj).1);have hn9:=nt hn8 hg8.size;clear hown8 hg8)
    go_roundw
    case rel=>exact⟨k+1,by go_num,by omega,hB9,hn9,lh (by have:=HO9.out;rw[List.length_append,HKL.out]at this;rw[HSN.out];exact this)⟩
    case measure=>simp[intOf];omega
   ·obtain rfl:k=s.cues.length:=by omega
    go_wp2_with fail
    go_ret2
    exact⟨lh ⟨_,by first | rfl | (rw[HE.out];rfl),by rw[HEP.out,Mt];exact Bn HR.out HBN.out⟩,(HXX.out _ hB).1⟩
def APh(w:World)(base:Nat)(h:Ae)(s:Aq)(G:List Int)(v1 v2:Value):Prop:=w.ownsRow base 3 1 v1 s.cues.length (Ap (Bv h s G))∧w.ownsRow base 3 1 v2 s.cues.length (Ap (Cl h s))
theorem Jd(h:Ae)(s:Aq)(ga:Option Addr)(G:List Int)(gc:Nat)(w:World)(hh:Ax w h)(hs:Bg w s)(hG:Bl w.heap.size w ga G)(hgl:G.length≤1000):
  Calls Tryz.prog 49 #[.agg #[.string h.name,.int .i64 h.height,.slice h.sa h.sets.length h.sc,.slice h.ra h.roofs.length h.rc],.agg #[.slice s.ca s.cues.length s.cc,.slice s.pa s.pairs.length s.pc],.slice ga G.length gc] w fun e w'=>Hid (∃v1 v2,e=.returned (.tuple #[v1,v2,.int .i64 (Db h s G)])∧(Db h s G=0→APh w' w.heap.size h s G v1 v2))∧Below w.heap.size w w':=by
 obtain⟨hb0,HX,HW⟩:=o1 hh hs hG;have hcl:=hs.clen;clear hh hs hG hb0;have HC0:=lh (AHg h s (Fo w h s) (HX.out _ br).2.2.1 (HX.out _ br).2.2.2.1)
 cases hv:Fd h s
 case false=>
  have HV:=lh hv;have HE:Hid (Db h s G=1):=lh (by unfold Db;rw[hv];rfl);clear hv
  go_enter Tryz.func49,Tryz.ntmps49
  go_upto_region 1 with (fail)
  obtain⟨W0,hW0⟩:=nm ((Fo w h s):World);simp only[hW0]at HX HW HC0⊢;clear hW0;obtain⟨B1,hB1⟩:=nm (w.heap.size);obtain⟨B2,hB2⟩:=nm (w.heap.size+1);rw[hB2]at HX⊢;rw[hB1]at HX⊢;clear hB1 hB2;obtain⟨⟨a0,a1,a2,a3⟩,⟨s0,s1⟩,-,-,-⟩:=HX.out _ br
  go_wp2_with (go_at_call 82;go_fit (HC0.out);rintro e w1 ⟨rfl,hb1⟩;rw[HV.out];obtain⟨⟨t0,t1,t2,t3⟩,⟨k0,k1⟩,-,-,-⟩:=HX.out _ hb1)
  go_ret3
  exact⟨lh ⟨.slice none 0 0,.slice none 0 0,by rw[HE.out];rfl,fun q=>by rw[HE.out]at q;cases q⟩,HW.out _ hb1⟩
 have HV:=lh hv;have HNL:Hid ((Cl h s).length=s.cues.length):=lh (Mu _ _ _);have HPE:Hid (Db h s G=(Ca s.cues s.pairs (Cl h s) G).2):=lh (by unfold Db;rw[if_pos hv]);have HPP:=lh fun (z:Db h s G=0)=>(Er z).2.lenS;have HC1:Hid (∀w',Ax w' h→Bg w' s→Calls Tryz.prog 83 #[.agg #[.string h.name,.int .i64 h.height,.slice h.sa h.sets.length h.sc,.slice h.ra h.roofs.length h.rc],.agg #[.slice s.ca s.cues.length s.cc,.slice s.pa s.pairs.length s.pc]] w' fun e w2=>Hid (∃v,e=.returned v∧w2.ownsRow w'.heap.size 3 1 v s.cues.length (Ap (Cl h s)))∧Below w'.heap.size w' w2):=lh fun w' x y=>AKr h s w' x y HV.out
 have HC2:Hid (∀w' (na:Option Addr) (nc:Nat),Bg w' s→Bl w'.heap.size w' na (Cl h s)→Bl w'.heap.size w' ga G→Calls Tryz.prog 84 #[.agg #[.slice s.ca s.cues.length s.cc,.slice s.pa s.pairs.length s.pc],.slice na (Cl h s).length nc,.slice ga G.length gc] w' fun e w2=>Hid (∃v,e=.returned (.tuple #[v,.int .i64 (Ca s.cues s.pairs (Cl h s) G).2])∧w2.ownsRow w'.heap.size 3 1 v (Ca s.cues s.pairs (Cl h s) G).1.length (Ap (Ca s.cues s.pairs (Cl h s) G).1)∧Below w'.heap.size w' w2)):=lh fun w' na nc x y z=>
  Yo s.ca s.pa na ga s.cues s.pairs (Cl h s) G s.cc s.pc nc gc w' (ABf (Em.1 HV.out)) (by rw[HNL.out];omega) hgl x.lies y z
 rw[←HPE.out]at HC2;clear hv;obtain⟨E,hE⟩:=nm (Db h s G);have HE:=lh hE
 by_cases hz:E=0
 ·subst hz
  clear hE
  go_enter Tryz.func49,Tryz.ntmps49
  go_upto_region 1 with (fail)
  obtain⟨W0,hW0⟩:=nm ((Fo w h s):World);simp only[hW0]at HX HW HC0⊢;clear hW0;obtain⟨B1,hB1⟩:=nm (w.heap.size);obtain⟨B2,hB2⟩:=nm (w.heap.size+1);rw[hB2]at HX⊢;rw[hB1]at HX⊢;clear hB1 hB2;obtain⟨⟨a0,a1,a2,a3⟩,⟨s0,s1⟩,-,-,-⟩:=HX.out _ br
  go_wp2_with (first
   | (go_at_call 82;go_fit (HC0.out);rintro e w1 ⟨rfl,hb1⟩;rw[HV.out];obtain⟨⟨t0,t1,t2,t3⟩,⟨k0,k1⟩,-,-,-⟩:=HX.out _ hb1)
   | (go_at_call 83;go_fit (HC1.out _ (HX.out _ hb1).2.2.1 (HX.out _ hb1).2.2.2.1);rintro e w2 ⟨hx2,hb2⟩;obtain⟨v2,rfl,hr2⟩:=hx2.out;obtain⟨na,nc,rfl,-,-,-,hn2⟩:=Be (show w2.ownsRow w1.heap.size 3 1 v2 (Cl h s).length (Ap (Cl h s))from by rw[HNL.out];exact hr2);have HN2:=lh hn2;have HR2:=lh hr2;clear hx2 hn2 hr2;have hq2:=hb1.trans (hb2.mono hb1.size);obtain⟨-,⟨o0,o1⟩,-,-,-⟩:=HX.out _ hq2)
   | (go_at_call 84;go_fit (HC2.out _ na nc (HX.out _ hq2).2.2.2.1 HN2.out (HX.out _ hq2).2.2.2.2);rintro e w3 hx3;obtain⟨v3,rfl,hr3,hb3⟩:=hx3.out;have HR3:=lh hr3;clear hx3 hr3;have hq3:=hq2.trans (hb3.mono hq2.size);rw[HE.out]))
  go_ret3
  exact⟨lh ⟨v3,.slice na (Cl h s).length nc,by first | rfl | (rw[HE.out];rfl),fun q=>⟨by have:=Bn HR3.out (show w.heap.size≤w2.heap.size from(HW.out _ hq2).size);rw[show(Ca s.cues s.pairs (Cl h s) G).1.length=s.cues.length from HPP.out q]at this;exact this,Bn (Ac HR2.out hb3) (HW.out _ hb1).size⟩⟩,HW.out _ hq3⟩
 ·have g0:(E !=0)=true:=bne_iff_ne.2 hz
  have HZ:=lh hz;clear hE hz
  go_enter Tryz.func49,Tryz.ntmps49
  go_upto_region 1 with (fail)
  obtain⟨W0,hW0⟩:=nm ((Fo w h s):World);simp only[hW0]at HX HW HC0⊢;clear hW0;obtain⟨B1,hB1⟩:=nm (w.heap.size);obtain⟨B2,hB2⟩:=nm (w.heap.size+1);rw[hB2]at HX⊢;rw[hB1]at HX⊢;clear hB1 hB2;obtain⟨⟨a0,a1,a2,a3⟩,⟨s0,s1⟩,-,-,-⟩:=HX.out _ br
  go_wp2_with (first
   | (go_at_call 82;go_fit (HC0.out);rintro e w1 ⟨rfl,hb1⟩;rw[HV.out];obtain⟨⟨t0,t1,t2,t3⟩,⟨k0,k1⟩,-,-,-⟩:=HX.out _ hb1)
   | (go_at_call 83;go_fit (HC1.out _ (HX.out _ hb1).2.2.1 (HX.out _ hb1).2.2.2.1);rintro e w2 ⟨hx2,hb2⟩;obtain⟨v2,rfl,hr2⟩:=hx2.out;obtain⟨na,nc,rfl,-,-,-,hn2⟩:=Be (show w2.ownsRow w1.heap.size 3 1 v2 (Cl h s).length (Ap (Cl h s))from by rw[HNL.out];exact hr2);have HN2:=lh hn2;have HR2:=lh hr2;clear hx2 hn2 hr2;have hq2:=hb1.trans (hb2.mono hb1.size);obtain⟨-,⟨o0,o1⟩,-,-,-⟩:=HX.out _ hq2)
   | (go_at_call 84;go_fit (HC2.out _ na nc (HX.out _ hq2).2.2.2.1 HN2.out (HX.out _ hq2).2.2.2.2);rintro e w3 hx3;obtain⟨v3,rfl,hr3,hb3⟩:=hx3.out;have HR3:=lh hr3;clear hx3 hr3;have hq3:=hq2.trans (hb3.mono hq2.size);rw[HE.out]))
  go_ret3
  exact⟨lh ⟨.slice none 0 0,.slice none 0 0,by first | rfl | (rw[HE.out];rfl),fun q=>absurd (HE.out.symm.trans q) HZ.out⟩,HW.out _ hq3⟩
end
section
open Go.RowKit Go.Shelf
/-! ### Slices of api.Begin -/

def Pq(L:List (ByteArray×Int))(i:Nat):ByteArray×Int:=(L[i]?).getD (⟨#[]⟩,0)
theorem AMq(L:List (ByteArray×Int))(i:Nat)(h:i<L.length):Pq L i=L[i]:=by unfold Pq;rw[List.getElem?_eq_getElem h];rfl
theorem AQi(F1 F2:List (ByteArray×Int))(hl:F1.length=F2.length)(h:∀j,j<F1.length→Pq F1 j=Pq F2 j):F1=F2:=by
 refine List.ext_getElem hl fun i h1 h2=>?_;have:=h i h1
 rwa [AMq F1 i h1,AMq F2 i h2]at this
def Ed(L:List (ByteArray×Int)):List Value:=L.flatMap fun r=>[.string r.1,.int .i64 r.2]
theorem AFo(L:List (ByteArray×Int))(i:Nat)(hi:i<L.length):(Ed L)[i*2]? =some (.string (Pq L i).1)∧(Ed L)[i*2+1]? =some (.int .i64 (Pq L i).2):=by
 induction L generalizing i with
 | nil=>simp at hi
 | cons x r ih=>
  match i with
  | 0=>exact⟨rfl,rfl⟩
  | i+1=>
   have:=ih i (by simpa using hi);have e:Ed (x::r)=.string x.1::.int .i64 x.2::Ed r:=rfl;rw[e,show(i+1)*2=i*2+1+1 by omega]
   simpa[Pq]using this
theorem Sd(L:List (ByteArray×Int))(r:ByteArray×Int):Ed (L++[r])=Ed L++[.string r.1,.int .i64 r.2]:=by simp[Ed]
def Ki(n₀:Nat)(w:World)(a:Option Addr)(L:List (ByteArray×Int)):Prop:=
 0<L.length→∃b off,a=some ⟨b,off,none⟩∧b<n₀∧∀i,i<L.length→w.cell? ⟨b,off+i*2,none⟩=some (.string (Pq L i).1)∧w.cell? ⟨b,off+i*2+1,none⟩=some (.int .i64 (Pq L i).2)
theorem Ki.below{n₀:Nat}{w w':World}{a:Option Addr}{L:List (ByteArray×Int)}(h:Ki n₀ w a L)(hb:Below n₀ w w'):Ki n₀ w' a L:=fun hl=>by
 obtain⟨b,off,rfl,hlt,hc⟩:=h hl;refine⟨b,off,rfl,hlt,fun i hi=>?_⟩;obtain⟨c0,c1⟩:=hc i hi;exact⟨ct hb c0 hlt,ct hb c1 hlt⟩
theorem Ki.mono{n₀ n₁:Nat}{w:World}{a:Option Addr}{L:List (ByteArray×Int)}(h:Ki n₀ w a L)(hn:n₀≤n₁):Ki n₁ w a L:=fun hl=>by
 obtain⟨b,off,rfl,hlt,hc⟩:=h hl;exact⟨b,off,rfl,by omega,hc⟩
theorem Ki.grow{w w':World}{a:Option Addr}{L:List (ByteArray×Int)}(h:Ki w.heap.size w a L)(hb:Below w.heap.size w w'):Ki w'.heap.size w' a L:=(h.below hb).mono hb.size
theorem Ki.nil{n₀:Nat}{w:World}{a:Option Addr}:Ki n₀ w a []:=fun h=>absurd h (Nat.not_lt_zero _)
theorem Ki.take{n₀:Nat}{w:World}{a:Option Addr}{L:List (ByteArray×Int)}(h:Ki n₀ w a L)(n:Nat):Ki n₀ w a (L.take n):=fun hl=>by
 have hl':0<L.length:=by rw[List.length_take]at hl;omega
 obtain⟨b,off,rfl,hlt,hc⟩:=h hl';refine⟨b,off,rfl,hlt,fun i hi=>?_⟩;rw[List.length_take]at hi;have e:Pq (L.take n) i=Pq L i:=by unfold Pq;rw[List.getElem?_take,if_pos (by omega)]
 rw[e];exact hc i (by omega)
theorem ARl(L:List (ByteArray×Int)):(Ed L).length=L.length*2:=by
 induction L with
 | nil=>rfl
 | cons x r ih=>
  have e:Ed (x::r)=.string x.1::.int .i64 x.2::Ed r:=rfl;rw[e];simp only[List.length_cons,ih]
  try omega
theorem Nd{w:World}{base:Nat}{v:Value}{L:List (ByteArray×Int)}(h:w.ownsRow base 70 2 v L.length (Ed L)):∃a cap,v=.slice a L.length cap∧L.length≤cap∧cap≤maxLen∧(a=none→cap=0)∧Ki w.heap.size w a L:=by
 rcases h.2 with ⟨rfl,h0⟩ | ⟨g,cap,cur,rfl,hb,hg,h1,h2,_⟩
 ·exact⟨none,0,by rw[h0],by omega,by unfold maxLen;omega,fun _=>rfl,fun hl=>by omega⟩
 ·refine⟨_,cap,rfl,h1,h2,(fun e=>by cases e),fun _=>⟨g,0,rfl,(Array.getElem?_eq_some_iff.1 hg).1,fun i hi=>?_⟩⟩
  obtain⟨f0,f1⟩:=AFo L i hi;have c0:=h.cellAt (i*2) (by omega);have c1:=h.cellAt (i*2+1) (by omega);rw[f0]at c0;rw[f1]at c1;rw[Nat.zero_add];exact⟨c0,c1⟩
theorem ADl:(Tryz.prog.info? 70).map (fun i=>(i.zero,i.size,i.bytes))=some (some (.agg #[.string ⟨#[]⟩,.int .i64 0]),2,24):=by kernel_rfl
end
section
open Go.RowKit Go.Shelf
attribute [local go_sem] Oper.semAt_some
noncomputable def Jt(h:Ae)(s:Aq)(G:List Int)(n:Nat):List (ByteArray×Int):=(List.range n).map fun i=>((cg s.cues i).name,ig (Bv h s G) i)
theorem Wn(h:Ae)(s:Aq)(G:List Int)(n:Nat):Jt h s G (n+1)=Jt h s G n++[((cg s.cues n).name,ig (Bv h s G) n)]:=by
 unfold Jt;rw[List.range_succ,List.map_append]
 rfl
theorem Mp(h:Ae)(s:Aq)(G:List Int)(n:Nat):(Jt h s G n).length=n:=by unfold Jt;rw[List.length_map,List.length_range]
noncomputable def Jo(h:Ae)(s:Aq)(G:List Int):List (ByteArray×Int):=if Db h s G=0 then Jt h s G s.cues.length else[]
theorem Qq(w:World)(a b:Value)(t:TypeId):∀j u,[a,b][j]? =some u→(w.alloc (.cells #[a,b] t)).cell? ((⟨w.heap.size,0,none⟩:Addr).add j)=some u:=fun j u h=>by
 rw[Go.WideShapes.add_plain,Nat.zero_add]
 match j,h with
 | 0,h=>simp at h;subst h;simp
 | 1,h=>simp at h;subst h;simp
theorem AEg{w w':World}{B:Nat}{q:An}{row:Option Nat}(h:Cx w B q)(hg:w.grownBy w' row)(hne:some B≠row):Cx w' B q:=by
 have hlt:B<w.heap.size:=wl h.1;obtain⟨a0,a1,a2,a3,a4,a5,a6⟩:=h;exact⟨(hg.cell_far ⟨B,0,none⟩ hlt hne).trans a0,(hg.cell_far ⟨B,1,none⟩ hlt hne).trans a1,(hg.cell_far ⟨B,2,none⟩ hlt hne).trans a2,(hg.cell_far ⟨B,3,none⟩ hlt hne).trans a3,(hg.cell_far ⟨B,4,none⟩ hlt hne).trans a4,(hg.cell_far ⟨B,5,none⟩ hlt hne).trans a5,(hg.cell_far ⟨B,6,none⟩ hlt hne).trans a6⟩
theorem Vs(h:Ae)(s:Aq)(ga:Option Addr)(G:List Int)(gc:Nat)(w:World)(hh:Ax w h)(hs:Bg w s)(hG:Bl w.heap.size w ga G)(hgl:G.length≤1000):
  Calls Tryz.prog 24 #[.agg #[.string h.name,.int .i64 h.height,.slice h.sa h.sets.length h.sc,.slice h.ra h.roofs.length h.rc],.agg #[.slice s.ca s.cues.length s.cc,.slice s.pa s.pairs.length s.pc],.slice ga G.length gc] w fun e w'=>Hid (∃v,e=.returned (.tuple #[v,.int .i64 (Db h s G)])∧w'.ownsRow w.heap.size 70 2 v (Jo h s G).length (Ed (Jo h s G)))∧Below w.heap.size w w':=by
 obtain⟨hb0,HX,HW⟩:=o1 hh hs hG;have HP:=lh fun (q:Db h s G=0)=>Er q;have hcl:=hs.clen;clear hh hs hG hb0;obtain⟨E,hE⟩:=nm (Db h s G)
 by_cases hz:E=0
 case neg=>
  have HE:=lh hE;have HEP:Hid (Jo h s G=[]):=lh (by unfold Jo;rw[hE,if_neg hz]);have g0:(E !=0)=true:=bne_iff_ne.2 hz;clear hz hE
  go_enter Tryz.func24,Tryz.ntmps24
  go_upto_region 1 with (fail)
  obtain⟨W0,hW0⟩:=nm ((Fo w h s):World);simp only[hW0]at HX HW⊢;clear hW0;obtain⟨B1,hB1⟩:=nm (w.heap.size);obtain⟨B2,hB2⟩:=nm (w.heap.size+1);rw[hB2]at HX⊢;rw[hB1]at HX⊢;have HBB:Hid (w.heap.size=B1):=lh hB1;clear hB1 hB2;obtain⟨⟨a0,a1,a2,a3⟩,⟨s0,s1⟩,-,-,-⟩:=HX.out _ br;have HMD:=lh (Iq h s ga G gc _ (HX.out _ br).2.2.1 (HX.out _ br).2.2.2.1 (HX.out _ br).2.2.2.2 hgl)
  go_wp2_with (go_at_call 44;go_fit HMD.out;rintro e w1 ⟨hx1,hb1⟩;obtain⟨ta,tn,tc,sa,sn,sc,na,nn,nc,rfl,hp1⟩:=hx1.out;have HP1:=lh hp1;clear hx1 hp1;rw[HE.out])
  go_ret2
  exact⟨lh ⟨.slice none 0 0,by first | rfl | (rw[HE.out];rfl),by rw[HEP.out];exact World.ownsRow_nil _ _ _ _⟩,(HW.out _ hb1).alloc (by have:=(HW.out _ hb1).size;omega) _⟩
 case pos=>
  subst hz;have HE:=lh hE;have HEP:Hid (Jo h s G=Jt h s G s.cues.length):=lh (by unfold Jo;rw[hE,if_pos rfl]);have HQ:=lh (HP.out hE);clear hE HP;obtain⟨i0,hi,hz0,hz1,hz2⟩:=info_parts ADl;have HI:=lh (And.intro hi (And.intro hz0 (And.intro hz1 hz2)));clear hi hz0 hz1 hz2
  go_enter Tryz.func24,Tryz.ntmps24
  go_upto_region 1 with (fail)
  obtain⟨W0,hW0⟩:=nm ((Fo w h s):World);simp only[hW0]at HX HW⊢;clear hW0;obtain⟨B1,hB1⟩:=nm (w.heap.size);obtain⟨B2,hB2⟩:=nm (w.heap.size+1);rw[hB2]at HX⊢;rw[hB1]at HX⊢;have HBB:Hid (w.heap.size=B1):=lh hB1;clear hB1 hB2;obtain⟨⟨a0,a1,a2,a3⟩,⟨s0,s1⟩,-,-,-⟩:=HX.out _ br;have HMD:=lh (Iq h s ga G gc _ (HX.out _ br).2.2.1 (HX.out _ br).2.2.2.1 (HX.out _ br).2.2.2.2 hgl);obtain⟨ca,hca⟩:=nm (s.ca);have HCA:=lh hca;rw[hca]at s0 HMD⊢;clear hca
  go_upto_region 5 with (go_at_call 44;go_fit HMD.out;rintro e w1 ⟨hx1,hb1⟩;obtain⟨ta,tn,tc,sa,sn,sc,na,nn,nc,rfl,hp1⟩:=hx1.out;have HP1:=lh hp1;clear hx1 hp1;rw[HE.out])
  obtain⟨e1,e2,hS1,hN1⟩:=HP1.out HE.out;subst e1;subst e2;have hbx:=Aa w1 (.cells #[.slice ta tn tc,.slice sa s.cues.length sc,.slice na s.cues.length nc] 109);have hP2:=PC.put w1 (.slice ta tn tc) (.slice sa s.cues.length sc) (.slice na s.cues.length nc) 109;have hW2:=(HW.out _ hb1).alloc (by have:=(HW.out _ hb1).size;omega) (.cells #[.slice ta tn tc,.slice sa s.cues.length sc,.slice na s.cues.length nc] 109);have hX2:Hid (Below W0.heap.size W0 (w1.alloc (.cells #[.slice ta tn tc,.slice sa s.cues.length sc,.slice na s.cues.length nc] 109))):=lh (hb1.alloc hb1.size _);replace hS1:=hS1.grow hbx;replace hN1:=hN1.grow hbx;clear hbx HP1 HMD a0 a1 a2 a3 s0 s1;generalize w1.alloc (.cells #[.slice ta tn tc,.slice sa s.cues.length sc,.slice na s.cues.length nc] 109)=W2 at *;obtain⟨B8,hB8⟩:=nm (w1.heap.size);rw[hB8]at hP2⊢;clear hB8
  have HXX:Hid (∀w',Below W2.heap.size W2 w'→Below w.heap.size w w'∧PC w' B8 (.slice ta tn tc) (.slice sa s.cues.length sc) (.slice na s.cues.length nc)∧Bl w'.heap.size w' sa (Bv h s G)∧Bl w'.heap.size w' na (Cl h s)∧Bo w' B2 s∧Bg w' s):=lh fun w' z=>by
   have y:=hX2.out.trans (z.mono hX2.out.size);obtain⟨-,y2,-,y4,-⟩:=HX.out w' y;exact⟨hW2.trans (z.mono hW2.size),hP2.carry z,hS1.grow z,hN1.grow z,y2,y4⟩
  clear HX hW2 hS1 hN1 hP2 HW hX2 hb1;obtain⟨n₂,hn2⟩:=nm (W2.heap.size);rw[hn2]at HXX;have hB2:Below n₂ W2 W2:=by rw[←hn2];exact br
  have hnn:n₂≤W2.heap.size:=by omega
  have HBN:Hid (w.heap.size≤n₂):=lh (by have:=(HXX.out _ hB2).1.size;omega);clear hn2;obtain⟨-,-,-,-,⟨s0,s1⟩,-⟩:=HXX.out _ hB2;rw[HCA.out]at s0
  go_upto_region 6 with (fail)
  clear s0 s1
  go_loopw [10,11,12,26] (fun v10 _ _ iv wr=>∃(k:Nat),iv=.int .i64 k∧k≤s.cues.length∧Below n₂ W2 wr∧n₂≤wr.heap.size∧Hid (wr.ownsRow n₂ 70 2 v10 k (Ed (Jt h s G k)))) (fun _ _ _ iv _=>s.cues.length-(intOf iv).toNat)
  case atStart=>exact⟨0,rfl,nz,hB2,hnn,lh (World.ownsRow_nil _ _ _ _)⟩
  case round=>
   clear hB2 hnn;obtain⟨k,rfl,hk,hB,hnw,HR⟩:=hrel
   by_cases hlt:k<s.cues.length
   ·obtain⟨-,-,hS,-,-,hsi⟩:=HXX.out _ hB
    obtain⟨b,off,ha,hb,hc⟩:=hsi.lies (by omega);rw[HCA.out]at ha;subst ha;obtain⟨d0,d1,d2,d3,d4,d5,d6⟩:=hc k hlt;have hls:k<(Bv h s G).length:=by rw[HQ.out.2.lenS];exact hlt
    obtain⟨sb,so,hsa,hsb,hsx⟩:=hS (by omega);subst hsa;have HSN:=lh (Wn h s G k);obtain⟨q,hq⟩:=nm (cg s.cues k);rw[hq]at d0 d1 d2 d3 d4 d5 d6 HSN;obtain⟨x,hx⟩:=nm (ig (Bv h s G) k);rw[hx]at HSN;have HX5:=lh hx;clear hS hsi hc hsx hq hx;have HKL:Hid ((Jt h s G k).length=k):=lh (Mp _ _ _ _);have hB3:=hB.alloc hnw (Eu q);have hbn:=Aa wr (Eu q);have HC3:=Cx.new wr q 86 _ rfl;have hn3:n₂+1≤(wr.alloc (Eu q)).heap.size:=by simp;omega
    have HR3:=lh (Ac HR.out hbn);have HNE:Hid (u10.ownBlock≠some wr.heap.size):=lh fun e=>by have:=(HR.out.lt _ e).2;omega
    go_upto_region 8 with (fail)
    clear d0 d1 d2 d3 d4 d5 d6 HR hbn hB hnw hb;generalize wr.alloc (Eu q)=W3 at *;obtain⟨B12,hB12⟩:=nm (wr.heap.size);rw[hB12]at HC3 HNE⊢;clear hB12;have HHQ:Fp n₂ W2 B12 q W3:=⟨hB3,hn3,HC3⟩;have HOd:=lh (Ac HR3.out (Cm W3));have x1:∀w',Fp n₂ W2 B12 q w'→w'.cell? ⟨B8,1,none⟩=some (.slice (some ⟨sb,so,none⟩) s.cues.length sc):=fun w' z=>(HXX.out w' z.old).2.1.2.1
    have x2:∀w',Fp n₂ W2 B12 q w'→w'.cell? ⟨sb,so+k,none⟩=some (.int .i64 x):=fun w' z=>by
     obtain⟨tb',tf',e,_,ex⟩:=(HXX.out w' z.old).2.2.1 (by omega)
     cases e
     have:=ex k hls;rw[HX5.out]at this;exact this
    have c0:∀w',Fp n₂ W2 B12 q w'→w'.cell? ⟨B12,0,none⟩=some (.string q.name):=fun w' z=>z.cu.1;refine wp_region_held_drew (S:=(Fp n₂ W2 B12 q)) (by kernel_rfl) (HHQ.next (Cm W3)) (fun hHeld=>?_);obtain⟨W5,hW5⟩:=nm (W3.drew);simp only[hW5]at hHeld HOd⊢;clear hW5;refine tk 0 ?_;refine tk 1 ?_;refine tk 2 ?_;refine tk 3 ?_;refine tk 4 ?_;refine tk 5 ?_;refine tk 6 ?_;refine tk 7 ?_;refine tk 8 ?_;clear x1 x2 c0;refine r1 9 (fun K hK=>?_);rw[if_pos (by rfl)]
    go_wp2_with fail
    have hHN:=hHeld.next (Aa W5 (.cells #[.string q.name,.int .i64 x] 70));have HO6:=lh (Ac HOd.out (Aa W5 (.cells #[.string q.name,.int .i64 x] 70)));refine hK.out _ _ hHN (fun hHeld=>?_);clear hK K
    try simp only[Act.put,Co,Cp,Cn,Ba,Bc,Az]
    refine r1 10 (fun K hK=>?_);refine step_append_lies _ rfl (.tmp 31) (.tmp 40) 66 rfl n₂ 70 i0 (.agg #[.string ⟨#[]⟩,.int .i64 0]) 2 24 Tryz.underlying66 HI.out.1 HI.out.2.1 HI.out.2.2.1 HI.out.2.2.2 rfl (by decide) u10 k (Ed (Jt h s G k)) ?_ HO6.out ⟨W5.heap.size,0,none⟩ 1 1 [.string q.name,.int .i64 x] ?_ rfl (Qq W5 _ _ _) ?_ (by omega) ?_ ?_ ?_ _ rfl ?_
    ·simp[Act.eval]
    ·simp[Act.eval]
    ·simp[Value.oneCell']
    ·unfold maxLen;omega
    ·omega
    ·have:=hHN.lo;omega
    intro g7 cap7 w7 hown7 hgr7 hat7 hg7;clear hat7;have hS7:Fp n₂ W2 B12 q w7:=⟨hHN.old.grown hgr7 (by have:=hHN.lo;omega) (fun j hj=>(HO6.out.lt _ hj).1),nt hHN.lo hgr7.size,AEg hHN.cu hgr7 (fun e=>HNE.out e.symm)⟩;have HO7:=lh hown7;clear hown7 hgr7 hg7;refine hK.out _ _ hS7 (fun hHeld=>?_);clear hK K
    try simp only[Act.put,Co,Cp,Cn,Ba,Bc,Az]
    refine tk 11 ?_;refine wpAnyH_done (by kernel_rfl) ?_ _;have hB9:=hS7.old;have hn9:n₂≤w7.heap.size:=by have:=hS7.lo;omega
    go_wp2_with fail
    go_roundw
    case rel=>exact⟨k+1,by go_num,by omega,hB9,hn9,lh (by rw[HSN.out,Sd];exact HO7.out)⟩
    case measure=>simp[intOf];omega
   ·obtain rfl:k=s.cues.length:=by omega
    go_wp2_with fail
    go_ret2
    exact⟨lh ⟨_,by first | rfl | (rw[HE.out];rfl),by rw[HEP.out,Mp];exact Bn HR.out HBN.out⟩,(HXX.out _ hB).1⟩
structure Js(n:Nat)(W w:World):Prop where
 old:Below n W w
 lo:n≤w.heap.size
theorem Js.next{n:Nat}{W w w':World}(h:Js n W w)(hb:Below w.heap.size w w'):Js n W w':=⟨h.old.trans (hb.mono h.lo),nt h.lo hb.size⟩
theorem AEp(h:Ae)(s:Aq)(ga:Option Addr)(G:List Int)(gc:Nat)(w:World)(hh:Ax w h)(hs:Bg w s)(hG:Bl w.heap.size w ga G)(hgl:G.length≤1000):
  Calls Tryz.prog 26 #[.agg #[.string h.name,.int .i64 h.height,.slice h.sa h.sets.length h.sc,.slice h.ra h.roofs.length h.rc],.agg #[.slice s.ca s.cues.length s.cc,.slice s.pa s.pairs.length s.pc],.slice ga G.length gc] w fun e w'=>Hid (∃v,e=.returned (.tuple #[v,.int .i64 (Db h s G)])∧w'.ownsRow w.heap.size 70 2 v (Jo h s G).length (Ed (Jo h s G)))∧Below w.heap.size w w':=by
 obtain⟨hb0,HX,HW⟩:=o1 hh hs hG;have HP:=lh fun (q:Db h s G=0)=>Er q;have hcl:=hs.clen;clear hh hs hG hb0;obtain⟨E,hE⟩:=nm (Db h s G)
 by_cases hz:E=0
 case neg=>
  have HE:=lh hE;have HEP:Hid (Jo h s G=[]):=lh (by unfold Jo;rw[hE,if_neg hz]);have g0:(E !=0)=true:=bne_iff_ne.2 hz;clear hz hE
  go_enter Tryz.func26,Tryz.ntmps26
  go_upto_region 1 with (fail)
  obtain⟨W0,hW0⟩:=nm ((Fo w h s):World);simp only[hW0]at HX HW⊢;clear hW0;obtain⟨B1,hB1⟩:=nm (w.heap.size);obtain⟨B2,hB2⟩:=nm (w.heap.size+1);rw[hB2]at HX⊢;rw[hB1]at HX⊢;have HBB:Hid (w.heap.size=B1):=lh hB1;clear hB1 hB2;obtain⟨⟨a0,a1,a2,a3⟩,⟨s0,s1⟩,-,-,-⟩:=HX.out _ br;have HRP:=lh (Jd h s ga G gc _ (HX.out _ br).2.2.1 (HX.out _ br).2.2.2.1 (HX.out _ br).2.2.2.2 hgl)
  go_wp2_with (go_at_call 49;go_fit HRP.out;rintro e w1 ⟨hx1,hb1⟩;obtain⟨v1,v2,rfl,hp1⟩:=hx1.out;have HP1:=lh hp1;clear hx1 hp1;rw[HE.out])
  go_ret2
  exact⟨lh ⟨.slice none 0 0,by first | rfl | (rw[HE.out];rfl),by rw[HEP.out];exact World.ownsRow_nil _ _ _ _⟩,HW.out _ hb1⟩
 case pos=>
  subst hz;have HE:=lh hE;have HEP:Hid (Jo h s G=Jt h s G s.cues.length):=lh (by unfold Jo;rw[hE,if_pos rfl]);have HQ:=lh (HP.out hE);clear hE HP;obtain⟨i0,hi,hz0,hz1,hz2⟩:=info_parts ADl;have HI:=lh (And.intro hi (And.intro hz0 (And.intro hz1 hz2)));clear hi hz0 hz1 hz2
  go_enter Tryz.func26,Tryz.ntmps26
  go_upto_region 1 with (fail)
  obtain⟨W0,hW0⟩:=nm ((Fo w h s):World);simp only[hW0]at HX HW⊢;clear hW0;obtain⟨B1,hB1⟩:=nm (w.heap.size);obtain⟨B2,hB2⟩:=nm (w.heap.size+1);rw[hB2]at HX⊢;rw[hB1]at HX⊢;have HBB:Hid (w.heap.size=B1):=lh hB1;clear hB1 hB2;obtain⟨⟨a0,a1,a2,a3⟩,⟨s0,s1⟩,-,-,-⟩:=HX.out _ br;have HRP:=lh (Jd h s ga G gc _ (HX.out _ br).2.2.1 (HX.out _ br).2.2.2.1 (HX.out _ br).2.2.2.2 hgl);obtain⟨ca,hca⟩:=nm (s.ca);have HCA:=lh hca;rw[hca]at s0 HRP⊢;clear hca
  go_upto_region 6 with (go_at_call 49;go_fit HRP.out;rintro e w1 ⟨hx1,hb1⟩;obtain⟨v1,v2,rfl,hp1⟩:=hx1.out;have HP1:=lh hp1;clear hx1 hp1;rw[HE.out])
  obtain⟨hr1,hr2⟩:=HP1.out HE.out;have ls:=HQ.out.2.lenS;have ln:=HQ.out.2.lenN;obtain⟨sa,sc,es,-,-,-,hS⟩:=Be (L:=Bv h s G) (by rw[ls];exact hr1);obtain⟨na,nc,en,-,-,-,hN⟩:=Be (L:=Cl h s) (by rw[ln];exact hr2);rw[ls]at es;rw[ln]at en;subst es;subst en
  have HXX:Hid (∀w',Below w1.heap.size w1 w'→Below w.heap.size w w'∧Bo w' B2 s∧Bg w' s∧Bl w'.heap.size w' sa (Bv h s G)∧Bl w'.heap.size w' na (Cl h s)):=lh fun w' z=>by
   have y:=hb1.trans (z.mono hb1.size);exact⟨HW.out w' y,(HX.out w' y).2.1,(HX.out w' y).2.2.2.1,hS.grow z,hN.grow z⟩
  clear hr1 hr2 hS hN HP1 HX HW HRP a0 a1 a2 a3 s0 s1;generalize w1=W2 at *;obtain⟨n₂,hn2⟩:=nm (W2.heap.size);rw[hn2]at HXX;have hB2:Below n₂ W2 W2:=by rw[←hn2];exact br
  have hnn:n₂≤W2.heap.size:=by omega
  have HBN:Hid (w.heap.size≤n₂):=lh (by have:=(HXX.out _ hB2).1.size;omega);clear hn2 hb1 ls ln
  go_loopw [11,12] (fun v11 iv wr=>∃(k:Nat),iv=.int .i64 k∧k≤s.cues.length∧Below n₂ W2 wr∧n₂≤wr.heap.size∧Hid (wr.ownsRow n₂ 70 2 v11 k (Ed (Jt h s G k)))) (fun _ iv _=>s.cues.length-(intOf iv).toNat)
  case atStart=>exact⟨0,rfl,nz,hB2,hnn,lh (World.ownsRow_nil _ _ _ _)⟩
  case round=>
   clear hB2 hnn;obtain⟨k,rfl,hk,hB,hnw,HR⟩:=hrel
   by_cases hlt:k<s.cues.length
   ·obtain⟨-,-,hsi,hS,hN⟩:=HXX.out _ hB
    obtain⟨b,off,ha,-,-⟩:=hsi.lies (by omega);rw[HCA.out]at ha;subst ha;have hls:k<(Bv h s G).length:=by rw[HQ.out.2.lenS];exact hlt
    have hln:k<(Cl h s).length:=by rw[HQ.out.2.lenN];exact hlt
    obtain⟨sb,so,hsa,-,-⟩:=hS (by omega);subst hsa;obtain⟨nb,no,hna,-,-⟩:=hN (by omega);subst hna;have q1:=HQ.out.2.lens k hlt;have q2:=HQ.out.2.starts k hlt;obtain⟨q,hq⟩:=nm (cg s.cues k);obtain⟨x,hx⟩:=nm (ig (Bv h s G) k);obtain⟨y,hy⟩:=nm (ig (Cl h s) k);rw[hx]at q2;rw[hy]at q1;have hsum:IntKind.i64.wrap (x+y)=x+y:=IntWalk.i64_in _ (by omega);have HQX:=lh (And.intro hq (And.intro hx hy))
    have HC:Hid (∀w',Below n₂ W2 w'→w'.cell? ⟨B2,0,none⟩=some (.slice (some ⟨b,off,none⟩) s.cues.length s.cc)∧w'.cell? ⟨b,off+k*7,none⟩=some (.string q.name)∧w'.cell? ⟨sb,so+k,none⟩=some (.int .i64 x)∧w'.cell? ⟨nb,no+k,none⟩=some (.int .i64 y)):=lh fun w' z=>by
     obtain⟨-,hsa,hsi,hS,hN⟩:=HXX.out _ z;obtain⟨b',o',e,-,ec⟩:=hsi.lies (by omega);rw[HCA.out]at e
     cases e
     obtain⟨b',o',e,-,es⟩:=hS (by omega)
     cases e
     obtain⟨b',o',e,-,en⟩:=hN (by omega)
     cases e
     have c1:=(ec k hlt).1;have c2:=es k hls;have c3:=en k hln;have c0:=hsa.1;rw[HQX.out.1]at c1;rw[HQX.out.2.1]at c2;rw[HQX.out.2.2]at c3;rw[HCA.out]at c0;exact⟨c0,c1,c2,c3⟩
    clear hq hx hy q1 q2 hS hN hsi;have HSN:Hid (Jt h s G (k+1)=Jt h s G k++[(q.name,x)]):=lh (by rw[Wn,HQX.out.1,HQX.out.2.1]);have HKL:Hid ((Jt h s G k).length=k):=lh (Mp _ _ _ _)
    go_upto_region 8 with (fail)
    have hD:Js n₂ W2 wr.drew:=⟨hB.trans ((Cm wr).mono hnw),hnw⟩;have HOd:=lh (Ac HR.out (Cm wr));have c0:∀w',Js n₂ W2 w'→w'.cell? ⟨B2,0,none⟩=some (.slice (some ⟨b,off,none⟩) s.cues.length s.cc):=fun w' z=>(HC.out w' z.old).1;have c1:∀w',Js n₂ W2 w'→w'.cell? ⟨b,off+k*7,none⟩=some (.string q.name):=fun w' z=>(HC.out w' z.old).2.1;have c2:∀w',Js n₂ W2 w'→w'.cell? ⟨sb,so+k,none⟩=some (.int .i64 x):=fun w' z=>(HC.out w' z.old).2.2.1;have c3:∀w',Js n₂ W2 w'→w'.cell? ⟨nb,no+k,none⟩=some (.int .i64 y):=fun w' z=>(HC.out w' z.old).2.2.2;refine wp_region_held_drew (S:=Js n₂ W2) (by kernel_rfl) hD (fun hHeld=>?_);obtain⟨W5,hW5⟩:=nm (wr.drew);simp only[hW5]at hHeld HOd hD⊢;clear hW5 hB hnw HR;refine tk 0 ?_;refine tk 1 ?_;refine tk 2 ?_;refine tk 3 ?_;refine tk 4 ?_;refine tk 5 ?_;refine tk 6 ?_;refine tk 7 ?_;refine tk 8 ?_;refine tk 9 ?_;refine tk 10 ?_;refine tk 11 ?_;clear c0 c1 c2 c3;refine r1 12 (fun K hK=>?_);rw[if_pos (by rfl)]
    go_wp2_with fail
    have hHN:=hHeld.next (Aa W5 (.cells #[.string q.name,.int .i64 x] 70));have HO6:=lh (Ac HOd.out (Aa W5 (.cells #[.string q.name,.int .i64 x] 70)));refine hK.out _ _ hHN (fun hHeld=>?_);clear hK K
    try simp only[Act.put,Co,Cp,Cn,Ba,Bc,Az]
    refine r1 13 (fun K hK=>?_);refine step_append_lies _ rfl (.tmp 30) (.tmp 42) 66 rfl n₂ 70 i0 (.agg #[.string ⟨#[]⟩,.int .i64 0]) 2 24 Tryz.underlying66 HI.out.1 HI.out.2.1 HI.out.2.2.1 HI.out.2.2.2 rfl (by decide) u11 k (Ed (Jt h s G k)) ?_ HO6.out ⟨W5.heap.size,0,none⟩ 1 1 [.string q.name,.int .i64 x] ?_ rfl (Qq W5 _ _ _) ?_ (by omega) ?_ ?_ ?_ _ rfl ?_
    ·simp[Act.eval]
    ·simp[Act.eval]
    ·simp[Value.oneCell']
    ·unfold maxLen;omega
    ·omega
    ·have:=hHN.lo;omega
    intro g7 cap7 w7 hown7 hgr7 hat7 hg7;clear hat7;have hS7:Js n₂ W2 w7:=⟨hHN.old.grown hgr7 (by have:=hHN.lo;omega) (fun j hj=>(HO6.out.lt _ hj).1),nt hHN.lo hgr7.size⟩;have HO7:=lh hown7;clear hown7 hgr7 hg7;refine hK.out _ _ hS7 (fun hHeld=>?_);clear hK K
    try simp only[Act.put,Co,Cp,Cn,Ba,Bc,Az]
    refine tk 14 ?_;refine wpAnyH_done (by kernel_rfl) ?_ _;have hB9:=hS7.old;have hn9:=hS7.lo
    go_wp2_with fail
    go_roundw
    case rel=>exact⟨k+1,by go_num,by omega,hB9,hn9,lh (by rw[HSN.out,Sd];exact HO7.out)⟩
    case measure=>simp[intOf];omega
   ·obtain rfl:k=s.cues.length:=by omega
    go_wp2_with fail
    go_ret2
    exact⟨lh ⟨_,by first | rfl | (rw[HE.out];rfl),by rw[HEP.out,Mp];exact Bn HR.out HBN.out⟩,(HXX.out _ hB).1⟩
theorem AJr(h:Ae)(s:Aq)(ga:Option Addr)(G:List Int)(gc:Nat)(w:World)(hh:Ax w h)(hs:Bg w s)(hG:Bl w.heap.size w ga G)(hgl:G.length≤1000):
  Calls Tryz.prog 27 #[.agg #[.string h.name,.int .i64 h.height,.slice h.sa h.sets.length h.sc,.slice h.ra h.roofs.length h.rc],.agg #[.slice s.ca s.cues.length s.cc,.slice s.pa s.pairs.length s.pc],.slice ga G.length gc] w fun e w'=>Hid (∃v,e=.returned (.tuple #[v,.int .i64 (Db h s G)])∧w'.ownsRow w.heap.size 3 1 v (Jv h s G).length (Ap (Jv h s G)))∧Below w.heap.size w w':=by
 obtain⟨hb0,HX,HW⟩:=o1 hh hs hG;have HP:=lh fun (q:Db h s G=0)=>Er q;have hcl:=hs.clen;clear hh hs hG hb0;obtain⟨E,hE⟩:=nm (Db h s G)
 by_cases hz:E=0
 case neg=>
  have HE:=lh hE;have HEP:Hid (Jv h s G=[]):=lh (by unfold Jv;rw[hE,if_neg hz]);have g0:(E !=0)=true:=bne_iff_ne.2 hz;clear hz hE
  go_enter Tryz.func27,Tryz.ntmps27
  go_upto_region 1 with (fail)
  obtain⟨W0,hW0⟩:=nm ((Fo w h s):World);simp only[hW0]at HX HW⊢;clear hW0;obtain⟨B1,hB1⟩:=nm (w.heap.size);obtain⟨B2,hB2⟩:=nm (w.heap.size+1);rw[hB2]at HX⊢;rw[hB1]at HX⊢;have HBB:Hid (w.heap.size=B1):=lh hB1;clear hB1 hB2;obtain⟨⟨a0,a1,a2,a3⟩,⟨s0,s1⟩,-,-,-⟩:=HX.out _ br;have HRP:=lh (Jd h s ga G gc _ (HX.out _ br).2.2.1 (HX.out _ br).2.2.2.1 (HX.out _ br).2.2.2.2 hgl)
  go_wp2_with (go_at_call 49;go_fit HRP.out;rintro e w1 ⟨hx1,hb1⟩;obtain⟨v1,v2,rfl,hp1⟩:=hx1.out;have HP1:=lh hp1;clear hx1 hp1;rw[HE.out])
  go_ret2
  exact⟨lh ⟨.slice none 0 0,by first | rfl | (rw[HE.out];rfl),by rw[HEP.out];exact World.ownsRow_nil _ _ _ _⟩,HW.out _ hb1⟩
 case pos=>
  subst hz;have HE:=lh hE;have HEP:Hid (Jv h s G=Ij h s G s.cues.length):=lh (by unfold Jv;rw[hE,if_pos rfl]);have HQ:=lh (HP.out hE);clear hE HP;obtain⟨i0,hi,hz0,hz1,hz2⟩:=info_parts Mi;have HI:=lh (And.intro hi (And.intro hz0 (And.intro hz1 hz2)));clear hi hz0 hz1 hz2
  go_enter Tryz.func27,Tryz.ntmps27
  go_upto_region 1 with (fail)
  obtain⟨W0,hW0⟩:=nm ((Fo w h s):World);simp only[hW0]at HX HW⊢;clear hW0;obtain⟨B1,hB1⟩:=nm (w.heap.size);obtain⟨B2,hB2⟩:=nm (w.heap.size+1);rw[hB2]at HX⊢;rw[hB1]at HX⊢;have HBB:Hid (w.heap.size=B1):=lh hB1;clear hB1 hB2;obtain⟨⟨a0,a1,a2,a3⟩,⟨s0,s1⟩,-,-,-⟩:=HX.out _ br;have HRP:=lh (Jd h s ga G gc _ (HX.out _ br).2.2.1 (HX.out _ br).2.2.2.1 (HX.out _ br).2.2.2.2 hgl);obtain⟨ca,hca⟩:=nm (s.ca);have HCA:=lh hca;rw[hca]at s0 HRP⊢;clear hca
  go_upto_region 6 with (go_at_call 49;go_fit HRP.out;rintro e w1 ⟨hx1,hb1⟩;obtain⟨v1,v2,rfl,hp1⟩:=hx1.out;have HP1:=lh hp1;clear hx1 hp1;rw[HE.out])
  obtain⟨hr1,hr2⟩:=HP1.out HE.out;have ls:=HQ.out.2.lenS;have ln:=HQ.out.2.lenN;obtain⟨sa,sc,es,-,-,-,hS⟩:=Be (L:=Bv h s G) (by rw[ls];exact hr1);obtain⟨na,nc,en,-,-,-,hN⟩:=Be (L:=Cl h s) (by rw[ln];exact hr2);rw[ls]at es;rw[ln]at en;subst es;subst en
  have HXX:Hid (∀w',Below w1.heap.size w1 w'→Below w.heap.size w w'∧Bo w' B2 s∧Bg w' s∧Bl w'.heap.size w' sa (Bv h s G)∧Bl w'.heap.size w' na (Cl h s)):=lh fun w' z=>by
   have y:=hb1.trans (z.mono hb1.size);exact⟨HW.out w' y,(HX.out w' y).2.1,(HX.out w' y).2.2.2.1,hS.grow z,hN.grow z⟩
  clear hr1 hr2 hS hN HP1 HX HW HRP a0 a1 a2 a3 s0 s1;generalize w1=W2 at *;obtain⟨n₂,hn2⟩:=nm (W2.heap.size);rw[hn2]at HXX;have hB2:Below n₂ W2 W2:=by rw[←hn2];exact br
  have hnn:n₂≤W2.heap.size:=by omega
  have HBN:Hid (w.heap.size≤n₂):=lh (by have:=(HXX.out _ hB2).1.size;omega);clear hn2 hb1 ls ln
  go_loopw [11,12] (fun v11 iv wr=>∃(k:Nat),iv=.int .i64 k∧k≤s.cues.length∧Below n₂ W2 wr∧n₂≤wr.heap.size∧Hid (wr.ownsRow n₂ 3 1 v11 k (Ap (Ij h s G k)))) (fun _ iv _=>s.cues.length-(intOf iv).toNat)
  case atStart=>exact⟨0,rfl,nz,hB2,hnn,lh (World.ownsRow_nil _ _ _ _)⟩
  case round=>
   clear hB2 hnn;obtain⟨k,rfl,hk,hB,hnw,HR⟩:=hrel
   by_cases hlt:k<s.cues.length
   ·obtain⟨-,-,hsi,hS,hN⟩:=HXX.out _ hB
    obtain⟨b,off,ha,-,-⟩:=hsi.lies (by omega);rw[HCA.out]at ha;subst ha;have hls:k<(Bv h s G).length:=by rw[HQ.out.2.lenS];exact hlt
    have hln:k<(Cl h s).length:=by rw[HQ.out.2.lenN];exact hlt
    obtain⟨sb,so,hsa,-,-⟩:=hS (by omega);subst hsa;obtain⟨nb,no,hna,-,-⟩:=hN (by omega);subst hna;have q1:=HQ.out.2.lens k hlt;have q2:=HQ.out.2.starts k hlt;obtain⟨q,hq⟩:=nm (cg s.cues k);obtain⟨x,hx⟩:=nm (ig (Bv h s G) k);obtain⟨y,hy⟩:=nm (ig (Cl h s) k);rw[hx]at q2;rw[hy]at q1;have hsum:IntKind.i64.wrap (x+y)=x+y:=IntWalk.i64_in _ (by omega);have HQX:=lh (And.intro hq (And.intro hx hy))
    have HC:Hid (∀w',Below n₂ W2 w'→w'.cell? ⟨B2,0,none⟩=some (.slice (some ⟨b,off,none⟩) s.cues.length s.cc)∧w'.cell? ⟨b,off+k*7,none⟩=some (.string q.name)∧w'.cell? ⟨sb,so+k,none⟩=some (.int .i64 x)∧w'.cell? ⟨nb,no+k,none⟩=some (.int .i64 y)):=lh fun w' z=>by
     obtain⟨-,hsa,hsi,hS,hN⟩:=HXX.out _ z;obtain⟨b',o',e,-,ec⟩:=hsi.lies (by omega);rw[HCA.out]at e
     cases e
     obtain⟨b',o',e,-,es⟩:=hS (by omega)
     cases e
     obtain⟨b',o',e,-,en⟩:=hN (by omega)
     cases e
     have c1:=(ec k hlt).1;have c2:=es k hls;have c3:=en k hln;have c0:=hsa.1;rw[HQX.out.1]at c1;rw[HQX.out.2.1]at c2;rw[HQX.out.2.2]at c3;rw[HCA.out]at c0;exact⟨c0,c1,c2,c3⟩
    clear hq hx hy q1 q2 hS hN hsi;have HSN:Hid (Ij h s G (k+1)=Ij h s G k++[x+y]):=lh (by rw[Yc,HQX.out.2.1,HQX.out.2.2]);have HKL:Hid ((Ij h s G k).length=k):=lh (Mt _ _ _ _)
    go_upto_region 8 with (fail)
    have hD:Js n₂ W2 wr.drew:=⟨hB.trans ((Cm wr).mono hnw),hnw⟩;have HOd:=lh (Ac HR.out (Cm wr));have c0:∀w',Js n₂ W2 w'→w'.cell? ⟨B2,0,none⟩=some (.slice (some ⟨b,off,none⟩) s.cues.length s.cc):=fun w' z=>(HC.out w' z.old).1;have c1:∀w',Js n₂ W2 w'→w'.cell? ⟨b,off+k*7,none⟩=some (.string q.name):=fun w' z=>(HC.out w' z.old).2.1;have c2:∀w',Js n₂ W2 w'→w'.cell? ⟨sb,so+k,none⟩=some (.int .i64 x):=fun w' z=>(HC.out w' z.old).2.2.1;have c3:∀w',Js n₂ W2 w'→w'.cell? ⟨nb,no+k,none⟩=some (.int .i64 y):=fun w' z=>(HC.out w' z.old).2.2.2;refine wp_region_held_drew (S:=Js n₂ W2) (by kernel_rfl) hD (fun hHeld=>?_);obtain⟨W5,hW5⟩:=nm (wr.drew);simp only[hW5]at hHeld HOd hD⊢;clear hW5 hB hnw HR;refine tk 0 ?_;refine tk 1 ?_;refine tk 2 ?_;refine tk 3 ?_;refine tk 4 ?_;refine tk 5 ?_;refine tk 6 ?_;refine tk 7 ?_;refine tk 8 ?_;refine tk 9 ?_;clear c0 c1 c2 c3;refine r1 10 (fun K hK=>?_);rw[if_pos (by rfl)]
    go_wp2_with fail
    have hHN:=hHeld.next (Aa W5 (.cells #[.int .i64 (x+y)] 3));have HO6:=lh (Ac HOd.out (Aa W5 (.cells #[.int .i64 (x+y)] 3)));refine hK.out _ _ hHN (fun hHeld=>?_);clear hK K
    try simp only[Act.put,Co,Cp,Cn,Ba,Bc,Az]
    refine r1 11 (fun K hK=>?_);refine step_append_lies _ rfl (.tmp 30) (.tmp 40) 30 rfl n₂ 3 i0 (.int .i64 0) 1 8 Tryz.underlying30 HI.out.1 HI.out.2.1 HI.out.2.2.1 HI.out.2.2.2 rfl (by decide) u11 k (Ap (Ij h s G k)) ?_ HO6.out ⟨W5.heap.size,0,none⟩ 1 1 [.int .i64 (x+y)] ?_ rfl (ACi W5 _ _) ?_ (by omega) ?_ ?_ ?_ _ rfl ?_
    ·simp[Act.eval]
    ·simp[Act.eval]
    ·simp[Value.oneCell']
    ·unfold maxLen;omega
    ·omega
    ·have:=hHN.lo;omega
    intro g7 cap7 w7 hown7 hgr7 hat7 hg7;clear hat7;have hS7:Js n₂ W2 w7:=⟨hHN.old.grown hgr7 (by have:=hHN.lo;omega) (fun j hj=>(HO6.out.lt _ hj).1),nt hHN.lo hgr7.size⟩;have HO7:=lh hown7;clear hown7 hgr7 hg7;refine hK.out _ _ hS7 (fun hHeld=>?_);clear hK K
    try simp only[Act.put,Co,Cp,Cn,Ba,Bc,Az]
    refine tk 12 ?_;refine wpAnyH_done (by kernel_rfl) ?_ _;have hB9:=hS7.old;have hn9:=hS7.lo
    go_wp2_with fail
    go_roundw
    case rel=>exact⟨k+1,by go_num,by omega,hB9,hn9,lh (by rw[HSN.out,Ww];exact HO7.out)⟩
    case measure=>simp[intOf];omega
   ·obtain rfl:k=s.cues.length:=by omega
    go_wp2_with fail
    go_ret2
    exact⟨lh ⟨_,by first | rfl | (rw[HE.out];rfl),by rw[HEP.out,Mt];exact Bn HR.out HBN.out⟩,(HXX.out _ hB).1⟩
def AEw(S N:List Int)(ms:Int)(i:Nat):Prop:=ig S i≤ms∧ms<ig S i+ig N i
instance(S N:List Int)(ms:Int)(i:Nat):Decidable (AEw S N ms i):=by unfold AEw;infer_instance
noncomputable def Il(h:Ae)(s:Aq)(G:List Int)(ms:Int)(n:Nat):List ByteArray:=((List.range n).filter fun i=>decide (AEw (Bv h s G) (Cl h s) ms i)).map fun i=>(cg s.cues i).name
theorem AAb{h:Ae}{s:Aq}{G:List Int}{ms:Int}{n:Nat}(r:AEw (Bv h s G) (Cl h s) ms n):Il h s G ms (n+1)=Il h s G ms n++[(cg s.cues n).name]:=by
 unfold Il;rw[List.range_succ,List.filter_append,List.map_append,List.filter_cons_of_pos (by simpa using r),List.filter_nil]
 rfl
theorem ABv{h:Ae}{s:Aq}{G:List Int}{ms:Int}{n:Nat}(r:¬AEw (Bv h s G) (Cl h s) ms n):Il h s G ms (n+1)=Il h s G ms n:=by
 unfold Il;rw[List.range_succ,List.filter_append,List.map_append,List.filter_cons_of_neg (by simpa using r),List.filter_nil,List.map_nil,List.append_nil]
theorem Sw(h:Ae)(s:Aq)(G:List Int)(ms:Int)(n:Nat):(Il h s G ms n).length≤n:=by
 unfold Il;rw[List.length_map];exact nt (List.length_filter_le _ _) (by rw[List.length_range];exact nr)
noncomputable def Kc(h:Ae)(s:Aq)(G:List Int)(ms:Int):Int:=if Db h s G=0 then(if ms<0∨1099511627776<ms then 2 else 0)else Db h s G
noncomputable def Im(h:Ae)(s:Aq)(G:List Int)(ms:Int):List ByteArray:=if Kc h s G ms=0 then Il h s G ms s.cues.length else[]
theorem APc(ms:Int)(h:Ae)(s:Aq)(ga:Option Addr)(G:List Int)(gc:Nat)(w:World)(hh:Ax w h)(hs:Bg w s)(hG:Bl w.heap.size w ga G)(hgl:G.length≤1000):
  Calls Tryz.prog 25 #[.agg #[.string h.name,.int .i64 h.height,.slice h.sa h.sets.length h.sc,.slice h.ra h.roofs.length h.rc],.agg #[.slice s.ca s.cues.length s.cc,.slice s.pa s.pairs.length s.pc],.slice ga G.length gc,.int .i64 ms] w fun e w'=>Hid (∃v,e=.returned (.tuple #[v,.int .i64 (Kc h s G ms)])∧w'.ownsRow w.heap.size 9 1 v (Im h s G ms).length (Lu (Im h s G ms)))∧Below w.heap.size w w':=by
 obtain⟨hb0,HX,HW⟩:=o1 hh hs hG;have HP:=lh fun (q:Db h s G=0)=>Er q;have hcl:=hs.clen;clear hh hs hG hb0;obtain⟨E,hE⟩:=nm (Db h s G)
 by_cases hz:E=0
 case neg=>
  have HE:=lh hE;have HBE:Hid (Kc h s G ms=E):=lh (by unfold Kc;rw[hE,if_neg hz]);have HEP:Hid (Im h s G ms=[]):=lh (by unfold Im;rw[HBE.out,if_neg hz]);have g0:(E !=0)=true:=bne_iff_ne.2 hz;clear hz hE
  go_enter Tryz.func25,Tryz.ntmps25
  go_upto_region 1 with (fail)
  obtain⟨W0,hW0⟩:=nm ((Fo w h s):World);simp only[hW0]at HX HW⊢;clear hW0;obtain⟨B1,hB1⟩:=nm (w.heap.size);obtain⟨B2,hB2⟩:=nm (w.heap.size+1);rw[hB2]at HX⊢;rw[hB1]at HX⊢;have HBB:Hid (w.heap.size=B1):=lh hB1;clear hB1 hB2;obtain⟨⟨a0,a1,a2,a3⟩,⟨s0,s1⟩,-,-,-⟩:=HX.out _ br;have HMD:=lh (Iq h s ga G gc _ (HX.out _ br).2.2.1 (HX.out _ br).2.2.2.1 (HX.out _ br).2.2.2.2 hgl)
  go_wp2_with (go_at_call 44;go_fit HMD.out;rintro e w1 ⟨hx1,hb1⟩;obtain⟨ta,tn,tc,sa,sn,sc,na,nn,nc,rfl,hp1⟩:=hx1.out;have HP1:=lh hp1;clear hx1 hp1;rw[HE.out])
  go_ret2
  exact⟨lh ⟨.slice none 0 0,by rw[HBE.out];try rfl,by rw[HEP.out];exact World.ownsRow_nil _ _ _ _⟩,(HW.out _ hb1).alloc (by have:=(HW.out _ hb1).size;omega) _⟩
 case pos=>
  subst hz;have HE:=lh hE;have HQ:=lh (HP.out hE);clear hE HP
  by_cases hr:ms<0∨1099511627776<ms
  case pos=>
   have HBE:Hid (Kc h s G ms=2):=lh (by unfold Kc;rw[HE.out,if_pos rfl,if_pos hr]);have HEP:Hid (Im h s G ms=[]):=lh (by unfold Im;rw[HBE.out];rfl)
   have hg:decide (ms<0)=true∨decide (ms<0)=false∧decide (1099511627776<ms)=true:=by
    by_cases r:ms<0
    ·exact .inl (dT r)
    ·exact .inr ⟨dF r,dT (hr.resolve_left r)⟩
   clear hr;rcases hg with g1 | ⟨g1,g2⟩
   all_goals
    go_enter Tryz.func25,Tryz.ntmps25
    go_upto_region 1 with (fail)
    obtain⟨W0,hW0⟩:=nm ((Fo w h s):World);simp only[hW0]at HX HW⊢;clear hW0;obtain⟨B1,hB1⟩:=nm (w.heap.size);obtain⟨B2,hB2⟩:=nm (w.heap.size+1);rw[hB2]at HX⊢;rw[hB1]at HX⊢;have HBB:Hid (w.heap.size=B1):=lh hB1;clear hB1 hB2;obtain⟨⟨a0,a1,a2,a3⟩,⟨s0,s1⟩,-,-,-⟩:=HX.out _ br;have HMD:=lh (Iq h s ga G gc _ (HX.out _ br).2.2.1 (HX.out _ br).2.2.2.1 (HX.out _ br).2.2.2.2 hgl)
    go_wp2_with (go_at_call 44;go_fit HMD.out;rintro e w1 ⟨hx1,hb1⟩;obtain⟨ta,tn,tc,sa,sn,sc,na,nn,nc,rfl,hp1⟩:=hx1.out;have HP1:=lh hp1;clear hx1 hp1;rw[HE.out])
    go_ret2
    exact⟨lh ⟨.slice none 0 0,by rw[HBE.out];try rfl,by rw[HEP.out];exact World.ownsRow_nil _ _ _ _⟩,(HW.out _ hb1).alloc (by have:=(HW.out _ hb1).size;omega) _⟩
  have g1:decide (ms<0)=false:=dF (by omega);have g2:decide (1099511627776<ms)=false:=dF (by omega);have HBE:Hid (Kc h s G ms=0):=lh (by unfold Kc;rw[HE.out,if_pos rfl,if_neg hr]);have HEP:Hid (Im h s G ms=Il h s G ms s.cues.length):=lh (by unfold Im;rw[HBE.out,if_pos rfl]);clear hr
  go_enter Tryz.func25,Tryz.ntmps25
  go_upto_region 1 with (fail)
  obtain⟨W0,hW0⟩:=nm ((Fo w h s):World);simp only[hW0]at HX HW⊢;clear hW0;obtain⟨B1,hB1⟩:=nm (w.heap.size);obtain⟨B2,hB2⟩:=nm (w.heap.size+1);rw[hB2]at HX⊢;rw[hB1]at HX⊢;have HBB:Hid (w.heap.size=B1):=lh hB1;clear hB1 hB2;obtain⟨⟨a0,a1,a2,a3⟩,⟨s0,s1⟩,-,-,-⟩:=HX.out _ br;have HMD:=lh (Iq h s ga G gc _ (HX.out _ br).2.2.1 (HX.out _ br).2.2.2.1 (HX.out _ br).2.2.2.2 hgl);obtain⟨ca,hca⟩:=nm (s.ca);have HCA:=lh hca;rw[hca]at s0 HMD⊢;clear hca
  go_upto_region 7 with (go_at_call 44;go_fit HMD.out;rintro e w1 ⟨hx1,hb1⟩;obtain⟨ta,tn,tc,sa,sn,sc,na,nn,nc,rfl,hp1⟩:=hx1.out;have HP1:=lh hp1;clear hx1 hp1;rw[HE.out])
  obtain⟨e1,e2,hS1,hN1⟩:=HP1.out HE.out;subst e1;subst e2;have hbx:=Aa w1 (.cells #[.slice ta tn tc,.slice sa s.cues.length sc,.slice na s.cues.length nc] 109);have hP2:=PC.put w1 (.slice ta tn tc) (.slice sa s.cues.length sc) (.slice na s.cues.length nc) 109;have hW2:=(HW.out _ hb1).alloc (by have:=(HW.out _ hb1).size;omega) (.cells #[.slice ta tn tc,.slice sa s.cues.length sc,.slice na s.cues.length nc] 109);have hX2:Hid (Below W0.heap.size W0 (w1.alloc (.cells #[.slice ta tn tc,.slice sa s.cues.length sc,.slice na s.cues.length nc] 109))):=lh (hb1.alloc hb1.size _);replace hS1:=hS1.grow hbx;replace hN1:=hN1.grow hbx;clear hbx HP1 HMD a0 a1 a2 a3 s0 s1;generalize w1.alloc (.cells #[.slice ta tn tc,.slice sa s.cues.length sc,.slice na s.cues.length nc] 109)=W2 at *;obtain⟨B8,hB8⟩:=nm (w1.heap.size);rw[hB8]at hP2⊢;clear hB8
  have HXX:Hid (∀w',Below W2.heap.size W2 w'→Below w.heap.size w w'∧PC w' B8 (.slice ta tn tc) (.slice sa s.cues.length sc) (.slice na s.cues.length nc)∧Bl w'.heap.size w' sa (Bv h s G)∧Bl w'.heap.size w' na (Cl h s)∧Bo w' B2 s∧Bg w' s):=lh fun w' z=>by
   have y:=hX2.out.trans (z.mono hX2.out.size);obtain⟨-,y2,-,y4,-⟩:=HX.out w' y;exact⟨hW2.trans (z.mono hW2.size),hP2.carry z,hS1.grow z,hN1.grow z,y2,y4⟩
  clear HX hW2 hS1 hN1 hP2 HW hX2 hb1;obtain⟨n₂,hn2⟩:=nm (W2.heap.size);rw[hn2]at HXX;have hB2:Below n₂ W2 W2:=by rw[←hn2];exact br
  have hnn:n₂≤W2.heap.size:=by omega
  have HBN:Hid (w.heap.size≤n₂):=lh (by have:=(HXX.out _ hB2).1.size;omega);clear hn2;obtain⟨-,-,-,-,⟨s0,s1⟩,-⟩:=HXX.out _ hB2;rw[HCA.out]at s0
  go_upto_region 8 with (fail)
  clear s0 s1 g1 g2
  go_loopw [12,13,14,36] (fun v12 _ _ iv wr=>∃(k:Nat),iv=.int .i64 k∧k≤s.cues.length∧Below n₂ W2 wr∧n₂≤wr.heap.size∧Hid (wr.ownsRow n₂ 9 1 v12 (Il h s G ms k).length (Lu (Il h s G ms k)))) (fun _ _ _ iv _=>s.cues.length-(intOf iv).toNat)
  case atStart=>exact⟨0,rfl,nz,hB2,hnn,lh (World.ownsRow_nil _ _ _ _)⟩
  case round=>
   clear hB2 hnn;obtain⟨k,rfl,hk,hB,hnw,HR⟩:=hrel
   by_cases hlt:k<s.cues.length
   ·obtain⟨-,-,hS,hN,-,hsi⟩:=HXX.out _ hB
    obtain⟨b,off,ha,hb,hc⟩:=hsi.lies (by omega);rw[HCA.out]at ha;subst ha;obtain⟨d0,d1,d2,d3,d4,d5,d6⟩:=hc k hlt;have hls:k<(Bv h s G).length:=by rw[HQ.out.2.lenS];exact hlt
    have hln:k<(Cl h s).length:=by rw[HQ.out.2.lenN];exact hlt
    obtain⟨sb,so,hsa,hsb,hsx⟩:=hS (by omega);subst hsa;obtain⟨nb,no,hna,hnb,hnx⟩:=hN (by omega);subst hna;have q1:=HQ.out.2.lens k hlt;have q2:=HQ.out.2.starts k hlt;have HYES:=lh fun r=>AAb (h:=h) (s:=s) (G:=G) (ms:=ms) (n:=k) r;have HNO:=lh fun r=>ABv (h:=h) (s:=s) (G:=G) (ms:=ms) (n:=k) r;obtain⟨q,hq⟩:=nm (cg s.cues k);rw[hq]at d0 d1 d2 d3 d4 d5 d6 HYES;have hRD:AEw (Bv h s G) (Cl h s) ms k↔ig (Bv h s G) k≤ms∧ms<ig (Bv h s G) k+ig (Cl h s) k:=Iff.rfl;obtain⟨x,hx⟩:=nm (ig (Bv h s G) k);obtain⟨y,hy⟩:=nm (ig (Cl h s) k);rw[hx,hy]at hRD;rw[hx]at q2;rw[hy]at q1;have HX5:=lh hx;have HY5:=lh hy;have HRD:=lh hRD;have hsum:IntKind.i64.wrap (x+y)=x+y:=by simp only[IntKind.wrap_i64];omega
    have HLE:=lh (Sw h s G ms k);clear hS hN hsi hc hsx hnx hq hx hy hRD q1 q2;have hB3:=hB.alloc hnw (Eu q);have hbn:=Aa wr (Eu q);have HC3:=Cx.new wr q 86 _ rfl;have hn3:n₂≤(wr.alloc (Eu q)).heap.size:=by simp;omega
    have HR3:=lh (Ac HR.out hbn)
    go_upto_region 10 with (fail)
    clear d0 d1 d2 d3 d4 d5 d6 HR hbn hB hnw hb;generalize wr.alloc (Eu q)=W3 at *;obtain⟨B12,hB12⟩:=nm (wr.heap.size);rw[hB12]at HC3⊢;clear hB12;have hn3':∀n,n₂≤(W3.drewN n).heap.size:=fun _=>hn3;obtain⟨-,⟨p0,p1,p2,p3,p4,p5,p6⟩,hS,hN,-,-⟩:=HXX.out _ hB3;obtain⟨tb,tf,e1,-,ex⟩:=hS (by omega)
    cases e1
    have x2:=ex k hls;obtain⟨tb,tf,e1,-,ey⟩:=hN (by omega)
    cases e1
    have y2:=ey k hln;rw[HX5.out]at x2;rw[HY5.out]at y2;clear hS hN ex ey
    by_cases r1:x≤ms
    ·have b1:decide (x≤ms)=true:=dT r1
     by_cases r2:ms<x+y
     ·have b2:decide (ms<x+y)=true:=dT r2
      have HSN:=lh (HYES.out (HRD.out.2 ⟨r1,r2⟩));clear r1 r2
      go_upto_region 11 with (go_quiet (fail))
      have hbq:=Aj (Below.refl W3.heap.size W3) nq;have hB6:=hB3.trans (hbq.mono hn3);have hn6:n₂≤(W3.drewN nq).heap.size:=hn3;have HR6:=lh (Ac HR3.out hbq);have c0:=(HC3.carry hbq).1;have hl0:B12<(W3.drewN nq).heap.size:=wl c0;clear hbq p0 p1 p2 p3 p4 p5 p6 x2 y2 b1 b2;generalize W3.drewN nq=W6 at *;have hbx:=Aa W6 (.cells #[.string q.name] 9);have HO8:=lh (Ac HR6.out hbx);have hB8:=hB6.alloc hn6 (.cells #[.string q.name] 9);have hn8:n₂≤(W6.alloc (.cells #[.string q.name] 9)).heap.size:=by simp;omega
      have hkl:(Il h s G ms k).length≤1000000:=by have:=HLE.out;omega
      have hc8:(W6.alloc (.cells #[.string q.name] 9)).cell? ⟨W6.heap.size,0,none⟩=some (.string q.name):=by simp
      clear hbx
      go_wp2_with (at_builtin;refine Wj rfl _ _ rfl n₂ _ (Il h s G ms k) rfl HO8.out _ q.name rfl hc8 hkl hn8 ?_;intro v2 w8 hown8 hg8;have HO9:=lh hown8;have hB9:=hB8.grown hg8 (by omega) (fun j hj=>(HO8.out.lt _ hj).1);have hn9:=nt hn8 hg8.size;clear hown8 hg8)
      go_roundw
      case rel=>exact⟨k+1,by go_num,by omega,hB9,hn9,lh (by rw[HSN.out];exact HO9.out)⟩
      case measure=>simp[intOf];omega
     ·have b2:decide (ms<x+y)=false:=dF r2
      have HSN:=lh (HNO.out fun z=>r2 (HRD.out.1 z).2);clear r1 r2
      go_wp2_with (go_quiet (fail))
      go_roundw
      case rel=>exact⟨k+1,by go_num,by omega,Aj hB3 _,hn3' _,lh (by rw[HSN.out];exact HR3.out)⟩
      case measure=>simp[intOf];omega
    ·have b1:decide (x≤ms)=false:=dF r1
     have HSN:=lh (HNO.out fun z=>r1 (HRD.out.1 z).1);clear r1
     go_wp2_with (go_quiet (fail))
     go_roundw
     case rel=>exact⟨k+1,by go_num,by omega,Aj hB3 _,hn3' _,lh (by rw[HSN.out];exact HR3.out)⟩
     case measure=>simp[intOf];omega
   ·obtain rfl:k=s.cues.length:=by omega
    go_wp2_with fail
    go_ret2
    exact⟨lh ⟨_,by rw[HBE.out];try rfl,by rw[HEP.out];exact Bn HR.out HBN.out⟩,(HXX.out _ hB).1⟩
theorem AJv(ms:Int)(h:Ae)(s:Aq)(ga:Option Addr)(G:List Int)(gc:Nat)(w:World)(hh:Ax w h)(hs:Bg w s)(hG:Bl w.heap.size w ga G)(hgl:G.length≤1000):
  Calls Tryz.prog 28 #[.agg #[.string h.name,.int .i64 h.height,.slice h.sa h.sets.length h.sc,.slice h.ra h.roofs.length h.rc],.agg #[.slice s.ca s.cues.length s.cc,.slice s.pa s.pairs.length s.pc],.slice ga G.length gc,.int .i64 ms] w fun e w'=>Hid (∃v,e=.returned (.tuple #[v,.int .i64 (Kc h s G ms)])∧w'.ownsRow w.heap.size 9 1 v (Im h s G ms).length (Lu (Im h s G ms)))∧Below w.heap.size w w':=by
 obtain⟨hb0,HX,HW⟩:=o1 hh hs hG;have HP:=lh fun (q:Db h s G=0)=>Er q;have hcl:=hs.clen;clear hh hs hG hb0;obtain⟨E,hE⟩:=nm (Db h s G)
 by_cases hz:E=0
 case neg=>
  have HE:=lh hE;have HBE:Hid (Kc h s G ms=E):=lh (by unfold Kc;rw[hE,if_neg hz]);have HEP:Hid (Im h s G ms=[]):=lh (by unfold Im;rw[HBE.out,if_neg hz]);have g0:(E !=0)=true:=bne_iff_ne.2 hz;clear hz hE
  go_enter Tryz.func28,Tryz.ntmps28
  go_upto_region 1 with (fail)
  obtain⟨W0,hW0⟩:=nm ((Fo w h s):World);simp only[hW0]at HX HW⊢;clear hW0;obtain⟨B1,hB1⟩:=nm (w.heap.size);obtain⟨B2,hB2⟩:=nm (w.heap.size+1);rw[hB2]at HX⊢;rw[hB1]at HX⊢;have HBB:Hid (w.heap.size=B1):=lh hB1;clear hB1 hB2;obtain⟨⟨a0,a1,a2,a3⟩,⟨s0,s1⟩,-,-,-⟩:=HX.out _ br;have HRP:=lh (Jd h s ga G gc _ (HX.out _ br).2.2.1 (HX.out _ br).2.2.2.1 (HX.out _ br).2.2.2.2 hgl)
  go_wp2_with (go_at_call 49;go_fit HRP.out;rintro e w1 ⟨hx1,hb1⟩;obtain⟨v1,v2,rfl,hp1⟩:=hx1.out;have HP1:=lh hp1;clear hx1 hp1;rw[HE.out])
  go_ret2
  exact⟨lh ⟨.slice none 0 0,by rw[HBE.out];try rfl,by rw[HEP.out];exact World.ownsRow_nil _ _ _ _⟩,HW.out _ hb1⟩
 case pos=>
  subst hz;have HE:=lh hE;have HQ:=lh (HP.out hE);clear hE HP
  by_cases hr:ms<0∨1099511627776<ms
  case pos=>
   have HBE:Hid (Kc h s G ms=2):=lh (by unfold Kc;rw[HE.out,if_pos rfl,if_pos hr]);have HEP:Hid (Im h s G ms=[]):=lh (by unfold Im;rw[HBE.out];rfl)
   have hg:decide (ms<0)=true∨decide (ms<0)=false∧decide (1099511627776<ms)=true:=by
    by_cases r:ms<0
    ·exact .inl (dT r)
    ·exact .inr ⟨dF r,dT (hr.resolve_left r)⟩
   clear hr;rcases hg with g1 | ⟨g1,g2⟩
   all_goals
    go_enter Tryz.func28,Tryz.ntmps28
    go_upto_region 1 with (fail)
    obtain⟨W0,hW0⟩:=nm ((Fo w h s):World);simp only[hW0]at HX HW⊢;clear hW0;obtain⟨B1,hB1⟩:=nm (w.heap.size);obtain⟨B2,hB2⟩:=nm (w.heap.size+1);rw[hB2]at HX⊢;rw[hB1]at HX⊢;have HBB:Hid (w.heap.size=B1):=lh hB1;clear hB1 hB2;obtain⟨⟨a0,a1,a2,a3⟩,⟨s0,s1⟩,-,-,-⟩:=HX.out _ br;have HRP:=lh (Jd h s ga G gc _ (HX.out _ br).2.2.1 (HX.out _ br).2.2.2.1 (HX.out _ br).2.2.2.2 hgl)
    go_wp2_with (go_at_call 49;go_fit HRP.out;rintro e w1 ⟨hx1,hb1⟩;obtain⟨v1,v2,rfl,hp1⟩:=hx1.out;have HP1:=lh hp1;clear hx1 hp1;rw[HE.out])
    go_ret2
    exact⟨lh ⟨.slice none 0 0,by rw[HBE.out];try rfl,by rw[HEP.out];exact World.ownsRow_nil _ _ _ _⟩,HW.out _ hb1⟩
  have g1:decide (ms<0)=false:=dF (by omega);have g2:decide (1099511627776<ms)=false:=dF (by omega);have HBE:Hid (Kc h s G ms=0):=lh (by unfold Kc;rw[HE.out,if_pos rfl,if_neg hr]);have HEP:Hid (Im h s G ms=Il h s G ms s.cues.length):=lh (by unfold Im;rw[HBE.out,if_pos rfl]);clear hr
  go_enter Tryz.func28,Tryz.ntmps28
  go_upto_region 1 with (fail)
  obtain⟨W0,hW0⟩:=nm ((Fo w h s):World);simp only[hW0]at HX HW⊢;clear hW0;obtain⟨B1,hB1⟩:=nm (w.heap.size);obtain⟨B2,hB2⟩:=nm (w.heap.size+1);rw[hB2]at HX⊢;rw[hB1]at HX⊢;have HBB:Hid (w.heap.size=B1):=lh hB1;clear hB1 hB2;obtain⟨⟨a0,a1,a2,a3⟩,⟨s0,s1⟩,-,-,-⟩:=HX.out _ br;have HRP:=lh (Jd h s ga G gc _ (HX.out _ br).2.2.1 (HX.out _ br).2.2.2.1 (HX.out _ br).2.2.2.2 hgl);obtain⟨ca,hca⟩:=nm (s.ca);have HCA:=lh hca;rw[hca]at s0 HRP⊢;clear hca
  go_upto_region 8 with (go_at_call 49;go_fit HRP.out;rintro e w1 ⟨hx1,hb1⟩;obtain⟨v1,v2,rfl,hp1⟩:=hx1.out;have HP1:=lh hp1;clear hx1 hp1;rw[HE.out])
  obtain⟨hr1,hr2⟩:=HP1.out HE.out;have ls:=HQ.out.2.lenS;have ln:=HQ.out.2.lenN;obtain⟨sa,sc,es,-,-,-,hS⟩:=Be (L:=Bv h s G) (by rw[ls];exact hr1);obtain⟨na,nc,en,-,-,-,hN⟩:=Be (L:=Cl h s) (by rw[ln];exact hr2);rw[ls]at es;rw[ln]at en;subst es;subst en
  have HXX:Hid (∀w',Below w1.heap.size w1 w'→Below w.heap.size w w'∧Bo w' B2 s∧Bg w' s∧Bl w'.heap.size w' sa (Bv h s G)∧Bl w'.heap.size w' na (Cl h s)):=lh fun w' z=>by
   have y:=hb1.trans (z.mono hb1.size);exact⟨HW.out w' y,(HX.out w' y).2.1,(HX.out w' y).2.2.2.1,hS.grow z,hN.grow z⟩
  clear hr1 hr2 hS hN HP1 HX HW HRP a0 a1 a2 a3 s0 s1;generalize w1=W2 at *;obtain⟨n₂,hn2⟩:=nm (W2.heap.size);rw[hn2]at HXX;have hB2:Below n₂ W2 W2:=by rw[←hn2];exact br
  have hnn:n₂≤W2.heap.size:=by omega
  have HBN:Hid (w.heap.size≤n₂):=lh (by have:=(HXX.out _ hB2).1.size;omega);clear hn2 hb1 ls ln
  go_loopw [13,14] (fun v13 iv wr=>∃(k:Nat),iv=.int .i64 k∧k≤s.cues.length∧Below n₂ W2 wr∧n₂≤wr.heap.size∧Hid (wr.ownsRow n₂ 9 1 v13 (Il h s G ms k).length (Lu (Il h s G ms k)))) (fun _ iv _=>s.cues.length-(intOf iv).toNat)
  case atStart=>exact⟨0,rfl,nz,hB2,hnn,lh (World.ownsRow_nil _ _ _ _)⟩
  case round=>
   clear hB2 hnn;obtain⟨k,rfl,hk,hB,hnw,HR⟩:=hrel
   by_cases hlt:k<s.cues.length
   ·obtain⟨-,-,hsi,hS,hN⟩:=HXX.out _ hB
    obtain⟨b,off,ha,-,-⟩:=hsi.lies (by omega);rw[HCA.out]at ha;subst ha;have hls:k<(Bv h s G).length:=by rw[HQ.out.2.lenS];exact hlt
    have hln:k<(Cl h s).length:=by rw[HQ.out.2.lenN];exact hlt
    obtain⟨sb,so,hsa,-,-⟩:=hS (by omega);subst hsa;obtain⟨nb,no,hna,-,-⟩:=hN (by omega);subst hna;have q1:=HQ.out.2.lens k hlt;have q2:=HQ.out.2.starts k hlt;obtain⟨q,hq⟩:=nm (cg s.cues k);obtain⟨x,hx⟩:=nm (ig (Bv h s G) k);obtain⟨y,hy⟩:=nm (ig (Cl h s) k);rw[hx]at q2;rw[hy]at q1;have hsum:IntKind.i64.wrap (x+y)=x+y:=IntWalk.i64_in _ (by omega);have HQX:=lh (And.intro hq (And.intro hx hy))
    have HC:Hid (∀w',Below n₂ W2 w'→w'.cell? ⟨B2,0,none⟩=some (.slice (some ⟨b,off,none⟩) s.cues.length s.cc)∧w'.cell? ⟨b,off+k*7,none⟩=some (.string q.name)∧w'.cell? ⟨sb,so+k,none⟩=some (.int .i64 x)∧w'.cell? ⟨nb,no+k,none⟩=some (.int .i64 y)):=lh fun w' z=>by
     obtain⟨-,hsa,hsi,hS,hN⟩:=HXX.out _ z;obtain⟨b',o',e,-,ec⟩:=hsi.lies (by omega);rw[HCA.out]at e
     cases e
     obtain⟨b',o',e,-,es⟩:=hS (by omega)
     cases e
     obtain⟨b',o',e,-,en⟩:=hN (by omega)
     cases e
     have c1:=(ec k hlt).1;have c2:=es k hls;have c3:=en k hln;have c0:=hsa.1;rw[HQX.out.1]at c1;rw[HQX.out.2.1]at c2;rw[HQX.out.2.2]at c3;rw[HCA.out]at c0;exact⟨c0,c1,c2,c3⟩
    clear hq hx hy q1 q2 hS hN hsi;have HYES:=lh fun r=>AAb (h:=h) (s:=s) (G:=G) (ms:=ms) (n:=k) r;have HNO:=lh fun r=>ABv (h:=h) (s:=s) (G:=G) (ms:=ms) (n:=k) r;rw[HQX.out.1]at HYES;have HRD:Hid (AEw (Bv h s G) (Cl h s) ms k↔x≤ms∧ms<x+y):=lh (by unfold AEw;rw[HQX.out.2.1,HQX.out.2.2]);have HLE:=lh (Sw h s G ms k);obtain⟨-,-,p2,p3⟩:=HC.out _ hB;have hn3':∀n,n₂≤(wr.drewN n).heap.size:=fun _=>hnw
    by_cases r1:x≤ms
    ·have b1:decide (x≤ms)=true:=dT r1
     by_cases r2:ms<x+y
     ·have b2:decide (ms<x+y)=true:=dT r2
      have HSN:=lh (HYES.out (HRD.out.2 ⟨r1,r2⟩));clear r1 r2
      go_upto_region 11 with (go_quiet (fail))
      have hbq:=Aj (Below.refl wr.heap.size wr) nq;have hB6:=hB.trans (hbq.mono hnw);have hn6:n₂≤(wr.drewN nq).heap.size:=hnw;have HR6:=lh (Ac HR.out hbq);obtain⟨c0,c1,-,-⟩:=HC.out _ hB6;clear hbq p2 p3 b1 b2 hB hnw HR;generalize wr.drewN nq=W6 at *;have hbx:=Aa W6 (.cells #[.string q.name] 9);have HO8:=lh (Ac HR6.out hbx);have hB8:=hB6.alloc hn6 (.cells #[.string q.name] 9);have hn8:n₂≤(W6.alloc (.cells #[.string q.name] 9)).heap.size:=by simp;omega
      have hkl:(Il h s G ms k).length≤1000000:=by have:=HLE.out;omega
      have hc8:(W6.alloc (.cells #[.string q.name] 9)).cell? ⟨W6.heap.size,0,none⟩=some (.string q.name):=by simp
      clear hbx
      go_wp2_with (at_builtin;refine Wj rfl _ _ rfl n₂ _ (Il h s G ms k) rfl HO8.out _ q.name rfl hc8 hkl hn8 ?_;intro v2 w8 hown8 hg8;have HO9:=lh hown8;have hB9:=hB8.grown hg8 (by omega) (fun j hj=>(HO8.out.lt _ hj).1);have hn9:=nt hn8 hg8.size;clear hown8 hg8)
      go_roundw
      case rel=>exact⟨k+1,by go_num,by omega,hB9,hn9,lh (by rw[HSN.out];exact HO9.out)⟩
      case measure=>simp[intOf];omega
     ·have b2:decide (ms<x+y)=false:=dF r2
      have HSN:=lh (HNO.out fun z=>r2 (HRD.out.1 z).2);clear r1 r2
      go_wp2_with (go_quiet (fail))
      go_roundw
      case rel=>exact⟨k+1,by go_num,by omega,Aj hB _,hn3' _,lh (by rw[HSN.out];exact Ac HR.out (Aj (Below.refl wr.heap.size wr) _))⟩
      case measure=>simp[intOf];omega
    ·have b1:decide (x≤ms)=false:=dF r1
     have HSN:=lh (HNO.out fun z=>r1 (HRD.out.1 z).1);clear r1
     go_wp2_with (go_quiet (fail))
     go_roundw
     case rel=>exact⟨k+1,by go_num,by omega,Aj hB _,hn3' _,lh (by rw[HSN.out];exact Ac HR.out (Aj (Below.refl wr.heap.size wr) _))⟩
     case measure=>simp[intOf];omega
   ·obtain rfl:k=s.cues.length:=by omega
    go_wp2_with fail
    go_ret2
    exact⟨lh ⟨_,by rw[HBE.out];try rfl,by rw[HEP.out];exact Bn HR.out HBN.out⟩,(HXX.out _ hB).1⟩
end
end Go.Proofs.YtebofaenlhhkaaaGreat
