import Derived.Test.YtebofaenlhhkaaaGreatY28
namespace Go.Proofs.YtebofaenlhhkaaaGreat
set_option maxRecDepth 100000
set_option maxHeartbeats 80000000
section
open Go.RowKit Go.Shelf
attribute [local go_sem] Oper.semAt_some
theorem AFp(ca:Option Addr)(L:List An)(cc:Nat)(v:Value)(s:ByteArray)(w:World)(hlen:L.length≤1100)(hI:Gs w.heap.size w ca L):
  Calls Tryz.prog 32 #[.agg #[.slice ca L.length cc,v],.string s] w fun e w'=>e=.returned (.int .i64 (Cj L s))∧Below w.heap.size w w':=by
 have hb0:Below w.heap.size w (w.alloc (.cells #[.slice ca L.length cc,v] 29)):=Aa w _;have HI:=lh (hI.below hb0);clear hI;have HB:=lh hb0;clear hb0
 go_enter Tryz.func32,Tryz.ntmps32
 go_wp2
 go_loop [5] (fun i=>∃k:Nat,k≤L.length∧i=.int .i64 k∧Hid (∀j,j<k→decide ((cg L j).name=s)=false)) (fun i=>L.length-(intOf i).toNat)
 case atStart=>exact⟨0,nz,rfl,lh (fun _ h=>absurd h (Nat.not_lt_zero _))⟩
 case round=>
  obtain⟨k,hk,rfl,HA⟩:=hrel
  by_cases hlt:k<L.length
  ·obtain⟨b,off,rfl,hb,hc⟩:=HI.out (by omega)
   obtain⟨d0,_⟩:=hc k hlt;have H:=lh (Dj (cg L k).name s);have hs:=Dj (cg L k).name s;clear hc
   by_cases hx:(cg L k).name=s
   ·have H:=lh (Jk L (fun r=>decide (r.name=s)) k hlt (dT hx) HA.out)
    rw[dT hx]at hs;clear hx
    go_wp2
    go_ret;exact⟨Cu H.out.symm,HB.out⟩
   ·rw[dF hx]at hs
    have HB':Hid (∀j,j<k+1→decide ((cg L j).name=s)=false):=lh fun j hj=>by
     rcases Nat.lt_or_ge j k with l | l
     ·exact HA.out j l
     ·obtain rfl:j=k:=by omega
      exact dF hx
    clear hx
    go_wp2
    go_round
    case rel=>exact⟨k+1,by omega,by go_num,HB'⟩
    case measure=>simp[intOf];omega
  ·obtain rfl:k=L.length:=by omega
   have H:=lh (Iv L (fun r=>decide (r.name=s)) HA.out)
   go_wp2
   go_ret;exact⟨Cu H.out.symm,HB.out⟩
theorem ATu(u y:ByteArray×ByteArray):Ft u y↔(decide (u.1=y.1)&&decide (u.2=y.2)||decide (u.1=y.2)&&decide (u.2=y.1))=true:=by
 unfold Ft;simp only[Bool.or_eq_true,Bool.and_eq_true,decide_eq_true_eq];exact⟨fun z=>z.elim (fun e=>.inl (by rw[e];exact⟨rfl,rfl⟩)) .inr,fun z=>z.elim (fun e=>.inl (Prod.ext e.1 e.2)) .inr⟩
theorem AHg(h:Ae)(s:Aq)(w:World)(hh:Ax w h)(hs:Bg w s):
  Calls Tryz.prog 82 #[.agg #[.string h.name,.int .i64 h.height,.slice h.sa h.sets.length h.sc,.slice h.ra h.roofs.length h.rc],.agg #[.slice s.ca s.cues.length s.cc,.slice s.pa s.pairs.length s.pc]] w fun e w'=>e=.returned (.bool (Fd h s))∧Below w.heap.size w w':=by
 obtain⟨hb0,HX,HW⟩:=o2 hh hs;have hsl:=hh.slen;have hcl:=hs.clen;have HML:=lh hs.mlen;have HNO:=lh fun (n:¬Hv h s)=>ADq n;clear hh hs hb0
 go_enter Tryz.func82,Tryz.ntmps82
 go_upto_region 1 with (fail)
 obtain⟨W0,hW0⟩:=nm ((Fo w h s):World);simp only[hW0]at HX HW⊢;clear hW0;obtain⟨B1,hB1⟩:=nm (w.heap.size);obtain⟨B2,hB2⟩:=nm (w.heap.size+1);rw[hB2]at HX⊢;rw[hB1]at HX⊢;clear hB1 hB2;obtain⟨ca,hca⟩:=nm (s.ca);obtain⟨pa,hpa⟩:=nm (s.pa);have HCA:=lh hca;have HPA:=lh hpa;obtain⟨⟨a0,a1,a2,a3⟩,⟨s0,s1⟩,-,-⟩:=HX.out _ br;rw[hca]at s0;rw[hpa]at s1;rw[hca,hpa];clear hca hpa;have HC0:=lh fun (w':World) (z:Ax w' h)=>AFh h w' z;have HC2:Hid (∀(w':World) (x:ByteArray),Bg w' s→Calls Tryz.prog 32 #[.agg #[.slice ca s.cues.length s.cc,.slice pa s.pairs.length s.pc],.string x] w' fun e w2=>e=.returned (.int .i64 (Cj s.cues x))∧Below w'.heap.size w' w2):=lh fun w' x z=>AFp ca s.cues s.cc _ x w' (by omega) (by rw[←HCA.out];exact z.lies)
 cases hv:Dz h
 case false=>
  have HV:=lh hv;have HZ:=lh (HNO.out fun z=>by have:=z.house;rw[HV.out]at this;cases this);clear hv
  go_wp2_with (go_at_call 126;go_fit (HC0.out _ (HX.out _ br).2.2.1);rintro e w1 ⟨rfl,hb1⟩;rw[HV.out];obtain⟨-,⟨t0,t1⟩,-,-⟩:=HX.out _ hb1;rw[HCA.out]at t0;rw[HPA.out]at t1)
  go_ret;exact⟨Ab HZ.out.symm,HW.out _ hb1⟩
 have HV:=lh hv;clear hv
 by_cases hl60:60<s.cues.length
 ·have HZ:=lh (HNO.out fun z=>by have:=z.cues;omega)
  have g1:decide ((60:Int)<(s.cues.length:Int))=true:=dT (by omega);clear hl60
  go_wp2_with (go_at_call 126;go_fit (HC0.out _ (HX.out _ br).2.2.1);rintro e w1 ⟨rfl,hb1⟩;rw[HV.out];obtain⟨-,⟨t0,t1⟩,-,-⟩:=HX.out _ hb1;rw[HCA.out]at t0;rw[HPA.out]at t1)
  go_ret;exact⟨Ab HZ.out.symm,HW.out _ hb1⟩
 have g1:decide ((60:Int)<(s.cues.length:Int))=false:=dF (by omega)
 by_cases hl10:1000<s.pairs.length
 ·have HZ:=lh (HNO.out fun z=>by have:=z.pairs.1;omega)
  have g2:decide ((1000:Int)<(s.pairs.length:Int))=true:=dT (by omega);clear hl60 hl10
  go_wp2_with (go_at_call 126;go_fit (HC0.out _ (HX.out _ br).2.2.1);rintro e w1 ⟨rfl,hb1⟩;rw[HV.out];obtain⟨-,⟨t0,t1⟩,-,-⟩:=HX.out _ hb1;rw[HCA.out]at t0;rw[HPA.out]at t1)
  go_ret;exact⟨Ab HZ.out.symm,HW.out _ hb1⟩
 have g2:decide ((1000:Int)<(s.pairs.length:Int))=false:=dF (by omega)
 go_upto_region 5 with (go_at_call 126;go_fit (HC0.out _ (HX.out _ br).2.2.1);rintro e w1 ⟨rfl,hb1⟩;rw[HV.out];obtain⟨-,⟨t0,t1⟩,-,-⟩:=HX.out _ hb1;rw[HCA.out]at t0;rw[HPA.out]at t1)
 clear a0 a1 a2 a3 s0 s1 t0 t1 g1 g2;obtain⟨n₀,hn0⟩:=nm (W0.heap.size);rw[hn0]at HX HW hb1;have hn1:n₀≤w1.heap.size:=by have:=hb1.size;omega
 clear hn0
 go_loopw [5,6,7,8] (fun mv iv _ _ wr=>∃k:Nat,mv=.int .i64 ((Dx (s.cues.take k)).length:Int)∧iv=.int .i64 k∧k≤s.cues.length∧(Dx (s.cues.take k)).length≤100∧Hid (∀j,j<k→Jh h s.cues j)∧Below n₀ W0 wr∧n₀≤wr.heap.size) (fun _ iv _ _ _=>s.cues.length-(intOf iv).toNat)
 case atStart=>exact⟨0,rfl,rfl,nz,by simp[Dx],lh (fun _ z=>absurd z (Nat.not_lt_zero _)),hb1,hn1⟩
 case round=>
  clear hb1 hn1;obtain⟨k,rfl,rfl,hk,hmt,HA,hB,hnw⟩:=hrel;obtain⟨-,⟨s0,s1⟩,-,hsi⟩:=HX.out _ hB;rw[HCA.out]at s0;rw[HPA.out]at s1
  by_cases hlt:k<s.cues.length
  ·obtain⟨cb,co,ha,hcb,hcc⟩:=hsi.lies (by omega)
   rw[HCA.out]at ha;subst ha;obtain⟨d0,d1,d2,d3,d4,d5,d6⟩:=hcc k hlt;have HMV:=lh (hsi.each k hlt);have HNK:Hid (¬Jh h s.cues k→Fd h s=false):=lh fun n=>HNO.out fun z=>n (z.each k hlt)
   have HNX:Hid (Jh h s.cues k→∀j,j<k+1→Jh h s.cues j):=lh fun z j hj=>by
    rcases Nat.lt_or_ge j k with l | l
    ·exact HA.out j l
    ·obtain rfl:j=k:=by omega
     exact z
   have HMT:Hid ((Dx (s.cues.take (k+1))).length=(Dx (s.cues.take k)).length+(cg s.cues k).moves.length):=lh (by rw[Rp _ hlt,List.length_append]);have HMP:=lh (Sq s.cues (k+1));have hmk:=HML.out k hlt;obtain⟨q,hq⟩:=nm (cg s.cues k);have HQK:=lh hq;rw[hq]at d0 d1 d2 d3 d4 d5 d6 HMV HMT hmk;obtain⟨mt,hmt2⟩:=nm ((Dx (s.cues.take k)).length:Nat);rw[hmt2]at HMT hmt⊢;clear hq hcc hmt2 hsi HA;have HC1:=lh fun (w':World) (z:HouseIn0 w' h) (z2:Ei w'.heap.size w' q.ma q.moves)=>AHc h q w' z hsl z2 hmk;have HBX:=lh (hB.alloc hnw (Eu q));have HAX:Hid (Cx (wr.alloc (Eu q)) wr.heap.size q):=lh (Cx.new wr q _ _ rfl);have HMV3:=lh (HMV.out.grow (Aa wr (Eu q)));have hn3:n₀≤(wr.alloc (Eu q)).heap.size:=by simp;omega
   go_upto_region 8 with (fail)
   clear s0 s1 d0 d1 d2 d3 d4 d5 d6 hB HMV hcb hnw;generalize wr.alloc (Eu q)=W3 at *;obtain⟨B7,hB7⟩:=nm (wr.heap.size);rw[hB7]at HAX⊢;clear hB7;obtain⟨n₁,hn1⟩:=nm (W3.heap.size);have hH0:Below n₁ W3 W3:=by rw[←hn1];exact br
   have HY:Hid (∀w',Below n₁ W3 w'→Below n₀ W0 w'∧Au w' B1 h∧Bo w' B2 s∧Ax w' h∧Bg w' s∧Cx w' B7 q∧Ei w'.heap.size w' q.ma q.moves):=lh fun w' z=>by
    rw[←hn1]at z;have y:=HBX.out.trans (z.mono hn3);obtain⟨y1,y2,y3,y4⟩:=HX.out w' y;exact⟨y,y1,y2,y3,y4,HAX.out.carry z,HMV3.out.grow z⟩
   have hnn:n₁≤W3.heap.size:=by omega
   have HN1:Hid (n₀≤n₁):=lh (by omega);clear hn1 hn3 HBX HAX HMV3;obtain⟨-,⟨a0,a1,a2,a3⟩,⟨s0,s1⟩,-,-,⟨c0,c1,c2,c3,c4,c5,c6⟩,-⟩:=HY.out _ hH0;rw[HCA.out]at s0;rw[HPA.out]at s1;have wm:IntKind.i64.wrap ((mt:Int)+(q.moves.length:Int))=(mt:Int)+(q.moves.length:Int):=IntWalk.i64_in _ (by omega)
   by_cases hm100:100<mt+q.moves.length
   ·have HZ:=lh (HNO.out fun z=>by have:=z.moves;have:=HMP.out;rw[HMT.out]at this;omega)
    have g2:decide ((100:Int)<(mt:Int)+(q.moves.length:Int))=true:=dT (by omega);clear hm100
    go_wp2_with fail
    go_ret;exact⟨Ab HZ.out.symm,HW.out _ (HY.out _ hH0).1⟩
   have g2:decide ((100:Int)<(mt:Int)+(q.moves.length:Int))=false:=dF (by omega);have HM1:Hid (mt+q.moves.length≤100):=lh (by omega);clear hm100
   cases hr:Ix h q
   case false=>
    have HR:=lh hr;have HZ:=lh (HNK.out fun z=>by have:=Ef.2 z.1;rw[HQK.out,HR.out]at this;cases this);clear hr
    go_wp2_with (go_at_call 127;go_fit (HC1.out _ (HY.out _ hH0).2.2.2.1.toHouseIn0 (HY.out _ hH0).2.2.2.2.2.2);rintro e w4 ⟨rfl,hb4⟩;rw[HR.out];have hH4:=hH0.trans (hb4.mono hnn);have hn4:=nt hnn hb4.size;obtain⟨-,-,⟨v0,v1⟩,-,-,⟨z0,z1,z2,z3,z4,z5,z6⟩,-⟩:=HY.out _ hH4;rw[HCA.out]at v0;rw[HPA.out]at v1)
    go_ret;exact⟨Ab HZ.out.symm,HW.out _ (HY.out _ hH4).1⟩
   have HR:=lh hr;clear hr;obtain⟨f,hf⟩:=nm (Cj s.cues q.name);have HF:=lh hf;clear hf
   by_cases hfk:f=(k:Int)
   case neg=>
    have HZ:=lh (HNK.out fun z=>hfk (by have:=z.2.1;rw[HQK.out,HF.out]at this;exact this));have g3:(f !=(k:Int))=true:=bne_iff_ne.2 hfk;clear hfk
    go_wp2_with (first
     | (go_at_call 127;go_fit (HC1.out _ (HY.out _ hH0).2.2.2.1.toHouseIn0 (HY.out _ hH0).2.2.2.2.2.2);rintro e w4 ⟨rfl,hb4⟩;rw[HR.out];have hH4:=hH0.trans (hb4.mono hnn);have hn4:=nt hnn hb4.size;obtain⟨-,-,⟨v0,v1⟩,-,-,⟨z0,z1,z2,z3,z4,z5,z6⟩,-⟩:=HY.out _ hH4;rw[HCA.out]at v0;rw[HPA.out]at v1)
     | (go_at_call 32;go_fit (HC2.out _ q.name (HY.out _ hH4).2.2.2.2.1);rintro e w5 ⟨rfl,hb5⟩;rw[HF.out];have hH5:=hH4.trans (hb5.mono hn4);have hn5:=nt hn4 hb5.size;obtain⟨-,-,⟨y0,y1⟩,-,-,⟨k0,k1,k2,k3,k4,k5,k6⟩,-⟩:=HY.out _ hH5;rw[HCA.out]at y0;rw[HPA.out]at y1))
    go_ret;exact⟨Ab HZ.out.symm,HW.out _ (HY.out _ hH5).1⟩
   subst hfk;have g3:((k:Int)!=(k:Int))=false:=bne_self_eq_false _;obtain⟨g,hg⟩:=nm (Cj s.cues q.after);have HG:=lh hg;clear hg;have HNH:Hid (¬Jj s.cues k→Fd h s=false):=lh fun n=>HNK.out fun z=>n z.2.2;have HYH:Hid (Jj s.cues k→∀j,j<k+1→Jh h s.cues j):=lh fun z=>HNX.out ⟨by rw[HQK.out];exact Ef.1 HR.out,by rw[HQK.out];exact HF.out,z⟩
   by_cases hl1:q.link=1
   ·have g4:(q.link==1)=true:=beq_iff_eq.2 hl1
    have g5:(q.link !=1)=false:=by rw[hl1];rfl
    have HL1:=lh hl1;clear hl1
    by_cases he:q.after.toList=[]
    ·have he2:(!q.after.toList.isEmpty)=false:=by rw[he];rfl
     have he3:q.after.toList.isEmpty=true:=by rw[he];rfl
     have HALL:=lh (HYH.out ⟨fun _=>by rw[HQK.out];exact(Kh _).1 he,fun n=>by rw[HQK.out]at n;exact absurd HL1.out n⟩);clear he
     go_wp2_with (first
      | (go_at_call 127;go_fit (HC1.out _ (HY.out _ hH0).2.2.2.1.toHouseIn0 (HY.out _ hH0).2.2.2.2.2.2);rintro e w4 ⟨rfl,hb4⟩;rw[HR.out];have hH4:=hH0.trans (hb4.mono hnn);have hn4:=nt hnn hb4.size;obtain⟨-,-,⟨v0,v1⟩,-,-,⟨z0,z1,z2,z3,z4,z5,z6⟩,-⟩:=HY.out _ hH4;rw[HCA.out]at v0;rw[HPA.out]at v1)
      | (go_at_call 32;go_fit (HC2.out _ q.name (HY.out _ hH4).2.2.2.2.1);rintro e w5 ⟨rfl,hb5⟩;rw[HF.out];have hH5:=hH4.trans (hb5.mono hn4);have hn5:=nt hn4 hb5.size;obtain⟨-,-,⟨y0,y1⟩,-,-,⟨k0,k1,k2,k3,k4,k5,k6⟩,-⟩:=HY.out _ hH5;rw[HCA.out]at y0;rw[HPA.out]at y1)
      | (go_at_call 32;go_fit (HC2.out _ q.after (HY.out _ hH5).2.2.2.2.1);rintro e w6 ⟨rfl,hb6⟩;rw[HG.out];have hH6:=hH5.trans (hb6.mono hn5);have hn6:=nt hn5 hb6.size;obtain⟨-,-,-,-,-,⟨o0,o1,o2,o3,o4,o5,o6⟩,-⟩:=HY.out _ hH6))
     go_roundw
     case rel=>exact⟨k+1,by rw[HMT.out];go_num,by go_num,by omega,by rw[HMT.out];exact HM1.out,HALL,(HY.out _ hH6).1,nt HN1.out hn6⟩
     case measure=>simp[intOf];omega
    ·have he2:q.after.toList.isEmpty=false:=by
      cases e:q.after.toList.isEmpty
      ·rfl
      ·exact absurd (List.isEmpty_iff.1 e) he
     have HZ:=lh (HNH.out fun z=>he ((Kh _).2 (by have:=z.1;rw[HQK.out]at this;exact this HL1.out)));clear he
     go_wp2_with (first
      | (go_at_call 127;go_fit (HC1.out _ (HY.out _ hH0).2.2.2.1.toHouseIn0 (HY.out _ hH0).2.2.2.2.2.2);rintro e w4 ⟨rfl,hb4⟩;rw[HR.out];have hH4:=hH0.trans (hb4.mono hnn);have hn4:=nt hnn hb4.size;obtain⟨-,-,⟨v0,v1⟩,-,-,⟨z0,z1,z2,z3,z4,z5,z6⟩,-⟩:=HY.out _ hH4;rw[HCA.out]at v0;rw[HPA.out]at v1)
      | (go_at_call 32;go_fit (HC2.out _ q.name (HY.out _ hH4).2.2.2.2.1);rintro e w5 ⟨rfl,hb5⟩;rw[HF.out];have hH5:=hH4.trans (hb5.mono hn4);have hn5:=nt hn4 hb5.size;obtain⟨-,-,⟨y0,y1⟩,-,-,⟨k0,k1,k2,k3,k4,k5,k6⟩,-⟩:=HY.out _ hH5;rw[HCA.out]at y0;rw[HPA.out]at y1))
     go_ret;exact⟨Ab HZ.out.symm,HW.out _ (HY.out _ hH5).1⟩
   ·have g4:(q.link==1)=false:=beq_eq_false_iff_ne.2 hl1
    have g5:(q.link !=1)=true:=bne_iff_ne.2 hl1;have HL1:=lh hl1;clear hl1
    by_cases hg0:g<0
    ·have g6:decide (g<0)=true:=dT hg0
     have HZ:=lh (HNH.out fun z=>by have:=z.2;rw[HQK.out,HG.out]at this;have:=this HL1.out;omega);clear hg0
     go_wp2_with (first
      | (go_at_call 127;go_fit (HC1.out _ (HY.out _ hH0).2.2.2.1.toHouseIn0 (HY.out _ hH0).2.2.2.2.2.2);rintro e w4 ⟨rfl,hb4⟩;rw[HR.out];have hH4:=hH0.trans (hb4.mono hnn);have hn4:=nt hnn hb4.size;obtain⟨-,-,⟨v0,v1⟩,-,-,⟨z0,z1,z2,z3,z4,z5,z6⟩,-⟩:=HY.out _ hH4;rw[HCA.out]at v0;rw[HPA.out]at v1)
      | (go_at_call 32;go_fit (HC2.out _ q.name (HY.out _ hH4).2.2.2.2.1);rintro e w5 ⟨rfl,hb5⟩;rw[HF.out];have hH5:=hH4.trans (hb5.mono hn4);have hn5:=nt hn4 hb5.size;obtain⟨-,-,⟨y0,y1⟩,-,-,⟨k0,k1,k2,k3,k4,k5,k6⟩,-⟩:=HY.out _ hH5;rw[HCA.out]at y0;rw[HPA.out]at y1)
      | (go_at_call 32;go_fit (HC2.out _ q.after (HY.out _ hH5).2.2.2.2.1);rintro e w6 ⟨rfl,hb6⟩;rw[HG.out];have hH6:=hH5.trans (hb6.mono hn5);have hn6:=nt hn5 hb6.size;obtain⟨-,-,-,-,-,⟨o0,o1,o2,o3,o4,o5,o6⟩,-⟩:=HY.out _ hH6))
     go_ret;exact⟨Ab HZ.out.symm,HW.out _ (HY.out _ hH6).1⟩
    have g6:decide (g<0)=false:=dF hg0
    by_cases hg1:(k:Int)≤g
    ·have g7:decide ((k:Int)≤g)=true:=dT hg1
     have HZ:=lh (HNH.out fun z=>by have:=z.2;rw[HQK.out,HG.out]at this;have:=this HL1.out;omega);clear hg0 hg1
     go_wp2_with (first
      | (go_at_call 127;go_fit (HC1.out _ (HY.out _ hH0).2.2.2.1.toHouseIn0 (HY.out _ hH0).2.2.2.2.2.2);rintro e w4 ⟨rfl,hb4⟩;rw[HR.out];have hH4:=hH0.trans (hb4.mono hnn);have hn4:=nt hnn hb4.size;obtain⟨-,-,⟨v0,v1⟩,-,-,⟨z0,z1,z2,z3,z4,z5,z6⟩,-⟩:=HY.out _ hH4;rw[HCA.out]at v0;rw[HPA.out]at v1)
      | (go_at_call 32;go_fit (HC2.out _ q.name (HY.out _ hH4).2.2.2.2.1);rintro e w5 ⟨rfl,hb5⟩;rw[HF.out];have hH5:=hH4.trans (hb5.mono hn4);have hn5:=nt hn4 hb5.size;obtain⟨-,-,⟨y0,y1⟩,-,-,⟨k0,k1,k2,k3,k4,k5,k6⟩,-⟩:=HY.out _ hH5;rw[HCA.out]at y0;rw[HPA.out]at y1)
      | (go_at_call 32;go_fit (HC2.out _ q.after (HY.out _ hH5).2.2.2.2.1);rintro e w6 ⟨rfl,hb6⟩;rw[HG.out];have hH6:=hH5.trans (hb6.mono hn5);have hn6:=nt hn5 hb6.size;obtain⟨-,-,-,-,-,⟨o0,o1,o2,o3,o4,o5,o6⟩,-⟩:=HY.out _ hH6))
     go_ret;exact⟨Ab HZ.out.symm,HW.out _ (HY.out _ hH6).1⟩
    have g7:decide ((k:Int)≤g)=false:=dF hg1;have HALL:=lh (HYH.out ⟨fun n=>by rw[HQK.out]at n;exact absurd n HL1.out,fun _=>by rw[HQK.out,HG.out];omega⟩);clear hg0 hg1
    go_wp2_with (first
     | (go_at_call 127;go_fit (HC1.out _ (HY.out _ hH0).2.2.2.1.toHouseIn0 (HY.out _ hH0).2.2.2.2.2.2);rintro e w4 ⟨rfl,hb4⟩;rw[HR.out];have hH4:=hH0.trans (hb4.mono hnn);have hn4:=nt hnn hb4.size;obtain⟨-,-,⟨v0,v1⟩,-,-,⟨z0,z1,z2,z3,z4,z5,z6⟩,-⟩:=HY.out _ hH4;rw[HCA.out]at v0;rw[HPA.out]at v1)
     | (go_at_call 32;go_fit (HC2.out _ q.name (HY.out _ hH4).2.2.2.2.1);rintro e w5 ⟨rfl,hb5⟩;rw[HF.out];have hH5:=hH4.trans (hb5.mono hn4);have hn5:=nt hn4 hb5.size;obtain⟨-,-,⟨y0,y1⟩,-,-,⟨k0,k1,k2,k3,k4,k5,k6⟩,-⟩:=HY.out _ hH5;rw[HCA.out]at y0;rw[HPA.out]at y1)
     | (go_at_call 32;go_fit (HC2.out _ q.after (HY.out _ hH5).2.2.2.2.1);rintro e w6 ⟨rfl,hb6⟩;rw[HG.out];have hH6:=hH5.trans (hb6.mono hn5);have hn6:=nt hn5 hb6.size;obtain⟨-,-,-,-,-,⟨o0,o1,o2,o3,o4,o5,o6⟩,-⟩:=HY.out _ hH6))
    go_roundw
    case rel=>exact⟨k+1,by rw[HMT.out];go_num,by go_num,by omega,by rw[HMT.out];exact HM1.out,HALL,(HY.out _ hH6).1,nt HN1.out hn6⟩
    case measure=>simp[intOf];omega
  ·obtain rfl:k=s.cues.length:=by omega
   have HMALL:Hid ((Dx s.cues).length≤100):=lh (by rw[List.take_length]at hmt;exact hmt);obtain⟨mt,hmt2⟩:=nm ((Dx (s.cues.take s.cues.length)).length:Nat);rw[hmt2];clear hmt hmt2 hsi
   go_upto_region 17 with (fail)
   clear s0 s1
   go_loopw [9,10,11,12,13,14] (fun iv _ _ _ _ _ wx=>∃j:Nat,iv=.int .i64 j∧j≤s.pairs.length∧Below n₀ W0 wx∧n₀≤wx.heap.size∧Hid (∀x,x<j→Fx s.cues s.pairs x)) (fun iv _ _ _ _ _ _=>s.pairs.length-(intOf iv).toNat)
   case atStart=>exact⟨0,rfl,nz,hB,hnw,lh (fun _ z=>absurd z (Nat.not_lt_zero _))⟩
   case round=>
    clear hB hnw;obtain⟨j,rfl,hj,hB,hnw,HJ⟩:=hrel;obtain⟨-,⟨s0,s1⟩,-,hsi⟩:=HX.out _ hB;rw[HCA.out]at s0;rw[HPA.out]at s1
    by_cases hjt:j<s.pairs.length
    ·obtain⟨pb,po,hp1,-,-⟩:=hsi.plies (by omega)
     rw[HPA.out]at hp1;subst hp1;have HNP:Hid (¬Fx s.cues s.pairs j→Fd h s=false):=lh fun n=>HNO.out fun z=>n (z.pairs.2 j hjt)
     have HNJ:Hid (Fx s.cues s.pairs j→∀x,x<j+1→Fx s.cues s.pairs x):=lh fun z x hx=>by
      rcases Nat.lt_or_eq_of_le (Nat.le_of_lt_succ hx)with l | l
      ·exact HJ.out x l
      ·subst l;exact z
     have HPR:Hid (∀(w':World),Below n₀ W0 w'→∀i,i<s.pairs.length→w'.cell? ⟨pb,po+i*2,none⟩=some (.string (pg s.pairs i).1)∧w'.cell? ⟨pb,po+i*2+1,none⟩=some (.string (pg s.pairs i).2)):=lh fun w' z i hi=>by
      obtain⟨pb',po',e,-,ex⟩:=(HX.out w' z).2.2.2.plies (by omega);rw[HPA.out]at e
      cases e
      exact ex i hi
     obtain⟨y,hy⟩:=nm (pg s.pairs j);have HYK:=lh hy;have x1:∀w',Below n₀ W0 w'→w'.cell? ⟨B2,1,none⟩=some (.slice (some ⟨pb,po,none⟩) s.pairs.length s.pc):=fun w' z=>by rw[←HPA.out];exact(HX.out w' z).2.1.2
     have e0:∀w',Below n₀ W0 w'→w'.cell? ⟨pb,po+j*2,none⟩=some (.string y.1):=fun w' z=>by have:=(HPR.out w' z j hjt).1;rw[HYK.out]at this;exact this
     have e1:∀w',Below n₀ W0 w'→w'.cell? ⟨pb,po+j*2+1,none⟩=some (.string y.2):=fun w' z=>by have:=(HPR.out w' z j hjt).2;rw[HYK.out]at this;exact this
     have j0:0≤(j:Int):=by omega
     have j1:(j:Int)<(s.pairs.length:Int):=by omega
     have hnd:n₀≤wr.drew.heap.size:=hnw;clear hsi hy HJ;obtain⟨f1,hf1⟩:=nm (Cj s.cues y.1);obtain⟨f2,hf2⟩:=nm (Cj s.cues y.2);have HF1:=lh hf1;have HF2:=lh hf2;have hse:=Dj y.1 y.2;clear hf1 hf2
     go_upto_region 19 with (fail)
     clear s0 s1;refine wp_region_held_drew (S:=(Below n₀ W0)) (by kernel_rfl) (hB.drew) (fun hHeld=>?_);refine tk 0 ?_;refine tk 1 ?_;refine tk 2 ?_;refine tk 3 ?_;refine tk 4 ?_;refine tk 5 ?_;refine tk 6 ?_;refine tk 7 ?_;refine tk 8 ?_;refine tk 9 ?_;refine tk 10 ?_;refine tk 11 ?_;refine tk 12 ?_;refine tk 13 ?_;refine wpAnyH_done (by kernel_rfl) ?_ _;clear x1 e0 e1;obtain⟨-,⟨t0,t1⟩,-,-⟩:=HX.out _ hHeld;rw[HCA.out]at t0;rw[HPA.out]at t1;generalize wr.drew=W9 at *
     by_cases hg0:f1<0
     ·have g6:decide (f1<0)=true:=dT hg0
      have HZ:=lh (HNP.out fun z=>by have:=z.2.1;rw[HYK.out,HF1.out]at this;omega);clear hg0
      go_wp2_with (go_at_call 32;go_fit (HC2.out _ y.1 (HX.out _ hHeld).2.2.2);rintro e w5 ⟨rfl,hb5⟩;rw[HF1.out];have hH5:=hHeld.trans (hb5.mono hnd);have hn5:=nt hnd hb5.size;obtain⟨-,⟨y0,y1⟩,-,-⟩:=HX.out _ hH5;rw[HCA.out]at y0;rw[HPA.out]at y1)
      go_ret;exact⟨Ab HZ.out.symm,HW.out _ hH5⟩
     have g6:decide (f1<0)=false:=dF hg0
     by_cases hg1:f2<0
     ·have g7:decide (f2<0)=true:=dT hg1
      have HZ:=lh (HNP.out fun z=>by have:=z.2.2.1;rw[HYK.out,HF2.out]at this;omega);clear hg0 hg1
      go_wp2_with (first
       | (go_at_call 32;go_fit (HC2.out _ y.1 (HX.out _ hHeld).2.2.2);rintro e w5 ⟨rfl,hb5⟩;rw[HF1.out];have hH5:=hHeld.trans (hb5.mono hnd);have hn5:=nt hnd hb5.size;obtain⟨-,⟨y0,y1⟩,-,-⟩:=HX.out _ hH5;rw[HCA.out]at y0;rw[HPA.out]at y1)
       | (go_at_call 32;go_fit (HC2.out _ y.2 (HX.out _ hH5).2.2.2);rintro e w6 ⟨rfl,hb6⟩;rw[HF2.out];have hH6:=hH5.trans (hb6.mono hn5);have hn6:=nt hn5 hb6.size))
      go_ret;exact⟨Ab HZ.out.symm,HW.out _ hH6⟩
     have g7:decide (f2<0)=false:=dF hg1
     by_cases he:y.1=y.2
     ·have HZ:=lh (HNP.out fun z=>by have:=z.1;rw[HYK.out]at this;exact this he)
      rw[dT he]at hse;clear hg0 hg1 he
      go_wp2_with (first
       | (go_at_call 32;go_fit (HC2.out _ y.1 (HX.out _ hHeld).2.2.2);rintro e w5 ⟨rfl,hb5⟩;rw[HF1.out];have hH5:=hHeld.trans (hb5.mono hnd);have hn5:=nt hnd hb5.size;obtain⟨-,⟨y0,y1⟩,-,-⟩:=HX.out _ hH5;rw[HCA.out]at y0;rw[HPA.out]at y1)
       | (go_at_call 32;go_fit (HC2.out _ y.2 (HX.out _ hH5).2.2.2);rintro e w6 ⟨rfl,hb6⟩;rw[HF2.out];have hH6:=hH5.trans (hb6.mono hn5);have hn6:=nt hn5 hb6.size))
      go_ret;exact⟨Ab HZ.out.symm,HW.out _ hH6⟩
     have HPJ:Hid ((pg s.pairs j).1≠(pg s.pairs j).2∧0≤Cj s.cues (pg s.pairs j).1∧0≤Cj s.cues (pg s.pairs j).2):=lh (by rw[HYK.out,HF1.out,HF2.out];exact⟨he,by omega,by omega⟩);rw[dF he]at hse;clear hg0 hg1 he
     go_upto_region 23 with (first
      | (go_at_call 32;go_fit (HC2.out _ y.1 (HX.out _ hHeld).2.2.2);rintro e w5 ⟨rfl,hb5⟩;rw[HF1.out];have hH5:=hHeld.trans (hb5.mono hnd);have hn5:=nt hnd hb5.size;obtain⟨-,⟨y0,y1⟩,-,-⟩:=HX.out _ hH5;rw[HCA.out]at y0;rw[HPA.out]at y1)
      | (go_at_call 32;go_fit (HC2.out _ y.2 (HX.out _ hH5).2.2.2);rintro e w6 ⟨rfl,hb6⟩;rw[HF2.out];have hH6:=hH5.trans (hb6.mono hn5);have hn6:=nt hn5 hb6.size))
     clear t0 t1 g6 g7 y0 y1 hse hb5 hb6 hH5 hn5 hHeld hnd
     go_loopw [12,13,14] (fun kv _ _ wx=>∃k:Nat,kv=.int .i64 k∧k≤j∧Below n₀ W0 wx∧n₀≤wx.heap.size∧Hid (∀i,i<k→¬Ft (pg s.pairs i) y)) (fun kv _ _ _=>j-(intOf kv).toNat)
     case atStart=>exact⟨0,rfl,nz,hH6,hn6,lh (fun _ z=>absurd z (Nat.not_lt_zero _))⟩
     case round=>
      clear hH6 hn6;obtain⟨k,rfl,hk2,hBx,hnx,HKK⟩:=hrel
      by_cases hkt:k<j
      ·obtain⟨u,hu⟩:=nm (pg s.pairs k)
       have HUK:=lh hu;have x1:∀w',Below n₀ W0 w'→w'.cell? ⟨B2,1,none⟩=some (.slice (some ⟨pb,po,none⟩) s.pairs.length s.pc):=fun w' z=>by rw[←HPA.out];exact(HX.out w' z).2.1.2
       have e0:∀w',Below n₀ W0 w'→w'.cell? ⟨pb,po+k*2,none⟩=some (.string u.1):=fun w' z=>by have:=(HPR.out w' z k (by omega)).1;rw[HUK.out]at this;exact this
       have e1:∀w',Below n₀ W0 w'→w'.cell? ⟨pb,po+k*2+1,none⟩=some (.string u.2):=fun w' z=>by have:=(HPR.out w' z k (by omega)).2;rw[HUK.out]at this;exact this
       have k0:0≤(k:Int):=by omega
       have k1:(k:Int)<(s.pairs.length:Int):=by omega
       have hnd:n₀≤wr.drew.heap.size:=hnx;clear hu
       go_upto_region 25 with (fail)
       refine wp_region_held_drew (S:=(Below n₀ W0)) (by kernel_rfl) (hBx.drew) (fun hHeld=>?_);refine tk 0 ?_;refine tk 1 ?_;refine tk 2 ?_;refine tk 3 ?_;refine tk 4 ?_;refine tk 5 ?_;refine tk 6 ?_;refine tk 7 ?_;refine tk 8 ?_;refine tk 9 ?_;refine tk 10 ?_;refine tk 11 ?_;refine tk 12 ?_;refine tk 13 ?_;refine wpAnyH_done (by kernel_rfl) ?_ _;clear x1 e0 e1;generalize wr.drew=W8 at *;have HQ:=lh (ATu u y);have q1:=Dj u.1 y.1;have q2:=Dj u.2 y.2;have q3:=Dj u.1 y.2;have q4:=Dj u.2 y.1;have HNS:Hid (Ft u y→Fd h s=false):=lh fun z=>HNP.out fun n=>n.2.2.2 k hkt (by rw[HUK.out,HYK.out];exact z)
       have HYS:Hid (¬Ft u y→∀i,i<k+1→¬Ft (pg s.pairs i) y):=lh fun z i hi=>by
        rcases Nat.lt_or_eq_of_le (Nat.le_of_lt_succ hi)with l | l
        ·exact HKK.out i l
        ·subst l;rw[HUK.out];exact z
       generalize decide (u.1=y.1)=b1 at *;generalize decide (u.2=y.2)=b2 at *;generalize decide (u.1=y.2)=b3 at *;generalize decide (u.2=y.1)=b4 at *
       cases b1<;>cases b2<;>cases b3<;>cases b4
       all_goals first
        | (have HZ:=lh (HNS.out (HQ.out.2 rfl));go_wp2_with fail;go_ret;exact⟨Ab HZ.out.symm,HW.out _ hHeld⟩)
        | (have HZ:=lh (HYS.out fun z=>by have:=HQ.out.1 z;cases this);go_wp2_with fail;go_roundw;(case rel=>exact⟨k+1,by go_num,by omega,hHeld,hnd,HZ⟩);(case measure=>simp[intOf];omega))
      ·obtain rfl:k=j:=by omega
       have HALL:=lh (HNJ.out ⟨HPJ.out.1,HPJ.out.2.1,HPJ.out.2.2,by rw[HYK.out];exact HKK.out⟩)
       go_wp2_with fail
       go_roundw
       case rel=>exact⟨k+1,by go_num,by omega,hBx,hnx,HALL⟩
       case measure=>simp[intOf];omega
    ·obtain rfl:j=s.pairs.length:=by omega
     have HZ:=lh (Em.2 ⟨HV.out,by omega,HMALL.out,HA.out,by omega,HJ.out⟩);clear hsi
     go_wp2_with fail
     go_ret;exact⟨Ab HZ.out.symm,HW.out _ hB⟩
end
section
theorem APl(hs:List Int):∀k,k<(Di hs).length→∃m:Nat,ig (Di hs) k=m∧Hl hs ((Di hs).take k)=some m:=by
 have main:∀f out,Iu hs out→hs.length-out.length=f→(∀k,k<out.length→∃m:Nat,ig out k=m∧Hl hs (out.take k)=some m)→∀k,k<(Di hs).length→∃m:Nat,ig (Di hs) k=m∧Hl hs ((Di hs).take k)=some m:=by
  intro f
  induction f with
  | zero=>
   intro out h hf hq
   cases hn:Hl hs out with
   | none=>rw[h.ends hn];exact hq
   | some k=>have:=(h.next k hn).2;omega
  | succ f ih=>
   intro out h hf hq
   cases hn:Hl hs out with
   | none=>rw[h.ends hn];exact hq
   | some k=>
    obtain⟨h1,h2⟩:=h.next k hn;refine ih _ h1 (by rw[List.length_append,List.length_singleton];omega) fun j hj=>?_;rw[List.length_append,List.length_singleton]at hj;rcases Nat.lt_or_ge j out.length with l | l
    ·rw[AUj _ _ _ l,List.take_append_of_le_length (by omega)]
     exact hq j l
    ·obtain rfl:j=out.length:=by omega
     refine⟨k,AUr _ _,?_⟩;rw[List.take_append_of_le_length nr,List.take_length];exact hn
 exact main _ [] (Iu.start hs) rfl (fun k hk=>absurd hk (Nat.not_lt_zero _))
theorem AJz{hs out:List Int}{m:Nat}:Dr hs out m=true↔(m:Int)∉out∧(ig hs m<0∨ig hs m∈out):=by
 unfold Dr
 simp
theorem ATw(n:Nat)(l:List Int)(hn:l.Nodup)(h:∀x∈l,0≤x∧x<n)(hl:l.length=n)(i:Nat)(hi:i<n):(i:Int)∈l:=by
 by_cases hm:(i:Int)∈l
 ·exact hm
 ·have:=ABl n _ (Qy hn hm) (ABu h (Int.natCast_nonneg i) (by omega))
  rw[List.length_append,List.length_singleton]at this;omega
theorem AOh{l:List Int}(hn:l.Nodup){i j:Nat}(hi:i<j)(hj:j<l.length):ig l i≠ig l j:=by
 rw[Ie l i (by omega),Ie l j hj];exact List.pairwise_iff_getElem.1 hn i j (by omega) hj hi
theorem ANo{l:List Int}{x:Int}{k:Nat}(h:x∈l.take k):∃i,i<k∧i<l.length∧ig l i=x:=by
 obtain⟨i,hi,e⟩:=List.getElem_of_mem h;rw[List.length_take]at hi;refine⟨i,by omega,by omega,?_⟩;rw[Ie l i (by omega),←e,List.getElem_take]

/-! ### The reference's starts -/
def Qi(L:List An)(N G:List Int)(s:List Int)(i:Int):List Int:=
 s.set i.toNat (if(cg L i.toNat).link=1 then ig G (Cc L i.toNat)+(cg L i.toNat).delay else ig s (Cj L (cg L i.toNat).after).toNat+(cg L i.toNat).delay+if(cg L i.toNat).link=2 then ig N (Cj L (cg L i.toNat).after).toNat else 0)
def Ku(L:List An)(N G:List Int)(k:Nat):List Int:=((Di (Ci L)).take k).foldl (Qi L N G) (Fv L G 0)
theorem Tq(L:List An)(N G:List Int)(k:Nat)(h:k<(Di (Ci L)).length):Ku L N G (k+1)=Qi L N G (Ku L N G k) (ig (Di (Ci L)) k):=by
 unfold Ku;rw[List.take_add_one,AMi h,List.foldl_append]
 rfl
theorem ALi(L:List An)(N G s:List Int)(i:Int):(Qi L N G s i).length=s.length:=by unfold Qi;simp
theorem Fl(L:List An)(N G:List Int)(k:Nat):(Ku L N G k).length=L.length:=by
 have main:∀(l s:List Int),s.length=L.length→(l.foldl (Qi L N G) s).length=L.length:=by
  intro l
  induction l with
  | nil=>exact fun s h=>h
  | cons x r ih=>exact fun s h=>ih _ (by rw[ALi];exact h)
 exact main _ _ (Kr _ _ _)

theorem AAs{L:List An}(N G:List Int)(k:Nat)(hk:k≤(Di (Ci L)).length)(m:Nat)(hm:m<L.length)(hl:(cg L m).link=1):ig (Fu L N G k) m=ig G (Cc L m)+(cg L m).delay:=by
 induction k with
 | zero=>show ig (Fv L G L.length) m=_;rw[Su _ _ _ _ hm,if_pos ⟨hm,hl⟩]
 | succ k ih=>
  obtain⟨j,hj,e⟩:=Qx L k (by omega);rw[Nn L N G k (by omega),e];unfold Oq;rw[Int.toNat_natCast]
  split
  ·exact ih (by omega)
  ·next hl2=>
   rw[Jw _ _ _ _ (by rw[Dv];exact hj),if_neg (fun e=>hl2 (by rw[e];exact hl))];exact ih (by omega)
theorem AVc{L:List An}{A:List (ByteArray×ByteArray)}(h:Da L A=true)(N G:List Int):∀k,k≤(Di (Ci L)).length→∀i,i<k→ig (Fu L N G k) (ig (Di (Ci L)) i).toNat=ig (Ku L N G k) (ig (Di (Ci L)) i).toNat:=by
 intro k
 induction k with
 | zero=>exact fun _ i hi=>absurd hi (Nat.not_lt_zero _)
 | succ k ih=>
  intro hk i hi;have hnd:=(AAl (Ci L)).1.nd;obtain⟨m,hm,em⟩:=Qx L k (by omega);obtain⟨m',em',hnx⟩:=APl (Ci L) k (by omega);obtain rfl:m'=m:=by have:=em'.symm.trans em;omega
  have hrd:=AJz.1 (AIr hnx).2.1;rw[ADf L m' hm]at hrd;rw[Nn L N G k (by omega),Tq L N G k (by omega),em];unfold Oq Qi;rw[Int.toNat_natCast]
  -- the new one
  have hnew:∀v w:Int,v=w→i=k→ig ((Fu L N G k).set m' v) (ig (Di (Ci L)) i).toNat=ig ((Ku L N G k).set m' w) (ig (Di (Ci L)) i).toNat:=by
   intro v w e e2;subst e2;rw[em,Int.toNat_natCast,Jw _ _ _ _ (by rw[Dv];exact hm),Jw _ _ _ _ (by rw[Fl];exact hm),if_pos rfl,if_pos rfl,e]
  have hne:i≠k→m'≠(ig (Di (Ci L)) i).toNat:=by
   intro e e2;obtain⟨q,hq,eq⟩:=Qx L i (by omega);have:=AOh hnd (show i<k by omega) (by omega);rw[em,eq]at this;rw[eq,Int.toNat_natCast]at e2;exact this (by rw[e2])
  rcases(Dw h m' hm).2.2.2 with ⟨l1,_⟩ | ⟨_,l1,f,hf,hfa,_⟩
  ·rw[if_pos l1,if_pos l1]
   by_cases e:i=k
   ·subst e
    rw[em,Int.toNat_natCast,Jw _ _ _ _ (by rw[Fl];exact hm),if_pos rfl];exact AAs N G i (by omega) m' hm l1
   ·rw[Jw _ _ _ _ (by rw[Fl];exact hm),if_neg (hne e)]
    exact ih (by omega) i (by omega)
  ·rw[if_neg l1,if_neg l1]
   rw[Xk l1,hfa]at hrd
   by_cases e:i=k
   ·refine hnew _ _ ?_ e
    obtain⟨q,hq,_,eq⟩:=ANo (hrd.2.resolve_left (by omega));have:=ih (by omega) q hq;rw[eq,Int.toNat_natCast]at this;rw[hfa,Int.toNat_natCast,this]
   ·rw[Jw _ _ _ _ (by rw[Dv];exact hm),Jw _ _ _ _ (by rw[Fl];exact hm),if_neg (hne e),if_neg (hne e)]
    exact ih (by omega) i (by omega)
theorem ANm{L:List An}{A:List (ByteArray×ByteArray)}(h:Da L A=true)(N G:List Int)(hl:(Di (Ci L)).length=L.length):Ku L N G (Di (Ci L)).length=Kg L N G:=by
 refine AFl _ _ (by rw[Fl];unfold Kg;rw[Dv]) fun j hj=>?_;rw[Fl]at hj;obtain⟨h1,_⟩:=AAl (Ci L);have hm:=ATw L.length _ h1.nd (by have:=h1.inn;rw[Kq]at this;exact this) hl j hj;obtain⟨i,hi,e⟩:=List.getElem_of_mem hm;have:=AVc h N G _ nr i hi;rw[Ie _ i hi,e,Int.toNat_natCast]at this;exact this.symm
theorem AHx{L:List An}{A:List (ByteArray×ByteArray)}(h:Da L A=true){N G:List Int}(hG:G.any Bw=false)(hl:G.length=Cc L L.length)(hN:N.any Bw=false)(hlN:N.length=L.length)(k:Nat)(hk:k≤(Di (Ci L)).length):Small (Ku L N G k) (4294967296*(k+1)):=by
 induction k with
 | zero=>exact fun i hi=>⟨(Jq h hG hl 0 i hi).1,by have:=(Jq h hG hl 0 i hi).2;show ig (Fv L G 0) i≤_;omega⟩
 | succ k ih=>
  have ih':=ih (by omega);obtain⟨m,hm,e⟩:=Qx L k (by omega);intro i hi;rw[Fl]at hi;rw[Tq L N G k (by omega),e];unfold Qi;rw[Int.toNat_natCast,Jw _ _ _ _ (by rw[Fl];exact hm)];have hd:=(Dw h m hm).2.2.1;have b:=ih' i (by rw[Fl];exact hi);rcases(Dw h m hm).2.2.2 with ⟨l1,_⟩ | ⟨_,l1,f,hf,ef,_⟩
  ·rw[if_pos l1]
   have a:=Gx hG (Cc L m) (by rw[hl];exact Ry L m _ hm l1)
   split<;>omega
  ·rw[if_neg l1,ef,Int.toNat_natCast]
   have a:=ih' f (by rw[Fl];exact hf);have c:=Gx hN f (by rw[hlN];exact hf)
   split
   ·split<;>omega
   ·omega
end
section
open Go.RowKit Go.Shelf
theorem Rk(ca pa:Option Addr)(L:List An)(A:List (ByteArray×ByteArray))(cc pc n:Nat)(w:World)(hlen:L.length≤1000)(hn:n≤L.length)(hI:Gs w.heap.size w ca L):
  Calls Tryz.prog 133 #[.agg #[.slice ca L.length cc,.slice pa A.length pc],.int .i64 n] w fun e w'=>e=.returned (.int .i64 (Cc L n:Nat))∧Below w.heap.size w w':=by
 have hb0:Below w.heap.size w (w.alloc (.cells #[.slice ca L.length cc,.slice pa A.length pc] 29)):=Aa w _;have HI:=lh (hI.grow hb0);have HB0:=lh hb0;clear hb0 hI;have z0:(w.alloc (.cells #[.slice ca L.length cc,.slice pa A.length pc] 29)).cell? ⟨w.heap.size,0,none⟩=some (.slice ca L.length cc):=by simp
 go_enter Tryz.func133,Tryz.ntmps133
 go_wp2
 generalize (w.alloc (.cells #[.slice ca L.length cc,.slice pa A.length pc] 29))=W0 at *
 go_loop [5,6] (fun m i=>∃k:Nat,k≤n∧i=.int .i64 k∧m=.int .i64 (Cc L k:Nat)) (fun _ i=>n-(intOf i).toNat)
 case atStart=>exact⟨0,nz,rfl,rfl⟩
 case round=>
  obtain⟨k,hk,rfl,rfl⟩:=hrel;have hml:=Sf L k
  by_cases hlt:k<n
  ·obtain⟨b,off,rfl,hbl,hc⟩:=HI.out (by omega)
   obtain⟨_,_,d2,_⟩:=hc k (by omega);have hkl:k<L.length:=by omega
   clear hc
   by_cases l1:(cg L k).link=1
   ·have m1:((cg L k).link==1)=true:=beq_iff_eq.2 l1
    have HM:Hid (Cc L (k+1)=Cc L k+1):=lh (by simp only[Cc];rw[if_pos l1]);clear l1
    go_wp2
    go_round
    case rel=>exact⟨k+1,by omega,by go_num,by rw[HM.out];go_num⟩
    case measure=>simp[intOf];omega
   ·have m1:((cg L k).link==1)=false:=beq_eq_false_iff_ne.2 l1
    have HM:Hid (Cc L (k+1)=Cc L k):=lh (by simp only[Cc];rw[if_neg l1];rfl);clear l1
    go_wp2
    go_round
    case rel=>exact⟨k+1,by omega,by go_num,by rw[HM.out]⟩
    case measure=>simp[intOf];omega
  ·obtain rfl:k=n:=by omega
   go_wp2
   go_ret;exact⟨rfl,HB0.out⟩

def Hi(L:List An)(N G:List Int):Int:=if N.length=L.length∧G.length=Cc L L.length then(if N.any Bw||G.any Bw then 2 else 0)else 3
theorem Sj(n:Int)(w:World):Calls Tryz.prog 172 #[.int .i64 n,.int .i64 2147483648] w fun e w'=>e=.returned (.bool (!Bw n))∧w=w':=
 (ABa n 2147483648 w).mono fun e w' h=>⟨by rw[h.1];exact Ab (by unfold Bw Rr;rw[Bool.not_not]),h.2⟩
theorem Qg{S:List Int}(h:∀j,j<S.length→Bw (ig S j)=false):S.any Bw=false:=by
 rw[List.any_eq_false];intro x hx;obtain⟨i,hi,e⟩:=List.getElem_of_mem hx;have:=h i hi;rw[Ie S i hi,e]at this;rw[this];decide
theorem Sp{S:List Int}{k:Nat}(hk:k<S.length)(h:Bw (ig S k)=true):S.any Bw=true:=by
 rw[List.any_eq_true];exact⟨_,by rw[Ie S k hk];exact List.getElem_mem hk,h⟩

theorem Pd(ca pa na ga:Option Addr)(L:List An)(A:List (ByteArray×ByteArray))(N G:List Int)(cc pc nc gc:Nat)(w:World)(hlen:L.length≤1000)(hlN:N.length≤1000)(hlG:G.length≤1000)(hI:Gs w.heap.size w ca L)(hN:Bl w.heap.size w na N)(hG:Bl w.heap.size w ga G):
  Calls Tryz.prog 131 #[.agg #[.slice ca L.length cc,.slice pa A.length pc],.slice na N.length nc,.slice ga G.length gc] w fun e w'=>e=.returned (.int .i64 (Hi L N G))∧Below w.heap.size w w':=by
 have hb0:Below w.heap.size w (w.alloc (.cells #[.slice ca L.length cc,.slice pa A.length pc] 29)):=Aa w _;have HI:=lh (hI.grow hb0);have HN:=lh (hN.grow hb0);have HG:=lh (hG.grow hb0);have HX:Hid (∀wr,Below (w.alloc (.cells #[.slice ca L.length cc,.slice pa A.length pc] 29)).heap.size (w.alloc (.cells #[.slice ca L.length cc,.slice pa A.length pc] 29)) wr→Below w.heap.size w wr∧wr.cell? ⟨w.heap.size,0,none⟩=some (.slice ca L.length cc)∧wr.cell? ⟨w.heap.size,1,none⟩=some (.slice pa A.length pc)):=lh fun wr h=>⟨Dh _ h,On h⟩;clear hb0 hI hN hG;have z0:(w.alloc (.cells #[.slice ca L.length cc,.slice pa A.length pc] 29)).cell? ⟨w.heap.size,0,none⟩=some (.slice ca L.length cc):=by simp
 have z1:(w.alloc (.cells #[.slice ca L.length cc,.slice pa A.length pc] 29)).cell? ⟨w.heap.size,1,none⟩=some (.slice pa A.length pc):=by simp
 have hml:=Sf L L.length
 by_cases hn1:N.length=L.length
 ·have m1:((N.length:Int)!=(L.length:Int))=false:=by rw[bne_eq_false_iff_eq];omega
  by_cases hg1:G.length=Cc L L.length
  ·have m2:((G.length:Int)!=((Cc L L.length:Nat):Int))=false:=by rw[bne_eq_false_iff_eq];omega
   have HC:Hid (Hi L N G=if N.any Bw||G.any Bw then 2 else 0):=lh (by unfold Hi;rw[if_pos ⟨hn1,hg1⟩]);clear hn1 hg1
   go_enter Tryz.func131,Tryz.ntmps131
   go_wp2_with (go_at_call 133;go_fit (Rk _ _ L A _ _ L.length _ hlen nr HI.out);rintro e w1 ⟨rfl,hb1⟩)
   have hB:=hb1;clear hb1
   go_loop [7] (fun i=>∃k:Nat,k≤N.length∧i=.int .i64 k∧Hid (∀j,j<k→Bw (ig N j)=false)) (fun i=>N.length-(intOf i).toNat)
   case atStart=>exact⟨0,nz,rfl,lh (fun _ h=>absurd h (Nat.not_lt_zero _))⟩
   case round=>
    obtain⟨k,hk,rfl,HA⟩:=hrel
    by_cases hlt:k<N.length
    ·obtain⟨nb,no,rfl,hnl,hnc⟩:=HN.out (by omega)
     have n1:=(hB.cell (p:=⟨nb,no+k,none⟩) hnl).trans (hnc k hlt);clear hnc
     cases hwn:Bw (ig N k)
     ·have HWN:=lh hwn
      have HA':Hid (∀j,j<k+1→Bw (ig N j)=false):=lh fun j hj=>by
       rcases Nat.lt_or_ge j k with l | l
       ·exact HA.out j l
       ·obtain rfl:j=k:=by omega
        exact hwn
      clear hwn
      go_wp2_with (go_at_call 172;go_fit (Sj (ig N k) _);rintro e w' ⟨rfl,rfl⟩;rw[HWN.out])
      go_round
      case rel=>exact⟨k+1,by omega,by go_num,HA'⟩
      case measure=>simp[intOf];omega
     ·have HWN:=lh hwn
      have HP0:Hid (Hi L N G=2):=lh (by rw[HC.out,Sp hlt hwn];rfl);clear hwn
      go_wp2_with (go_at_call 172;go_fit (Sj (ig N k) _);rintro e w' ⟨rfl,rfl⟩;rw[HWN.out])
      go_ret;exact⟨Cu HP0.out.symm,(HX.out _ hB).1⟩
    ·obtain rfl:k=N.length:=by omega
     have HWN:=lh (Qg HA.out);clear HA hlt hk
     go_wp2_with fail
     go_loop [8] (fun i=>∃k:Nat,k≤G.length∧i=.int .i64 k∧Hid (∀j,j<k→Bw (ig G j)=false)) (fun i=>G.length-(intOf i).toNat)
     case atStart=>exact⟨0,nz,rfl,lh (fun _ h=>absurd h (Nat.not_lt_zero _))⟩
     case round=>
      obtain⟨k,hk,rfl,HA⟩:=hrel
      by_cases hlt:k<G.length
      ·obtain⟨gb,go,rfl,hnl,hnc⟩:=HG.out (by omega)
       have n1:=(hB.cell (p:=⟨gb,go+k,none⟩) hnl).trans (hnc k hlt);clear hnc
       cases hwn:Bw (ig G k)
       ·have HWN:=lh hwn
        have HA':Hid (∀j,j<k+1→Bw (ig G j)=false):=lh fun j hj=>by
         rcases Nat.lt_or_ge j k with l | l
         ·exact HA.out j l
         ·obtain rfl:j=k:=by omega
          exact hwn
        clear hwn
        go_wp2_with (go_at_call 172;go_fit (Sj (ig G k) _);rintro e w' ⟨rfl,rfl⟩;rw[HWN.out])
        go_round
        case rel=>exact⟨k+1,by omega,by go_num,HA'⟩
        case measure=>simp[intOf];omega
       ·have HWN:=lh hwn
        have HP0:Hid (Hi L N G=2):=lh (by rw[HC.out,Sp hlt hwn,Bool.or_true];rfl);clear hwn
        go_wp2_with (go_at_call 172;go_fit (Sj (ig G k) _);rintro e w' ⟨rfl,rfl⟩;rw[HWN.out])
        go_ret;exact⟨Cu HP0.out.symm,(HX.out _ hB).1⟩
      ·obtain rfl:k=G.length:=by omega
       have HWG:=lh (Qg HA.out);clear HA hlt hk
       go_wp2_with fail
       have HP0:Hid (Hi L N G=0):=lh (by rw[HC.out,HWN.out,HWG.out];rfl);go_ret;exact⟨Cu HP0.out.symm,(HX.out _ hB).1⟩
  ·have m2:((G.length:Int)!=((Cc L L.length:Nat):Int))=true:=bne_iff_ne.2 (by omega)
   have HP0:Hid (Hi L N G=3):=lh (by unfold Hi;rw[if_neg (fun h=>hg1 h.2)]);clear hn1 hg1
   go_enter Tryz.func131,Tryz.ntmps131
   go_wp2_with (go_at_call 133;go_fit (Rk _ _ L A _ _ L.length _ hlen nr HI.out);rintro e w1 ⟨rfl,hb1⟩)
   go_ret;exact⟨Cu HP0.out.symm,(HX.out _ hb1).1⟩
 ·have m1:((N.length:Int)!=(L.length:Int))=true:=bne_iff_ne.2 (by omega)
  have HP0:Hid (Hi L N G=3):=lh (by unfold Hi;rw[if_neg (fun h=>hn1 h.1)]);clear hn1
  go_enter Tryz.func131,Tryz.ntmps131
  go_wp2_with fail
  go_ret;exact⟨Cu HP0.out.symm,(HX.out _ br).1⟩
def Mj(hs out:List Int)(j:Nat)(kv:Int):Prop:=(kv=-1∧∀x,j≤x→x<hs.length→Dr hs out x=false)∨∃k:Nat,kv=k∧j≤k∧k<hs.length∧Dr hs out k=true∧∀x,j≤x→x<k→Dr hs out x=false
theorem AEb{hs out:List Int}{j:Nat}{kv:Int}(h:Mj hs out (j+1) kv)(hr:Dr hs out j=false):Mj hs out j kv:=by
 rcases h with ⟨e,h⟩ | ⟨k,e,h1,h2,h3,h4⟩
 ·refine .inl ⟨e,fun x hx hl=>?_⟩
  rcases Nat.eq_or_lt_of_le hx with e' | l
  ·rw[←e'];exact hr
  ·exact h x l hl
 ·refine .inr ⟨k,e,by omega,h2,h3,fun x hx hl=>?_⟩
  rcases Nat.eq_or_lt_of_le hx with e' | l
  ·rw[←e'];exact hr
  ·exact h4 x l hl
theorem Zx{hs out:List Int}{j:Nat}(hj:j<hs.length)(hr:Dr hs out j=true):Mj hs out j (j:Int):=.inr ⟨j,rfl,nr,hj,hr,fun x hx hl=>by omega⟩
theorem AJn{hs out:List Int}{kv:Int}(h:Mj hs out 0 kv):(kv=-1∧Hl hs out=none)∨∃k:Nat,kv=k∧k<hs.length∧Hl hs out=some k:=by
 rcases h with ⟨e,h⟩ | ⟨k,e,_,h2,h3,h4⟩
 ·exact .inl ⟨e,Za fun i hi=>h i nz hi⟩
 ·exact .inr ⟨k,e,h2,AAe k h2 h3 fun i hi=>h4 i nz hi⟩
def Xl(L:List An):List Int×Bool:=if(Di (Ci L)).length<L.length then([],false)else(Di (Ci L),true)
theorem AOd{hs out:List Int}(h:Iu hs out)(hl:out.length=hs.length):Di hs=out:=by
 rw[←h.eq,hl,Nat.sub_self]
 rfl

theorem Ru(ca pa:Option Addr)(L:List An)(A:List (ByteArray×ByteArray))(cc pc:Nat)(w:World)(hlk:Da L A=true)(hI:Gs w.heap.size w ca L):
  Calls Tryz.prog 132 #[.agg #[.slice ca L.length cc,.slice pa A.length pc]] w fun e w'=>Hid (∃v,e=.returned (.tuple #[v,.bool (Xl L).2])∧w'.ownsRow w.heap.size 3 1 v (Xl L).1.length (Ap (Xl L).1)∧Below w.heap.size w w'):=by
 have hlen:=(Rg hlk).1;have HLK:=lh hlk;clear hlk;have hb0:Below w.heap.size w (w.alloc (.cells #[.slice ca L.length cc,.slice pa A.length pc] 29)):=Aa w _;have HI:=lh (hI.grow hb0);clear hI;have HX:Hid (∀wr,Below (w.alloc (.cells #[.slice ca L.length cc,.slice pa A.length pc] 29)).heap.size (w.alloc (.cells #[.slice ca L.length cc,.slice pa A.length pc] 29)) wr→Below w.heap.size w wr∧wr.cell? ⟨w.heap.size,0,none⟩=some (.slice ca L.length cc)∧wr.cell? ⟨w.heap.size,1,none⟩=some (.slice pa A.length pc)):=lh fun wr h=>⟨Dh _ h,On h⟩;have hz0:w.heap.size<(w.alloc (.cells #[.slice ca L.length cc,.slice pa A.length pc] 29)).heap.size:=by simp
 have z0:(w.alloc (.cells #[.slice ca L.length cc,.slice pa A.length pc] 29)).cell? ⟨w.heap.size,0,none⟩=some (.slice ca L.length cc):=by simp
 have z1:(w.alloc (.cells #[.slice ca L.length cc,.slice pa A.length pc] 29)).cell? ⟨w.heap.size,1,none⟩=some (.slice pa A.length pc):=by simp
 have hW0:(w.alloc (.cells #[.slice ca L.length cc,.slice pa A.length pc] 29)).heap.size=w.heap.size+1:=by simp
 have HW0:=lh hW0;clear hW0;obtain⟨i0,hi,hz1,hz2,hz3⟩:=info_parts ACu;obtain⟨hs,HH⟩:∃hs,Hid (Ci L=hs):=⟨_,lh rfl⟩;have HHL:Hid (hs.length=L.length):=lh (by rw[←HH.out,Kq]);have HAT:Hid (∀k,k<L.length→ig hs k=Nz L k):=lh fun k hk=>by rw[←HH.out];exact ADf L k hk
 have HRR:Hid (Xl L=if(Di hs).length<L.length then([],false)else(Di hs,true)):=lh (by unfold Xl;rw[HH.out]);clear hb0
 go_enter Tryz.func132,Tryz.ntmps132
 go_wp2_with (at_make;refine wpList_make_full _ rfl _ _ 217 rfl _ 4 i0 (.bool false) 1 Tryz.underlying217 hi hz1 hz2 _ _ _ _ L.length rfl rfl rfl rfl (by rw[hz3];omega) (by unfold maxLen;omega) nr ?_;intro w2 hown2 hg2;try rw[World.size_alloc]at hown2;have HD2:=lh (show w2.ownsRow (w.heap.size+1) 4 1 (.slice (some ⟨w.heap.size+1,0,none⟩) L.length L.length) L.length (Kb (Jr L.length []))by(rw[←Vv];exact hown2));have hBW:Below (w.heap.size+1) (w.alloc (.cells #[.slice ca L.length cc,.slice pa A.length pc] 29)) w2:=(br).grown hg2 (by simp) (fun k e=>by cases e);have f0:=hg2.cell z0 (by simp);have f1:=hg2.cell z1 (by simp);clear hown2)
 generalize w.alloc (.cells #[.slice ca L.length cc,.slice pa A.length pc] 29)=W0 at *;have hg1:w.heap.size+1<w2.heap.size:=(HD2.out.lt _ rfl).2;have HI2:Hid (Gs (w.heap.size+1) w2 ca L):=lh (by have:=HI.out;rw[HW0.out]at this;exact this.below hBW);have HZ0:=lh f0;have HZ1:=lh f1;have HF:Hid (∀wr,Below (w.heap.size+1) w2 wr→Below w.heap.size w wr):=lh fun wr h=>(HX.out _ (by rw[HW0.out];exact hBW.trans h)).1;have hL:L.length≤60:=hlen;clear f0 f1 z0 z1 hBW HI hg2 HX hz0;generalize hgg:w.heap.size+1=g at *;have hwg:w.heap.size<g:=by omega
 clear hgg
 go_loopw [5] (fun v wr=>∃out:List Int,Hid (Iu hs out)∧Hid (∃a' c',v=.slice a' out.length c')∧Hid (wr.ownsRow w2.heap.size 3 1 v out.length (Ap out))∧Hid (wr.ownsRow g 4 1 (.slice (some ⟨g,0,none⟩) L.length L.length) L.length (Kb (Jr L.length out)))∧Below g w2 wr∧w2.heap.size≤wr.heap.size) (fun v _=>(match v with | .slice _ n _=>L.length+1-n | _=>0))
 case atStart=>exact⟨[],lh (Iu.start hs),lh ⟨_,_,rfl⟩,lh (World.ownsRow_nil _ _ _ _),HD2,br,nr⟩
 case round=>
  clear HD2;obtain⟨out,HO,HV,HR,HD,hB,hws⟩:=hrel;obtain⟨a',c',rfl⟩:=HV.out;have hol:out.length≤L.length:=by have:=HO.out.len;rw[HHL.out]at this;exact this
  have z0:=(ct hB HZ0.out hwg);have z1:=(ct hB HZ1.out hwg)
  by_cases hfull:out.length<L.length
  ·go_wp2_with fail
   obtain⟨wo,hwo⟩:∃wo:World,wo=wr:=⟨_,rfl⟩;subst hwo
   go_loopw [6,7] (fun kv i wq=>∃(j:Nat) (k i':Int),j≤L.length∧i=.int .i64 i'∧kv=.int .i64 k∧Hid (i'=(j:Int)-1)∧Hid (Mj hs out j k)∧Below wo.heap.size wo wq) (fun _ i _=>(intOf i+1).toNat)
   case atStart=>exact⟨L.length,-1,_,nr,rfl,rfl,lh rfl,lh (.inl ⟨rfl,fun x hx hl=>by have:=HHL.out;omega⟩),br⟩
   case round=>
    obtain⟨j,kv,i',hj,rfl,rfl,HI',HLF,hB3⟩:=hrel;have hgo:g<wo.heap.size:=by omega
    have hbs3:=hB3.size;have y0:=(ct hB3 z0 (show w.heap.size<wo.heap.size by omega));have y1:=(ct hB3 z1 (show w.heap.size<wo.heap.size by omega));rcases Nat.eq_zero_or_pos j with rfl | hpos
    ·obtain rfl:i'=-1:=by have:=HI'.out;omega
     rcases AJn HLF.out with ⟨rfl,hnx⟩ | ⟨k,rfl,hk,hnx⟩
     ·have HE:=lh (HO.out.ends hnx)
      have HP0:Hid (Xl L=([],false)):=lh (by rw[HRR.out,HE.out,if_pos hfull]);clear hnx
      go_wp2_with fail
      go_ret2
      rw[HP0.out];exact lh ⟨_,rfl,World.ownsRow_nil _ _ _ _,HF.out _ (hB.trans (hB3.mono (by omega)))⟩
     ·have HNX:=lh (HO.out.next k hnx)
      have hkL:k<L.length:=by have:=HHL.out;omega
      have HD3:=lh (Ac HD.out hB3);have HR3:=lh (Ac HR.out hB3);have dk:=AAv HD3.out k hkL;have hfz:=HD3.out.frozenAt k;have hst:=HD3.out.stored k (.bool true);rw[Zd]at hst;have HST:=lh hst.1;have hgr:g<wr.heap.size:=by omega
      have HRS:=lh (ownsRow_setCell_below HR3.out (a:=⟨g,k,none⟩) (show g<w2.heap.size from hg1) (.bool true));have HBS:Hid (Below g w2 (wr.setCell ⟨g,k,none⟩ (.bool true))):=lh ((hB.trans (hB3.mono (by omega))).setCell (show g≤(⟨g,k,none⟩:Addr).block from nr) _);clear hst hnx
      go_wp2_with (at_builtin;refine Fe rfl _ _ rfl w2.heap.size _ out rfl (HRS.out.alloc _) _ (k:Int) rfl (AAq _ _ _ _ _) (by omega) (by first | omega | (simp;omega)) ?_;intro v3 w3 hown3 hg3)
      have hBn:Below g w2 w3:=Hb (HRS.out.alloc _) hg3 (HBS.out.alloc (by first | omega | (simp;omega)) _) (by first | omega | (simp;omega)) (by omega)
      have HDn:=lh ((HST.out.alloc _).kept hg3 (.inr (by
       intro e;have:w2.heap.size≤g:=(HRS.out.lt _ e.symm).1;omega)))
      have hs3:w2.heap.size≤w3.heap.size:=by have:=hg3.size;simp at this;omega
      go_roundw
      case rel=>exact⟨_,lh HNX.out.1,lh (by obtain⟨a3,c3,e,_⟩:=Be hown3;exact⟨a3,c3,e⟩),lh hown3,HDn,hBn,hs3⟩
      case measure=>
       have:=HNX.out.2;obtain⟨a3,c3,e,_⟩:=Be hown3;rw[e]
       simp
       omega
    ·obtain⟨m,rfl⟩:∃m,j=m+1:=⟨j-1,by omega⟩
     obtain rfl:i'=(m:Int):=by have:=HI'.out;omega
     have hmL:m<L.length:=by omega
     have hmh:m<hs.length:=by have:=HHL.out;omega
     have HDM:=lh (show ∀i,i<L.length→wr.cell? ⟨g,i,none⟩=some (.bool (decide ((i:Int)∈out)))from fun i hi=>(hB3.cell (p:=⟨g,i,none⟩) hgo).trans (AAv HD.out i hi));have dm:=HDM.out m hmL;obtain⟨b,off,rfl,hbl,hc⟩:=HI2.out (by omega);have e1:=(hB3.cell (p:=⟨b,off+m*7+1,none⟩) (show b<wo.heap.size by omega)).trans ((hB.cell (p:=⟨b,off+m*7+1,none⟩) hbl).trans (hc m hmL).2.1);have hat:=HAT.out m hmL;have hlc:=(Dw HLK.out m hmL).2.2.2;clear hc
     by_cases hmo:(m:Int)∈out
     ·rw[dT hmo]at dm
      have HL1:=lh (AEb HLF.out (ADb hmo));clear hmo hat hlc HI'
      go_wp2_with fail
      go_quiet (fail)
      go_wp2_with fail
      go_roundw
      case rel=>exact⟨m,kv,_,by omega,rfl,rfl,lh rfl,HL1,Aj hB3 _⟩
      case measure=>first | (simp[intOf];done) | (simp[intOf];omega)
     ·rw[dF hmo]at dm
      rcases hlc with ⟨l1,ha⟩ | ⟨_,l1,f,hf,hfa,_⟩
      ·have hs1:(cg L m).after.toList=[]:=(Kh _).2 ha
       have HL1:=lh (Zx hmh (Zk hmo (by rw[hat,ACp l1];decide)));clear hmo hat l1 ha HI'
       go_wp2_with fail
       go_quiet (fail)
       go_wp2_with fail
       go_roundw
       case rel=>exact⟨m,_,_,by omega,rfl,rfl,lh rfl,HL1,Aj hB3 _⟩
       case measure=>first | (simp[intOf];done) | (simp[intOf];omega)
      ·have hs1:(cg L m).after.toList.isEmpty=false:=by
        cases he:(cg L m).after.toList with
        | nil=>
         exfalso
         have hnm:=(Dw HLK.out f hf).1;obtain⟨_,h2,_⟩:=Xj L (cg L m).after (by omega);rw[hfa,Int.toNat_natCast]at h2;rw[h2,(Kh _).1 he]at hnm
         revert hnm;decide
        | cons x r=>rfl
       have HFA:=lh hfa;have hhf:ig hs m=f:=by rw[hat,Xk l1,hfa]
       have df:=HDM.out f hf;have HCR:=lh (((HI2.out.below hB).mono (show g≤wo.heap.size by omega)).grow hB3);have hbr:=Below.refl wr.heap.size wr;obtain⟨bv,hbv⟩:=nm (decide ((f:Int)∈out));rw[hbv]at df
       have HRD:Hid (Dr hs out m=bv):=lh (by
        cases bv
        ·exact ACg hhf (of_decide_eq_false hbv)
        ·exact Wx hmo hhf (of_decide_eq_true hbv))
       have HS:Hid (∀w',Below wr.heap.size wr w'→Below wr.heap.size wr w'∧w'.cell? ⟨w.heap.size,0,none⟩=some (.slice (some ⟨b,off,none⟩) L.length cc)∧w'.cell? ⟨w.heap.size,1,none⟩=some (.slice pa A.length pc)∧w'.cell? ⟨b,off+m*7+1,none⟩=some (.string (cg L m).after)∧w'.cell? ⟨g,m,none⟩=some (.bool false)∧w'.cell? ⟨g,f,none⟩=some (.bool bv)):=lh fun w' h=>
        ⟨h,(ct h y0 (wl y0)),(ct h y1 (wl y1)),(ct h e1 (wl e1)),(ct h dm (wl dm)),(ct h df (wl df))⟩
       clear hmo hat l1 HI' hfa hhf hbv
       go_wp2_with fail
       go_region_held3 (fun w'=>Below wr.heap.size wr w'∧w'.cell? ⟨w.heap.size,0,none⟩=some (.slice (some ⟨b,off,none⟩) L.length cc)∧w'.cell? ⟨w.heap.size,1,none⟩=some (.slice pa A.length pc)∧w'.cell? ⟨b,off+m*7+1,none⟩=some (.string (cg L m).after)∧w'.cell? ⟨g,m,none⟩=some (.bool false)∧w'.cell? ⟨g,f,none⟩=some (.bool bv))
        (first | exact HS.out _ hbn | exact HS.out _ hbr.drew | go_keep)
        (first
         | (go_at_call 134;go_split_ands;go_fit (Pb _ L _ _ (cg L m).after _ (by omega) ?_);(next=>exact HCR.out.grow (by assumption));rintro e w4 ⟨rfl,hb4⟩;rw[HFA.out];have hbn:=ASb (wr:=wr) (by assumption) hb4))
       cases bv
       ·have HL1:=lh (AEb HLF.out HRD.out)
        go_wp2_with fail
        go_roundw
        case rel=>exact⟨m,kv,_,by omega,rfl,rfl,lh rfl,HL1,hB3.trans (hbn.mono hB3.size)⟩
        case measure=>first | (simp[intOf];done) | (simp[intOf];omega)
       ·have HL1:=lh (Zx hmh HRD.out)
        go_wp2_with fail
        go_roundw
        case rel=>exact⟨m,_,_,by omega,rfl,rfl,lh rfl,HL1,hB3.trans (hbn.mono hB3.size)⟩
        case measure=>first | (simp[intOf];done) | (simp[intOf];omega)
  ·have HE:=lh (AOd HO.out (by have:=HHL.out;omega))
   have HP0:Hid (Xl L=(out,true)):=lh (by rw[HRR.out,HE.out,if_neg hfull])
   go_wp2_with fail
   go_ret2
   rw[HP0.out];exact lh ⟨_,rfl,Bn HR.out (by omega),HF.out _ hB⟩
theorem Yo(ca pa na ga:Option Addr)(L:List An)(A:List (ByteArray×ByteArray))(N G:List Int)(cc pc nc gc:Nat)(w:World)(hlk:Da L A=true)(hlN:N.length≤1000)(hlG:G.length≤1000)(hI:Gs w.heap.size w ca L)(hN:Bl w.heap.size w na N)(hG:Bl w.heap.size w ga G):
  Calls Tryz.prog 84 #[.agg #[.slice ca L.length cc,.slice pa A.length pc],.slice na N.length nc,.slice ga G.length gc] w fun e w'=>Hid (∃v,e=.returned (.tuple #[v,.int .i64 (Ca L A N G).2])∧w'.ownsRow w.heap.size 3 1 v (Ca L A N G).1.length (Ap (Ca L A N G).1)∧Below w.heap.size w w'):=by
 have hb0:Below w.heap.size w (w.alloc (.cells #[.slice ca L.length cc,.slice pa A.length pc] 29)):=Aa w _;have HI:=lh (hI.grow hb0);have HN:=lh (hN.grow hb0);have HG:=lh (hG.grow hb0);have HX:Hid (∀wr,Below (w.alloc (.cells #[.slice ca L.length cc,.slice pa A.length pc] 29)).heap.size (w.alloc (.cells #[.slice ca L.length cc,.slice pa A.length pc] 29)) wr→Below w.heap.size w wr∧wr.cell? ⟨w.heap.size,0,none⟩=some (.slice ca L.length cc)∧wr.cell? ⟨w.heap.size,1,none⟩=some (.slice pa A.length pc)):=lh fun wr h=>⟨Dh _ h,On h⟩;have hz0:w.heap.size≤(w.alloc (.cells #[.slice ca L.length cc,.slice pa A.length pc] 29)).heap.size:=hb0.size;clear hb0 hI hN hG;obtain⟨i0,hi,hy1,hy2,hy3⟩:=info_parts Mi;have HLK:=lh hlk;obtain⟨hl60,hlA⟩:=Rg hlk;have HC1:Hid (Ca L A N G=if N.length=L.length∧G.length=Cc L L.length then(if N.any Bw||G.any Bw then([],2)else if(Di (Ci L)).length<L.length then([],23)else(Kg L N G,0))else([],3)):=lh (by unfold Ca;rw[hlk,if_pos rfl]);clear hlk
 by_cases hne:Hi L N G=0
 ·have HGE:=lh hne
  have hcnd:N.length=L.length∧G.length=Cc L L.length:=by
   unfold Hi at hne
   split at hne
   ·assumption
   ·omega
  have hany:N.any Bw=false∧G.any Bw=false:=by
   unfold Hi at hne;rw[if_pos hcnd]at hne
   split at hne
   ·omega
   ·next hx=>simpa using hx
  have HNL:=lh hcnd.1;have HGL:=lh hcnd.2;have HWN':=lh hany.1;have HWG':=lh hany.2;have HC3:Hid (Ca L A N G=if(Di (Ci L)).length<L.length then([],23)else(Kg L N G,0)):=lh (by rw[HC1.out,if_pos hcnd,hany.1,hany.2];rfl);clear hne hcnd hany
  by_cases ho:(Di (Ci L)).length<L.length
  ·have HOR:Hid (Xl L=([],false)):=lh (by unfold Xl;rw[if_pos ho])
   have HP0:Hid (Ca L A N G=([],23)):=lh (by rw[HC3.out,if_pos ho])
   go_enter Tryz.func84,Tryz.ntmps84
   go_wp2_with (first
    | (go_at_call 131;go_fit (Pd _ _ _ _ L A N G _ _ _ _ _ (by omega) (by omega) (by omega) HI.out HN.out HG.out);rintro e w1 ⟨rfl,hb1⟩;rw[HGE.out];obtain⟨hB1,z0,z1⟩:=HX.out _ hb1)
    | (go_at_call 132;go_fit (Ru _ _ L A _ _ _ HLK.out (HI.out.grow hb1));rintro e w2 hx;obtain⟨v2,rfl,hr2,hb2⟩:=hx.out;rw[HOR.out]at hr2;rw[HOR.out];have hB2:=hb1.trans (hb2.mono hb1.size);obtain⟨hB2',y0,y1⟩:=HX.out _ hB2;obtain⟨oa,oc,rfl,_,_,_,hno⟩:=Be hr2;have HNO:=lh hno;clear hx hr2 hno))
   go_ret2
   rw[HP0.out];exact lh ⟨_,rfl,World.ownsRow_nil _ _ _ _,hB2'⟩
  ·have hole:=AGc L
   have HOR0:Hid (Xl L=(Di (Ci L),true)):=lh (by unfold Xl;rw[if_neg ho]);have HORD:Hid (∀k,k<(Di (Ci L)).length→∃m:Nat,m<L.length∧ig (Di (Ci L)) k=m):=lh fun k hk=>Qx L k hk;have HSM2:Hid (∀k,k≤(Di (Ci L)).length→Small (Ku L N G k) (4294967296*(k+1))):=lh fun k hk=>AHx HLK.out HWG'.out HGL.out HWN'.out HNL.out k hk;have HP2S:Hid (∀k,k<(Di (Ci L)).length→Ku L N G (k+1)=Qi L N G (Ku L N G k) (ig (Di (Ci L)) k)):=lh fun k hk=>Tq L N G k hk;have HSV:Hid (Ca L A N G=(Ku L N G (Di (Ci L)).length,0)):=lh (by rw[HC3.out,if_neg ho,ANm HLK.out N G (by omega)]);obtain⟨O,HO⟩:∃O,Hid (Di (Ci L)=O):=⟨_,lh rfl⟩;rw[HO.out]at HOR0 hole HORD HSM2 HP2S HSV ho;have HOR:=HOR0;have HOL:Hid (O.length=L.length):=lh (by omega);clear HOR0 ho
   go_enter Tryz.func84,Tryz.ntmps84
   go_wp2_with (first
    | (go_at_call 131;go_fit (Pd _ _ _ _ L A N G _ _ _ _ _ (by omega) (by omega) (by omega) HI.out HN.out HG.out);rintro e w1 ⟨rfl,hb1⟩;rw[HGE.out];obtain⟨hB1,z0,z1⟩:=HX.out _ hb1)
    | (go_at_call 132;go_fit (Ru _ _ L A _ _ _ HLK.out (HI.out.grow hb1));rintro e w2 hx;obtain⟨v2,rfl,hr2,hb2⟩:=hx.out;rw[HOR.out]at hr2;rw[HOR.out];have hB2:=hb1.trans (hb2.mono hb1.size);obtain⟨hB2',y0,y1⟩:=HX.out _ hB2;obtain⟨oa,oc,rfl,_,_,_,hno⟩:=Be hr2;have HNO:=lh hno;clear hx hr2 hno)
    | (at_make;refine wpList_make_full _ rfl _ _ 30 rfl w2.heap.size 3 i0 (.int .i64 0) 1 Tryz.underlying30 hi hy1 hy2 _ _ _ _ L.length rfl rfl rfl rfl (by rw[hy3];omega) (by unfold maxLen;omega) nr ?_;intro w5 hown5 hg5;have HD5:=lh (show w5.ownsRow w2.heap.size 3 1 (.slice (some ⟨w2.heap.size,0,none⟩) L.length L.length) L.length (Ap (Fv L G 0))by rw[←AAd L G L.length rfl];exact hown5);have f0:=hg5.cell y0 (by simp);have f1:=hg5.cell y1 (by simp);clear hown5))
   have hB45:Below w2.heap.size w2 w5:=(br).grown hg5 nr (fun k e=>by cases e);have hs4:=hB2.size;have hw45:w2.heap.size<w5.heap.size:=(HD5.out.lt _ rfl).2;have HI5:=lh ((HI.out.grow hB2).below hB45);have HG5:=lh ((HG.out.grow hB2).below hB45);have HN5:=lh ((HN.out.grow hB2).below hB45);have HO5:=lh (HNO.out.below hB45);have hw4:w.heap.size<w2.heap.size:=wl y0;have HZ0:=lh f0;have HZ1:=lh f1;have HFIN:Hid (∀wr,Below w2.heap.size w5 wr→Below w.heap.size w wr):=lh fun wr h=>(HX.out _ (hB2.trans ((hB45.trans h).mono hs4))).1;clear hb1 hb2 hB2 y0 y1 hB2' hg5 HNO HI HG HN z0 z1 f0 f1 hB1 hB45;generalize hgg:w2.heap.size=g at *;clear hgg
   go_loopw [12] (fun i wr=>∃k:Nat,k≤O.length∧i=.int .i64 k∧Below g w5 wr∧Hid (wr.ownsRow g 3 1 (.slice (some ⟨g,0,none⟩) L.length L.length) L.length (Ap (Ku L N G k)))∧w5.heap.size≤wr.heap.size) (fun i _=>O.length-(intOf i).toNat)
   case atStart=>exact⟨0,nz,rfl,br,HD5,nr⟩
   case round=>
    clear HD5;obtain⟨k,hk,rfl,hB,HR,hws⟩:=hrel;have z0:=(ct hB HZ0.out hw4);have z1:=(ct hB HZ1.out hw4);have hbz:w.heap.size<wr.heap.size:=by omega
    by_cases hlt:k<O.length
    ·obtain⟨ob,oo,rfl,hol,hoc⟩:=HO5.out (by omega)
     obtain⟨m,hm,hmo⟩:=HORD.out k hlt;have o0:=(hB.cell (p:=⟨ob,oo+k,none⟩) hol).trans (hoc k hlt);rw[hmo]at o0;have HPS:=lh (HP2S.out k hlt);rw[hmo]at HPS;obtain⟨b,off,rfl,hbl,hc⟩:=HI5.out (by omega);obtain⟨c0,c1,c2,c3,c4,c5,c6⟩:=hc m hm;have d0:=(ct hB c0 hbl);have d1:=(ct hB c1 hbl);have d2:=(ct hB c2 hbl);have d3:=(ct hB c3 hbl);have d4:=(ct hB c4 hbl);have d5:=(ct hB c5 hbl);have d6:=(ct hB c6 hbl);have HSM:=lh (HSM2.out k (by omega));have how:g<wr.heap.size:=by omega
     have HWA:=lh (Aa wr (.cells #[.string (cg L m).name,.string (cg L m).after,.int .i64 (cg L m).link,.int .i64 (cg L m).delay,.slice (cg L m).ma (cg L m).moves.length (cg L m).mc,.int .i64 (cg L m).crew,.int .i64 (cg L m).power] 86));have hl6:(Ku L N G k).length=L.length:=Fl L N G k;have HL6:=lh hl6;clear hc c0 c1 c2 c3 c4 c5 c6 hoc hmo hl6;obtain⟨q1,q2⟩:=(Dw HLK.out m hm).2.2.1;rcases(Dw HLK.out m hm).2.2.2 with ⟨l1,hempty⟩ | ⟨l23,l1,f,hf,hfa,hfm⟩
     ·have m1:((cg L m).link==1)=true:=beq_iff_eq.2 l1
      have hmg:Cc L m<G.length:=by rw[HGL.out];exact Ry L m _ hm l1
      obtain⟨gb,go,rfl,hgl,hgc⟩:=HG5.out (by omega);have HGC:=lh ((hB.cell (p:=⟨gb,go+Cc L m,none⟩) hgl).trans (hgc _ hmg));obtain⟨q3,q4⟩:=Gx HWG'.out _ hmg;have HSTEP:Hid (Ku L N G (k+1)=(Ku L N G k).set m (ig G (Cc L m)+(cg L m).delay)):=lh (by rw[HPS.out];unfold Qi;rw[Int.toNat_natCast,if_pos l1]);clear hgc l1 hempty;generalize Ku L N G k=s at *
      go_wp2_with fail
      have s1:IntKind.i64.wrap (ig G (Cc L m)+(cg L m).delay)=ig G (Cc L m)+(cg L m).delay:=IntWalk.i64_in _ (by omega);have HCA:=lh (((HI5.out.below hB).mono (show g≤wr.heap.size by omega)).grow HWA.out);have hgw:gb<wr.heap.size:=by omega
      go_region_law (first
       | (go_simp;go_at_call 133;go_fit (Rk _ _ L A _ _ m _ (by omega) (by omega) ?_);(next=>exact HCA.out);rintro e w6 ⟨rfl,hb6⟩;have hs6:wr.heap.size<w6.heap.size:=(by have:=hb6.size;simp at this;omega);have x3:=(hb6.cell (p:=⟨wr.heap.size,3,none⟩) (by simp)).trans (show _=some (.int .i64 (cg L m).delay)by simp);have gG:=(hb6.cell (p:=⟨gb,go+Cc L m,none⟩) (by simp;omega)).trans ((World.cell?_alloc_lt wr _ ⟨gb,go+Cc L m,none⟩ hgw).trans HGC.out);have HR6:=lh (Ac (show((wr.alloc (.cells #[.string (cg L m).name,.string (cg L m).after,.int .i64 (cg L m).link,.int .i64 (cg L m).delay,.slice (cg L m).ma (cg L m).moves.length (cg L m).mc,.int .i64 (cg L m).crew,.int .i64 (cg L m).power] 86)).drew).ownsRow g 3 1 (.slice (some ⟨g,0,none⟩) L.length L.length) L.length (Ap s)from(HR.out.alloc _).drew) hb6);have o2:w6.cell? ⟨g,m,none⟩=some (.int .i64 (ig s m)):=(by rw[HR6.out.cellAt m (by omega),Eb _ _ (by rw[HL6.out];exact hm)]);have o3:=HR6.out.frozenAt m;have hgw6:g<w6.heap.size:=(by omega)))
      all_goals
       go_wp2_with fail
       have hB6:Below g w5 w6:=(hB.trans (HWA.out.mono (by omega))).drew.trans (hb6.mono (by simp;omega));have HST:=lh (show(w6.setCell ⟨g,m,none⟩ (.int .i64 (ig G (Cc L m)+(cg L m).delay))).ownsRow g 3 1 (.slice (some ⟨g,0,none⟩) L.length L.length) L.length (Ap (Ku L N G (k+1)))by rw[HSTEP.out,←Ic];exact(HR6.out.stored m _).1);have hsb:w5.heap.size≤w6.heap.size:=by omega
       go_roundw
       case rel=>exact⟨k+1,by omega,by go_num,hB6.setCell (show g≤(⟨g,m,none⟩:Addr).block from nr) _,lh HST.out,by first | omega | (simp;omega)⟩
       case measure=>first | (simp[intOf];done) | (simp[intOf];omega)
     ·have m1:((cg L m).link==1)=false:=beq_eq_false_iff_ne.2 l1
      have HFA:=lh hfa;have hfN:f<N.length:=by rw[HNL.out];exact hf
      obtain⟨q3,q4⟩:=HSM.out f (by rw[Fl];exact hf);obtain⟨q5,q6⟩:=Gx HWN'.out f hfN;obtain⟨nb,no,rfl,hnl,hnc⟩:=HN5.out (by omega);have hn5:=hnc f hfN;have HSTEP:Hid (Ku L N G (k+1)=(Ku L N G k).set m (ig (Ku L N G k) f+(cg L m).delay+if(cg L m).link=2 then ig N f else 0)):=lh (by rw[HPS.out];unfold Qi;rw[Int.toNat_natCast,if_neg l1,hfa,Int.toNat_natCast]);have HHN:=lh hn5;clear hnc hn5 hfa hfm;generalize Ku L N G k=s at *;rcases l23 with l2 | l3
      ·have m2:((cg L m).link==2)=true:=beq_iff_eq.2 l2
       rw[if_pos l2]at HSTEP;clear l1 l2
       go_wp2_with (go_at_call 134;go_fit (Pb _ L _ _ (cg L m).after _ (by omega) ((HI5.out.below hB).mono (by omega) |>.grow HWA.out));rintro e w6 ⟨rfl,hb6⟩;rw[HFA.out];have hB6:=HWA.out.trans (hb6.mono HWA.out.size);have x2:=(hb6.cell (p:=⟨wr.heap.size,2,none⟩) (by simp)).trans (show _=some (.int .i64 (cg L m).link)by simp);have x3:=(hb6.cell (p:=⟨wr.heap.size,3,none⟩) (by simp)).trans (show _=some (.int .i64 (cg L m).delay)by simp))
       have hs6:=hB6.size;have hs6':wr.heap.size<w6.heap.size:=wl x2;have HR6:=lh (Ac HR.out hB6);have s1:IntKind.i64.wrap (ig s f+(cg L m).delay)=ig s f+(cg L m).delay:=IntWalk.i64_in _ (by omega);have o1:w6.cell? ⟨g,f,none⟩=some (.int .i64 (ig s f)):=by rw[HR6.out.cellAt f (by omega),Eb _ _ (by rw[HL6.out];exact hf)]
       have o2:w6.cell? ⟨g,m,none⟩=some (.int .i64 (ig s m)):=by rw[HR6.out.cellAt m (by omega),Eb _ _ (by rw[HL6.out];exact hm)]
       have o3:=HR6.out.frozenAt m;have how6:g<w6.heap.size:=by omega
       go_region
       have HR7:=lh (show((w6.setCell ⟨g,m,none⟩ (.int .i64 (ig s f+(cg L m).delay))).drew).ownsRow g 3 1 (.slice (some ⟨g,0,none⟩) L.length L.length) L.length (Ap (s.set m (ig s f+(cg L m).delay)))by rw[←Ic];exact(HR6.out.stored m _).1.drew);have hB7:Below g w5 (w6.setCell ⟨g,m,none⟩ (.int .i64 (ig s f+(cg L m).delay))).drew:=((hB.trans (hB6.mono (by omega))).setCell (show g≤(⟨g,m,none⟩:Addr).block from nr) _).drew;have hws7:w5.heap.size≤(w6.setCell ⟨g,m,none⟩ (.int .i64 (ig s f+(cg L m).delay))).drew.heap.size:=by simp;omega
       have x27:(w6.setCell ⟨g,m,none⟩ (.int .i64 (ig s f+(cg L m).delay))).drew.cell? ⟨wr.heap.size,2,none⟩=some (.int .i64 (cg L m).link):=(World.cell?_setCell_other _ _ _ _ (by first | (simp;done) | (simp;omega))).trans x2;clear o1 o2 o3 x2 x3 s1;generalize (w6.setCell ⟨g,m,none⟩ (.int .i64 (ig s f+(cg L m).delay))).drew=w7 at *
       go_wp2_with fail
       have s2:IntKind.i64.wrap (ig s f+(cg L m).delay+ig N f)=ig s f+(cg L m).delay+ig N f:=IntWalk.i64_in _ (by omega);have n7:=(ct hB7 HHN.out hnl);have n8:w7.cell? ⟨g,m,none⟩=some (.int .i64 (ig s f+(cg L m).delay)):=by rw[HR7.out.cellAt m (by omega),Eb _ _ (by rw[List.length_set,HL6.out];exact hm),Jw _ _ _ _ (by rw[HL6.out];exact hm),if_pos rfl]
       have n9:=HR7.out.frozenAt m
       go_region
       go_wp2_with fail
       have HST:=lh (show(w7.setCell ⟨g,m,none⟩ (.int .i64 (ig s f+(cg L m).delay+ig N f))).ownsRow g 3 1 (.slice (some ⟨g,0,none⟩) L.length L.length) L.length (Ap (Ku L N G (k+1)))by rw[HSTEP.out,←List.set_set (a:=ig s f+(cg L m).delay),←Ic];exact(HR7.out.stored m _).1);go_roundw
       case rel=>exact⟨k+1,by omega,by go_num,(hB7.setCell (show g≤(⟨g,m,none⟩:Addr).block from nr) _).drew,lh HST.out.drew,by simp;omega⟩
       case measure=>simp[intOf];omega
      ·have m2:((cg L m).link==2)=false:=beq_eq_false_iff_ne.2 (by omega)
       rw[if_neg (by omega),Int.add_zero]at HSTEP;clear l1 l3
       go_wp2_with (go_at_call 134;go_fit (Pb _ L _ _ (cg L m).after _ (by omega) ((HI5.out.below hB).mono (by omega) |>.grow HWA.out));rintro e w6 ⟨rfl,hb6⟩;rw[HFA.out];have hB6:=HWA.out.trans (hb6.mono HWA.out.size);have x2:=(hb6.cell (p:=⟨wr.heap.size,2,none⟩) (by simp)).trans (show _=some (.int .i64 (cg L m).link)by simp);have x3:=(hb6.cell (p:=⟨wr.heap.size,3,none⟩) (by simp)).trans (show _=some (.int .i64 (cg L m).delay)by simp))
       have hs6:=hB6.size;have hs6':wr.heap.size<w6.heap.size:=wl x2;have HR6:=lh (Ac HR.out hB6);have s1:IntKind.i64.wrap (ig s f+(cg L m).delay)=ig s f+(cg L m).delay:=IntWalk.i64_in _ (by omega);have o1:w6.cell? ⟨g,f,none⟩=some (.int .i64 (ig s f)):=by rw[HR6.out.cellAt f (by omega),Eb _ _ (by rw[HL6.out];exact hf)]
       have o2:w6.cell? ⟨g,m,none⟩=some (.int .i64 (ig s m)):=by rw[HR6.out.cellAt m (by omega),Eb _ _ (by rw[HL6.out];exact hm)]
       have o3:=HR6.out.frozenAt m;have how6:g<w6.heap.size:=by omega
       go_region
       have HR7:=lh (show((w6.setCell ⟨g,m,none⟩ (.int .i64 (ig s f+(cg L m).delay))).drew).ownsRow g 3 1 (.slice (some ⟨g,0,none⟩) L.length L.length) L.length (Ap (s.set m (ig s f+(cg L m).delay)))by rw[←Ic];exact(HR6.out.stored m _).1.drew);have hB7:Below g w5 (w6.setCell ⟨g,m,none⟩ (.int .i64 (ig s f+(cg L m).delay))).drew:=((hB.trans (hB6.mono (by omega))).setCell (show g≤(⟨g,m,none⟩:Addr).block from nr) _).drew;have hws7:w5.heap.size≤(w6.setCell ⟨g,m,none⟩ (.int .i64 (ig s f+(cg L m).delay))).drew.heap.size:=by simp;omega
       have x27:(w6.setCell ⟨g,m,none⟩ (.int .i64 (ig s f+(cg L m).delay))).drew.cell? ⟨wr.heap.size,2,none⟩=some (.int .i64 (cg L m).link):=(World.cell?_setCell_other _ _ _ _ (by first | (simp;done) | (simp;omega))).trans x2;clear o1 o2 o3 x2 x3 s1;generalize (w6.setCell ⟨g,m,none⟩ (.int .i64 (ig s f+(cg L m).delay))).drew=w7 at *
       go_wp2_with fail
       go_roundw
       case rel=>exact⟨k+1,by omega,by go_num,hB7,lh (by rw[HSTEP.out];exact HR7.out),hws7⟩
       case measure=>simp[intOf];omega
    ·obtain rfl:k=O.length:=by omega
     go_wp2_with fail
     go_ret2
     rw[HSV.out];exact lh ⟨_,rfl,by rw[Fl];exact Bn HR.out (by omega),HFIN.out _ hB⟩
 ·have g0:(Hi L N G !=0)=true:=bne_iff_ne.2 hne
  obtain⟨ge,hge⟩:=nm (Hi L N G);have HGE:=lh hge;rw[hge]at g0
  have HP0:Hid (Ca L A N G=([],ge)):=lh (by
   rw[HC1.out,←hge];unfold Hi at hne⊢
   by_cases hcnd:N.length=L.length∧G.length=Cc L L.length
   ·rw[if_pos hcnd]at hne
    rw[if_pos hcnd,if_pos hcnd]
    by_cases hx:(N.any Bw||G.any Bw)=true
    ·rw[if_pos hx,if_pos hx]
    ·rw[if_neg hx]at hne;exact absurd rfl hne
   ·rw[if_neg hcnd,if_neg hcnd])
  clear hne hge
  go_enter Tryz.func84,Tryz.ntmps84
  go_wp2_with (go_at_call 131;go_fit (Pd _ _ _ _ L A N G _ _ _ _ _ (by omega) (by omega) (by omega) HI.out HN.out HG.out);rintro e w1 ⟨rfl,hb1⟩;rw[HGE.out];obtain⟨hB1,z0,z1⟩:=HX.out _ hb1)
  go_ret2
  rw[HP0.out];exact lh ⟨_,rfl,World.ownsRow_nil _ _ _ _,hB1⟩
end
section
open Go.RowKit
structure APn(C:List An)(A:List (ByteArray×ByteArray))(N G S:List Int):Prop where
 linked:Da C A=true
 lenN:N.length=C.length
 lenG:G.length=Cc C C.length
 lenS:S.length=C.length
 lens:∀i,i<C.length→0≤ig N i∧ig N i≤2147483648
 starts:∀i,i<C.length→0≤ig S i∧ig S i≤261993005056
theorem ARk{C:List An}{A:List (ByteArray×ByteArray)}{N G:List Int}(h:(Ca C A N G).2=0)(hl:C.length≤60):APn C A N G (Ca C A N G).1:=by
 unfold Ca at h⊢
 split at h
 case isFalse=>cases h
 rename_i h1
 rw[if_pos h1]
 split at h
 case isFalse=>cases h
 rename_i h2
 rw[if_pos h2]
 split at h
 ·cases h
 rename_i h3
 rw[if_neg h3]
 split at h
 ·cases h
 rename_i h4
 rw[if_neg h4]
 have hN:N.any Bw=false:=by
  cases e:N.any Bw
  ·rfl
  ·exact absurd (by rw[e];rfl) h3
 have hG:G.any Bw=false:=by
  cases e:G.any Bw
  ·rfl
  ·exact absurd (by rw[e];exact Bool.or_true _) h3
 have hS:=Uq h1 hG h2.2 hN h2.1 (Di (Ci C)).length nr;have ol:=AGc C;refine⟨h1,h2.1,h2.2,Dv _ _ _ _,fun i hi=>Gx hN i (by omega),fun i hi=>?_⟩;have:=hS i (by rw[Dv];exact hi);have e:Kg C N G=Fu C N G (Di (Ci C)).length:=rfl
 dsimp only
 rw[e];omega
end
end Go.Proofs.YtebofaenlhhkaaaGreat
