import Derived.ProofKit
import Derived.OpenShut
import Derived.ChangeSame
import Derived.Carry
import Derived.RowKit
import Derived.Deep.Slices
import Derived.Deep.Fields
import Derived.Lib.SmallJoins
import Derived.Test.YtebofaenlhhkaaaGreatY34
namespace Go.Proofs.YtebofaenlhhkaaaGreat
set_option maxRecDepth 100000
set_option maxHeartbeats 80000000
section
open Go.RowKit Go.Shelf
attribute [local go_sem] Oper.semAt_some
theorem ABk(h:Ae)(s:Aq)(ga:Option Addr)(G:List Int)(gc:Nat)(ms:Int)(w:World)(hh:HouseIn0 w h)(hs:SheetIn0 w s)(hG:Bl w.heap.size w ga G):
  Calls Tryz.prog 7 #[.agg #[.string h.name,.int .i64 h.height,.slice h.sa h.sets.length h.sc,.slice h.ra h.roofs.length h.rc],.agg #[.slice s.ca s.cues.length s.cc,.slice s.pa s.pairs.length s.pc],.slice ga G.length gc,.int .i64 ms] w fun e w'=>e=.returned (.bool true)∧Below w.heap.size w w':=by
 obtain⟨hb0,HX,HW⟩:=o3 hh hs hG;clear hh hs hG hb0
 cases hsm:Yh h s G
 case false=>
  have HSM:=lh hsm;clear hsm
  go_enter Tryz.func7,Tryz.ntmps7
  go_upto_region 1 with (fail)
  obtain⟨W0,hW0⟩:=nm ((Fo w h s):World);simp only[hW0]at HX HW⊢;clear hW0;obtain⟨B1,hB1⟩:=nm (w.heap.size);obtain⟨B2,hB2⟩:=nm (w.heap.size+1);rw[hB2]at HX⊢;rw[hB1]at HX⊢;clear hB1 hB2
  go_wp2_with (first
   | (go_at_call 10;go_fit (AAg _);rintro e w1 ⟨rfl,hb1⟩;obtain⟨⟨a0,a1,a2,a3⟩,⟨s0,s1⟩,-,-,-⟩:=HX.out _ hb1)
   | (go_at_call 11;go_fit (Rs h s ga G _ _ (HX.out _ hb1).2.2.1 (HX.out _ hb1).2.2.2.1 (HX.out _ hb1).2.2.2.2);rintro e w2 ⟨rfl,hb2⟩;rw[HSM.out];have hq2:=hb1.trans (hb2.mono hb1.size)))
  go_ret;exact⟨rfl,HW.out _ hq2⟩
 have HSM:=lh hsm;obtain⟨z1,z2,z3⟩:=AGq hsm
 have HXI:Hid (∀w',Below (Fo w h s).heap.size (Fo w h s) w'→Ax w' h∧Bg w' s∧Bl w'.heap.size w' ga G):=lh fun w' q=>
  ⟨ALo (by omega) (HX.out w' q).2.2.1 z1,ALj (by omega) (HX.out w' q).2.2.2.1 z2,(HX.out w' q).2.2.2.2⟩
 have hcl:s.cues.length≤6:=by have:=z2.cues;omega
 have hgl:G.length≤1000:=by omega
 clear hsm z1 z2 z3
 have y1:(Jo h s G).length≤1100:=by
  unfold Jo
  split
  ·rw[Mp];omega
  ·exact nz
 have y2:(Jv h s G).length≤1100:=by
  unfold Jv
  split
  ·rw[Mt];omega
  ·exact nz
 have y3:(Im h s G ms).length≤1100:=by
  unfold Im
  split
  ·have:=Sw h s G ms s.cues.length;omega
  ·exact nz
 obtain⟨E,hE⟩:=nm (Db h s G);obtain⟨Z,hZ⟩:=nm (Kc h s G ms);obtain⟨LB,h1⟩:=nm (Jo h s G);obtain⟨LE,h2⟩:=nm (Jv h s G);obtain⟨LS,h3⟩:=nm (Im h s G ms);rw[h1]at y1;rw[h2]at y2;rw[h3]at y3;have HE:=lh hE;have HZ:=lh hZ;have HN1:=lh h1;have HN2:=lh h2;have HN3:=lh h3;have Y1:=lh y1;have Y2:=lh y2;have Y3:=lh y3;have k1:(E==E)=true:=beq_self_eq_true _;have k2:(Z==Z)=true:=beq_self_eq_true _;clear hE hZ h1 h2 h3 y1 y2 y3
 go_enter Tryz.func7,Tryz.ntmps7
 go_upto_region 1 with (fail)
 obtain⟨W0,hW0⟩:=nm ((Fo w h s):World);simp only[hW0]at HX HXI HW⊢;clear hW0;obtain⟨B1,hB1⟩:=nm (w.heap.size);obtain⟨B2,hB2⟩:=nm (w.heap.size+1);rw[hB2]at HX⊢;rw[hB1]at HX⊢;clear hB1 hB2
 go_upto_region 5 with (first
  | (go_at_call 10;go_fit (AAg _);rintro e w1 ⟨rfl,hb1⟩;obtain⟨⟨a0,a1,a2,a3⟩,⟨s0,s1⟩,-,-,-⟩:=HX.out _ hb1)
  | (go_at_call 11;go_fit (Rs h s ga G _ _ (HX.out _ hb1).2.2.1 (HX.out _ hb1).2.2.2.1 (HX.out _ hb1).2.2.2.2);rintro e w2 ⟨rfl,hb2⟩;rw[HSM.out];have hq2:=hb1.trans (hb2.mono hb1.size)))
 obtain⟨⟨x0,x1,x2,x3⟩,⟨y0,y1⟩,-,-,-⟩:=HX.out _ hq2;clear a0 a1 a2 a3 s0 s1 hb1 hb2
 go_upto_region 11 with (first
  | (go_at_call 24;go_fit (Vs h s ga G gc _ (HXI.out _ hq2).1 (HXI.out _ hq2).2.1 (HXI.out _ hq2).2.2 hgl);rintro e w3 ⟨hx3,hb3⟩;rw[HE.out,HN1.out]at hx3;obtain⟨v3,rfl,hr3⟩:=hx3.out;obtain⟨a23,c23,rfl,-,-,-,hl3⟩:=Nd hr3;have HL3:=lh hl3;clear hx3 hr3 hl3;have hq3:=hq2.trans (hb3.mono hq2.size);obtain⟨⟨p30,p31,p32,p33⟩,⟨r30,r31⟩,-,-,-⟩:=HX.out _ hq3)
  | (go_at_call 18;go_fit (ADh h s ga G gc _ (HXI.out _ hq3).1 (HXI.out _ hq3).2.1 (HXI.out _ hq3).2.2 hgl);rintro e w4 ⟨hx4,hb4⟩;rw[HE.out,HN2.out]at hx4;obtain⟨v4,rfl,hr4⟩:=hx4.out;obtain⟨a24,c24,rfl,-,-,-,hl4⟩:=Be hr4;have HL4:=lh hl4;clear hx4 hr4 hl4;have hq4:=hq3.trans (hb4.mono hq3.size);obtain⟨⟨p40,p41,p42,p43⟩,⟨r40,r41⟩,-,-,-⟩:=HX.out _ hq4)
  | (go_at_call 25;go_fit (APc ms h s ga G gc _ (HXI.out _ hq4).1 (HXI.out _ hq4).2.1 (HXI.out _ hq4).2.2 hgl);rintro e w5 ⟨hx5,hb5⟩;rw[HZ.out,HN3.out]at hx5;obtain⟨v5,rfl,hr5⟩:=hx5.out;obtain⟨a25,c25,rfl,-,-,-,hl5⟩:=Xn hr5;have HL5:=lh hl5;clear hx5 hr5 hl5;have hq5:=hq4.trans (hb5.mono hq4.size);obtain⟨⟨p50,p51,p52,p53⟩,⟨r50,r51⟩,-,-,-⟩:=HX.out _ hq5)
  | (go_at_call 26;go_fit (AEp h s ga G gc _ (HXI.out _ hq5).1 (HXI.out _ hq5).2.1 (HXI.out _ hq5).2.2 hgl);rintro e w6 ⟨hx6,hb6⟩;rw[HE.out,HN1.out]at hx6;obtain⟨v6,rfl,hr6⟩:=hx6.out;obtain⟨a26,c26,rfl,-,-,-,hl6⟩:=Nd hr6;have HL6:=lh hl6;clear hx6 hr6 hl6;have hq6:=hq5.trans (hb6.mono hq5.size);obtain⟨⟨p60,p61,p62,p63⟩,⟨r60,r61⟩,-,-,-⟩:=HX.out _ hq6)
  | (go_at_call 27;go_fit (AJr h s ga G gc _ (HXI.out _ hq6).1 (HXI.out _ hq6).2.1 (HXI.out _ hq6).2.2 hgl);rintro e w7 ⟨hx7,hb7⟩;rw[HE.out,HN2.out]at hx7;obtain⟨v7,rfl,hr7⟩:=hx7.out;obtain⟨a27,c27,rfl,-,-,-,hl7⟩:=Be hr7;have HL7:=lh hl7;clear hx7 hr7 hl7;have hq7:=hq6.trans (hb7.mono hq6.size);obtain⟨⟨p70,p71,p72,p73⟩,⟨r70,r71⟩,-,-,-⟩:=HX.out _ hq7)
  | (go_at_call 28;go_fit (AJv ms h s ga G gc _ (HXI.out _ hq7).1 (HXI.out _ hq7).2.1 (HXI.out _ hq7).2.2 hgl);rintro e w8 ⟨hx8,hb8⟩;rw[HZ.out,HN3.out]at hx8;obtain⟨v8,rfl,hr8⟩:=hx8.out;obtain⟨a28,c28,rfl,-,-,-,hl8⟩:=Xn hr8;have HL8:=lh hl8;clear hx8 hr8 hl8;have hq8:=hq7.trans (hb8.mono hq7.size)))
 have hB:=HW.out _ hq8
 have HK:Hid (∀w',Below w8.heap.size w8 w'→Ki w'.heap.size w' a23 LB∧Bl w'.heap.size w' a24 LE∧Mz w'.heap.size w' a25 LS∧Ki w'.heap.size w' a26 LB∧Bl w'.heap.size w' a27 LE∧Mz w'.heap.size w' a28 LS):=lh fun w' z=>
  ⟨(((((HL3.out.grow hb4).grow hb5).grow hb6).grow hb7).grow hb8).grow z,((((HL4.out.grow hb5).grow hb6).grow hb7).grow hb8).grow z,(((HL5.out.grow hb6).grow hb7).grow hb8).grow z,((HL6.out.grow hb7).grow hb8).grow z,(HL7.out.grow hb8).grow z,HL8.out.grow z⟩
 clear HX HXI HW HL3 HL4 HL5 HL6 HL7 HL8 hb3 hb4 hb5 hb6 hb7 hb8 hq2 hq3 hq4 hq5 hq6 hq7 hq8 x0 x1 x2 x3 y0 y1;have hq8:=Below.refl w8.heap.size w8
 go_wp2_with (first
  | (go_at_call 29;go_fit (Zl _ _ LB LB _ _ _ Y1.out (HK.out _ hq8).1 (HK.out _ hq8).2.2.2.1 Y1.out);rintro e w9 ⟨rfl,hb9⟩;rw[dT rfl];have hq9:=hq8.trans (hb9.mono hq8.size))
  | (go_at_call 30;go_fit (Zv _ _ LE LE _ _ _ Y2.out (HK.out _ hq9).2.1 (HK.out _ hq9).2.2.2.2.1 Y2.out);rintro e w10 ⟨rfl,hb10⟩;rw[dT rfl];have hq10:=hq9.trans (hb10.mono hq9.size))
  | (go_at_call 31;go_fit (AKg _ _ LS LS _ _ _ Y3.out (HK.out _ hq10).2.2.1 (HK.out _ hq10).2.2.2.2.2 Y3.out);rintro e w11 ⟨rfl,hb11⟩;rw[dT rfl];have hq11:=hq10.trans (hb11.mono hq10.size)))
 go_ret;exact⟨rfl,hB.trans (hq11.mono hB.size)⟩
end
section
open Go.ChangeShapes Go.WideShapes Go.ChangeAt Go.WideMaps Go.WideElems Go.RowKit
theorem own:ownKnob Tryz.prog.godebug=none:=by kernel_rfl
theorem AQx:laidOutB Tryz.prog=true:=by kernel_rfl

section
variable {H:Type} {enc:TypeId×Value→H} {P:Program}
theorem Yn{f:Func}{s:ChangeSpec}{apart fresh handsOn again:Bool}{W W':World}{args:Array Value}{v:Value}{ds gs:List (DataW H)}{before pa pv:List MemPlace}
  (hW:DataW.Whole enc P f.params.toList s.vars apart W args.toList ds gs before)
  (hres:∀(b:Nat) (sp:Nat→Bool) (hd:Bool),DataW.TrodAll enc P W' b sp hd f.resultTypes.toList (v.resultList f.resultTypes.size) (s.fn H (ds++gs)).results [])
  (hargs:∀sp:Nat→Bool,(∀p∈before,sp p.block=true)→DataW.TrodAll enc P W' 0 sp true f.params.toList args.toList (s.fn H (ds++gs)).args pa)
  (hvars:∀sp:Nat→Bool,(∀p∈before,sp p.block=true)→DataW.TrodVars enc P W' sp s.vars (s.fn H (ds++gs)).vars pv)
  (hps:before=pa++pv) (hb:Below W.heap.size W W')
  (hok:∀(j:Nat) (t:TypeId) (r:Value),f.resultTypes[j]? =some t→(v.resultList f.resultTypes.size)[j]? =some r→Value.okWide P W' .any 0 t r):
  s.post enc P f apart fresh handsOn again W args v W':=by
 have hlt:∀p∈before,p.block<W.heap.size:=fun p hp=>hW.lt p hp;have hold:∀p∈before,(fun b=>decide (b<W.heap.size)) p.block=true:=fun p hp=>by simpa using hlt p hp
 refine⟨ds,gs,before,[],pa,pv,hW,hres _ _ _,hargs _ hold,hvars _ hold,World.keptBut_mono (fun p hp=>⟨hp,?_⟩) (hb.frame (·∈before)),fun _=>?_⟩
 ·rw[hps,List.mem_append]at hp
  exact Or.inr hp
 ·obtain⟨_,_,_,_,_,hz,hn⟩:=hW
  refine⟨hok,_,_,([]++pa)++pv,⟨[]++pa,pv,trodAll_append (hargs _ (fun _ _=>rfl)) (hres _ _ _),hvars _ (fun _ _=>rfl),rfl,?_,?_⟩,?_⟩
  ·intro b off hp
   have hin:MemPlace.cell b off∈before:=by rw[hps];simpa using hp
   rw[hb.frozen (hlt _ hin)];exact hz b off hin
  ·intro ha
   have:=hn ha;rw[hps]at this
   simpa using this
  ·intro p hp _
   rw[hps]
   simpa using hp

theorem Qm(hl:laidOutB P=true){W W':World}(hb:Below W.heap.size W W')(sp:Nat→Bool):
  ∀{ts:List TypeId} {vs:List Value} {ds:List (DataW H)} {ps:List MemPlace},(ts.all fun t=>P.readableRec t&&decide (t<P.types.size))=true→DataW.TrodAll enc P W 0 (fun _=>true) true ts vs ds ps→
   (∀x∈ps,x.block<W.heap.size)→(∀x∈ps,sp x.block=true)→DataW.TrodAll enc P W' 0 sp true ts vs ds ps
 | [],[],[],_,_,h,_,_=>h
 | t::ts,v::vs,d::ds,_,ht,⟨p,q,h0,h1,rfl⟩,hlt,hsp=>by
  simp only[List.all_cons,Bool.and_eq_true,decide_eq_true_eq]at ht
  exact⟨p,q,WideElems.Trod_stays hl ht.1.1 ht.1.2 h0 (fun x hx=>hb.same (hlt x (List.mem_append.2 (.inl hx)))) (fun x hx=>hsp x (List.mem_append.2 (.inl hx))),
   Qm hl hb sp (by simpa using ht.2) h1 (fun x hx=>hlt x (List.mem_append.2 (.inr hx))) (fun x hx=>hsp x (List.mem_append.2 (.inr hx))),rfl⟩
 | [],[],_::_,_,_,h,_,_=>h.elim
 | [],_::_,_,_,_,h,_,_=>h.elim
 | _::_,[],_,_,_,h,_,_=>h.elim
 | _::_,_::_,[],_,_,h,_,_=>h.elim

theorem ANs{f:Func}{s:ChangeSpec}{apart fresh handsOn again:Bool}{W W':World}{args:Array Value}{ds gs:List (DataW H)}{before:List MemPlace}{tb:TypeId}
  (hl:laidOutB P=true) (hr:(f.params.toList.all fun t=>P.readableRec t&&decide (t<P.types.size))=true) (hW:DataW.Whole enc P f.params.toList s.vars apart W args.toList ds gs before)
  (hv:s.vars=[]) (hfn:s.fn H (ds++gs)={results:=[.lit (.bool true)],args:=ds}) (ht:f.resultTypes=#[tb]) (hu:P.underlying tb=some .bool) (hb:Below W.heap.size W W'):
  s.post enc P f apart fresh handsOn again W args (.bool true) W':=by
 have hlt:∀p∈before,p.block<W.heap.size:=fun p hp=>hW.lt p hp;have hW2:=hW;obtain⟨p,q,hA,hV,hpq,_,_⟩:=hW;have hV':=hV;rw[hv]at hV';obtain⟨rfl,rfl⟩:=trodVars_none hV';have hpp:before=p:=by rw[hpq,List.append_nil]
 refine Yn (pa:=before) (pv:=[]) hW2 ?_ ?_ ?_ (by simp) hb ?_
 ·intro b sp hd
  rw[hfn,ht];exact trodAll_mk1 (shut_bool hu _)
 ·intro sp hsp
  rw[hfn];exact Qm hl hb sp hr (by rw[hpp];exact hA) hlt hsp
 ·intro sp hsp
  rw[hfn,hv]
  rfl
 ·intro j t r hj hrr
  rw[ht]at hj hrr;exact ok_one ht rfl (okWide_bool_mk hu _) j t r (by rw[ht];exact hj) (by rw[ht];exact hrr)
end
end
section
open Go.ChangeShapes Go.WideShapes Go.ChangeAt Go.WideMaps Go.WideElems Go.RowKit Go.Deep
theorem Ur{X:Type}(cells:X→List Value)(size:Nat)(hlen:∀r,(cells r).length=size):∀(L:List X) (j:Nat) (u:Value),(L.flatMap cells)[j]? =some u→∃i k r,j=i*size+k∧L[i]? =some r∧(cells r)[k]? =some u
 | [],j,u,h=>by simp at h
 | x::l,j,u,h=>by
  rw[List.flatMap_cons,List.getElem?_append]at h
  split at h
  ·exact⟨0,j,x,by omega,rfl,h⟩
  ·next hj=>
   rw[hlen]at h hj;obtain⟨i,k,r,e,h1,h2⟩:=Ur cells size hlen l _ u h;exact⟨i+1,k,r,by rw[Nat.add_mul];omega,h1,h2⟩

section
variable {H:Type} {enc:TypeId×Value→H} {P:Program} {w:World} {base:Nat} {spare:Nat→Bool} {held:Bool}
theorem Ii{X:Type}[Inhabited X](cells:X→List Value)(size:Nat)(Fit:X→Prop)(hsize:0<size)(hlen:∀r,(cells r).length=size){t e:TypeId}(ht:P.underlying t=some (.slice e))(hC:P.cellsOf e=size)
  (hel:∀n cs' y,cs'.length=size→DataW.trod enc P w base spare held n e cs'=some y→∃r,cs'=cells r∧Fit r) {fuel:Nat} {v:Value} {x:DataW H×List MemPlace} (h:DataW.trod enc P w base spare held fuel t [v]=some x):
  ∃(a:Option Addr) (cap:Nat) (L:List X),v=.slice a L.length cap∧L.length≤cap∧cap≤maxLen∧(a=none→cap=0)∧(∀r∈L,Fit r)∧
   (0<L.length→∃b off,a=some ⟨b,off,none⟩∧b<w.heap.size∧∀j u,(L.flatMap cells)[j]? =some u→w.cell? ⟨b,off+j,none⟩=some u):=by
 rcases open_slice ht h with ⟨hcs,_⟩ | ⟨a,len,cap,m,n,D,Pl,hcs,_,hl,hm,hmm,_,hi⟩
 ·simp only[List.cons.injEq,and_true]at hcs
  subst hcs;exact⟨none,0,[],rfl,nr,by unfold maxLen;omega,fun _=>rfl,(fun _ h=>by cases h),fun h=>absurd h (Nat.not_lt_zero _)⟩
 ·simp only[List.cons.injEq,and_true]at hcs
  subst hcs;have hlm:len≤m:=by rw[hmm];split<;>omega
  have hex:∀i,∃r:X,i<len→Fit r∧∀k u,(cells r)[k]? =some u→w.cell? (a.add (i*size+k))=some u:=fun i=>by
   by_cases h:i<len
   ·obtain⟨cs',hc,ht'⟩:=hi i (by omega)
    rw[hC]at hc;obtain⟨_,hcl,hat⟩:=World.cells?_some hc;obtain⟨r,e,hf⟩:=hel n cs' _ hcl ht';refine⟨r,fun _=>⟨hf,fun k u hu=>?_⟩⟩;rw[←e]at hu
    have hk:k<size:=by
     have:=(List.getElem?_eq_some_iff.1 hu).1;omega
    rw[←Go.Deep.add_add,hat k hk,hu]
   ·exact⟨default,fun h'=>absurd h' h⟩
  obtain⟨f,hf⟩:=Classical.axiomOfChoice hex;refine⟨some a,cap,(List.range len).map f,by simp,by simpa using hl,hm,(fun e=>by cases e),?_,?_⟩
  ·intro r hr
   obtain⟨i,hi',rfl⟩:=List.mem_map.1 hr;exact(hf i (by simpa using hi')).1
  ·intro hpos
   have hpos':0<len:=by simpa using hpos
   have hcell:∀i k u,i<len→(cells (f i))[k]? =some u→w.cell? (a.add (i*size+k))=some u:=fun i k u h hu=>(hf i h).2 k u hu;have h0:∃u,(cells (f 0))[0]? =some u:=⟨_,List.getElem?_eq_getElem (by rw[hlen];exact hsize)⟩;obtain⟨u0,hu0⟩:=h0;have hc0:=hcell 0 0 u0 hpos' hu0;obtain⟨b,off,spot⟩:=a;have hspot:spot=none:=by simpa[Addr.add]using World.cell?_spot hc0
   subst hspot;refine⟨b,off,rfl,?_,fun j u hj=>?_⟩
   ·rw[Go.WideShapes.add_plain]at hc0
    exact World.block_lt_of_cell? w _ hc0
   ·obtain⟨i,k,r,e,h1,h2⟩:=Ur cells size hlen _ j u hj
    rw[List.getElem?_map]at h1
    have hil:i<len:=by
     rcases Nat.lt_or_ge i len with l | l
     ·exact l
     ·rw[List.getElem?_eq_none (by simpa using l)]at h1;cases h1
    rw[List.getElem?_range hil]at h1;obtain rfl:f i=r:=by simpa using h1
    have:=hcell i k u hil h2;rw[Go.WideShapes.add_plain]at this;rw[e];exact this
theorem Gg{e:TypeId}{fs:Array Field}{n:Nat}{cs':List Value}{y:DataW H×List MemPlace}(he:P.underlying e=some (.struct fs))(hone:oneCellFields P fs=true)(hl:cs'.length=fs.size)(h:DataW.trod enc P w base spare held n e cs'=some y):
  ∃m,∀(j:Nat) (f:Field),fs[j]? =some f→∃(v:Value) (z:DataW H×List MemPlace),cs'[j]? =some v∧DataW.trod enc P w base spare held m f.type [v]=some z:=by
 obtain⟨ys,n',hn',hy,hlen,hyl,hf⟩:=DataW.trod_struct he h;refine⟨n',fun j f hj=>?_⟩;obtain⟨ho,hk⟩:=hone_of hone j f hj;have hjl:j<fs.size:=(Array.getElem?_eq_some_iff.1 hj).1;have hv:cs'[j]? =some (cs'[j]'(by omega)):=List.getElem?_eq_getElem (by omega);have h1:=hf j f hj;rw[ho,hk]at h1
 have hone':(cs'.drop j).take 1=[cs'[j]'(by omega)]:=by
  rw[List.drop_eq_getElem_cons (by omega)]
  rfl
 rw[hone']at h1;exact⟨_,ys[j]'(by omega),hv,h1.trans (List.getElem?_eq_getElem (by omega))⟩
end
end
section
open Go.ChangeShapes Go.WideShapes Go.ChangeAt Go.WideMaps Go.WideElems Go.RowKit Go.Deep Go.Joins
theorem ACr{n₀:Nat}{w:World}{a:Option Addr}{L:List (Int)}(h:0<L.length→∃b off,a=some ⟨b,off,none⟩∧b<n₀∧∀j u,(Ap L)[j]? =some u→w.cell? ⟨b,off+j,none⟩=some u):Bl n₀ w a L:=fun hl=>by
 obtain⟨b,off,e,hb,hc⟩:=h hl;refine⟨b,off,e,hb,fun i hi=>?_⟩;have f0:=Eb L i hi;have c0:=hc _ _ f0
 try simp only[←Nat.add_assoc]at c0
 exact c0
theorem Yr{n₀:Nat}{w:World}{a:Option Addr}{L:List (Cb)}(h:0<L.length→∃b off,a=some ⟨b,off,none⟩∧b<n₀∧∀j u,(Yw L)[j]? =some u→w.cell? ⟨b,off+j,none⟩=some u):Fm n₀ w a L:=fun hl=>by
 obtain⟨b,off,e,hb,hc⟩:=h hl;refine⟨b,off,e,hb,fun i hi=>?_⟩;obtain⟨f0,f1,f2⟩:=ANc L i hi;have c0:=hc _ _ f0;have c1:=hc _ _ f1;have c2:=hc _ _ f2
 try simp only[←Nat.add_assoc]at c0 c1 c2
 exact⟨c0,c1,c2⟩
instance:Inhabited Cb:=⟨⟨⟨#[]⟩,0,0⟩⟩
section
variable {H:Type} {enc:TypeId×Value→H} {w:World} {base:Nat} {spare:Nat→Bool} {held:Bool}
theorem Zy{fuel:Nat}{v:Value}{x:DataW H×List MemPlace}(h:DataW.trod enc Tryz.prog w base spare held fuel 30 [v]=some x):
  ∃(a:Option Addr) (cap:Nat) (L:List Int),v=.slice a L.length cap∧L.length≤cap∧cap≤maxLen∧(a=none→cap=0)∧(∀r∈L,(Lit.int .i64 r).wf=true)∧Bl w.heap.size w a L:=by
 obtain⟨a,cap,L,h1,h2,h3,h4,h5,h6⟩:=Ii (P:=Tryz.prog) (fun r:Int=>[Value.int .i64 r]) 1 (fun r=>(Lit.int .i64 r).wf=true) (by decide) (fun _=>rfl) Tryz.underlying30 (by kernel_rfl) (fun n cs' y hl ht=>by
  obtain⟨m,e,_,hw⟩:=DataW.trod_int Tryz.underlying3 ht;exact⟨m,e,hw⟩) h
 exact⟨a,cap,L,h1,h2,h3,h4,h5,ACr h6⟩
theorem AEt{fuel:Nat}{v:Value}{x:DataW H×List MemPlace}(h:DataW.trod enc Tryz.prog w base spare held fuel 57 [v]=some x):
  ∃(a:Option Addr) (cap:Nat) (L:List Cb),v=.slice a L.length cap∧L.length≤cap∧cap≤maxLen∧(a=none→cap=0)∧Fm w.heap.size w a L:=by
 obtain⟨a,cap,L,h1,h2,h3,h4,_,h6⟩:=Ii (P:=Tryz.prog) (fun r:Cb=>[.string r.name,.int .i64 r.weight,.int .i64 r.count]) 3 (fun _=>True) (by decide) (fun _=>rfl) Tryz.underlying57 (by kernel_rfl) (fun n cs' y hl ht=>by
  obtain⟨m,hf⟩:=Gg Tryz.underlying179 (by kernel_rfl) (by rw[hl];rfl) ht;obtain⟨v0,z0,c0,t0⟩:=hf 0 _ rfl;obtain⟨v1,z1,c1,t1⟩:=hf 1 _ rfl;obtain⟨v2,z2,c2,t2⟩:=hf 2 _ rfl;obtain⟨n0,e0,_,_⟩:=DataW.trod_string Tryz.underlying9 t0;obtain⟨n1,e1,_,w1⟩:=DataW.trod_int Tryz.underlying3 t1;obtain⟨n2,e2,_,w2⟩:=DataW.trod_int Tryz.underlying3 t2;simp only[List.cons.injEq,and_true]at e0 e1 e2;subst e0 e1 e2
  match cs',hl with
  | [x0,x1,x2],_=>
   simp only[List.getElem?_cons_zero,List.getElem?_cons_succ,Option.some.injEq]at c0 c1 c2;subst c0 c1 c2;exact⟨⟨n0,n1,n2⟩,rfl,trivial⟩) h
 exact⟨a,cap,L,h1,h2,h3,h4,Yr h6⟩
end
section
variable {H:Type} {enc:TypeId×Value→H} {W:World} {base:Nat}
theorem AHf{v:Value}{d:DataW H}{p:List MemPlace}(hv:Value.okWide Tryz.prog W .any base 30 v)(h:DataW.Trod enc Tryz.prog W 0 (fun _=>true) true 30 v d p):
  ∃(a:Option Addr) (cap:Nat) (L:List Int),v=.slice a L.length cap∧L.length≤cap∧cap≤maxLen∧(a=none→cap=0)∧(∀r∈L,(Lit.int .i64 r).wf=true)∧Bl W.heap.size W a L:=by
 obtain⟨a0,len0,cap0,rfl⟩:=okWide_slice Tryz.underlying30 hv;obtain⟨fuel,hf⟩:=h;exact Zy (v:=.slice a0 len0 cap0) hf
end
theorem ABi{n₀:Nat}{w:World}{a:Option Addr}{L:List Cd}(h:0<L.length→∃b off,a=some ⟨b,off,none⟩∧b<n₀∧∀j u,(Qn L)[j]? =some u→w.cell? ⟨b,off+j,none⟩=some u):Gp n₀ w a L:=fun hl=>by
 obtain⟨b,off,e,hb,hc⟩:=h hl;refine⟨b,off,e,hb,fun i hi=>?_⟩;obtain⟨f0,f1,f2,f3,f4,f5,f6⟩:=APv L i hi;have c0:=hc _ _ f0;have c1:=hc _ _ f1;have c2:=hc _ _ f2;have c3:=hc _ _ f3;have c4:=hc _ _ f4;have c5:=hc _ _ f5;have c6:=hc _ _ f6
 try simp only[←Nat.add_assoc]at c0 c1 c2 c3 c4 c5 c6
 exact⟨c0,c1,c2,c3,c4,c5,c6⟩
instance:Inhabited Cd:=⟨⟨⟨#[]⟩,0,0,0,0,0,0⟩⟩
section
variable {H:Type} {enc:TypeId×Value→H} {w:World} {base:Nat} {spare:Nat→Bool} {held:Bool}
theorem AHu{fuel:Nat}{v:Value}{x:DataW H×List MemPlace}(h:DataW.trod enc Tryz.prog w base spare held fuel 56 [v]=some x):
  ∃(a:Option Addr) (cap:Nat) (L:List Cd),v=.slice a L.length cap∧L.length≤cap∧cap≤maxLen∧(a=none→cap=0)∧Gp w.heap.size w a L:=by
 obtain⟨a,cap,L,h1,h2,h3,h4,_,h6⟩:=Ii (P:=Tryz.prog) (fun r:Cd=>[.string r.name,.int .i64 r.pos,.int .i64 r.width,.int .i64 r.weight,.int .i64 r.hang,.int .i64 r.front,.int .i64 r.back]) 7 (fun _=>True) (by decide) (fun _=>rfl) Tryz.underlying56 (by kernel_rfl) (fun n cs' y hl ht=>by
  obtain⟨m,hf⟩:=Gg Tryz.underlying177 (by kernel_rfl) (by rw[hl];rfl) ht;obtain⟨v0,z0,c0,t0⟩:=hf 0 _ rfl;obtain⟨v1,z1,c1,t1⟩:=hf 1 _ rfl;obtain⟨v2,z2,c2,t2⟩:=hf 2 _ rfl;obtain⟨v3,z3,c3,t3⟩:=hf 3 _ rfl;obtain⟨v4,z4,c4,t4⟩:=hf 4 _ rfl;obtain⟨v5,z5,c5,t5⟩:=hf 5 _ rfl;obtain⟨v6,z6,c6,t6⟩:=hf 6 _ rfl;obtain⟨n0,e0,_,_⟩:=DataW.trod_string Tryz.underlying9 t0;obtain⟨n1,e1,_,w1⟩:=DataW.trod_int Tryz.underlying3 t1;obtain⟨n2,e2,_,w2⟩:=DataW.trod_int Tryz.underlying3 t2;obtain⟨n3,e3,_,w3⟩:=DataW.trod_int Tryz.underlying3 t3;obtain⟨n4,e4,_,w4⟩:=DataW.trod_int Tryz.underlying3 t4;obtain⟨n5,e5,_,w5⟩:=DataW.trod_int Tryz.underlying3 t5;obtain⟨n6,e6,_,w6⟩:=DataW.trod_int Tryz.underlying3 t6;simp only[List.cons.injEq,and_true]at e0 e1 e2 e3 e4 e5 e6;subst e0 e1 e2 e3 e4 e5 e6
  match cs',hl with
  | [x0,x1,x2,x3,x4,x5,x6],_=>
   simp only[List.getElem?_cons_zero,List.getElem?_cons_succ,Option.some.injEq]at c0 c1 c2 c3 c4 c5 c6;subst c0 c1 c2 c3 c4 c5 c6;exact⟨⟨n0,n1,n2,n3,n4,n5,n6⟩,rfl,trivial⟩) h
 exact⟨a,cap,L,h1,h2,h3,h4,ABi h6⟩
end
section
variable {H:Type} {enc:TypeId×Value→H} {W:World} {base:Nat}
end
instance:Inhabited Cz:=⟨⟨⟨#[]⟩,0,0,0⟩⟩
instance:Inhabited Ds:=⟨⟨⟨#[]⟩,0,0,0,0,none,[],0,0,0,0,0,0,none,[],0,none,[],0⟩⟩
theorem AAp{n₀:Nat}{w:World}{a:Option Addr}{L:List Cz}(h:0<L.length→∃b off,a=some ⟨b,off,none⟩∧b<n₀∧∀j u,(Xf L)[j]? =some u→w.cell? ⟨b,off+j,none⟩=some u):Gj n₀ w a L:=fun hl=>by
 obtain⟨b,off,e,hb,hc⟩:=h hl;refine⟨b,off,e,hb,fun i hi=>?_⟩;obtain⟨f0,f1,f2,f3⟩:=ANu L i hi;have c0:=hc _ _ f0;have c1:=hc _ _ f1;have c2:=hc _ _ f2;have c3:=hc _ _ f3
 try simp only[←Nat.add_assoc]at c0 c1 c2 c3
 exact⟨c0,c1,c2,c3⟩
theorem ACt{n₀:Nat}{w:World}{a:Option Addr}{L:List Ds}(h:0<L.length→∃b off,a=some ⟨b,off,none⟩∧b<n₀∧∀j u,(Kd L)[j]? =some u→w.cell? ⟨b,off+j,none⟩=some u):Es n₀ w a L:=fun hl=>by
 obtain⟨b,off,e,hb,hc⟩:=h hl;refine⟨b,off,e,hb,fun i hi=>?_⟩;obtain⟨f0,f1,f2,f3,f4,f5,f6,f7,f8,f9,f10,f11,f12⟩:=AOc L i hi;have c0:=hc _ _ f0;have c1:=hc _ _ f1;have c2:=hc _ _ f2;have c3:=hc _ _ f3;have c4:=hc _ _ f4;have c5:=hc _ _ f5;have c6:=hc _ _ f6;have c7:=hc _ _ f7;have c8:=hc _ _ f8;have c9:=hc _ _ f9;have c10:=hc _ _ f10;have c11:=hc _ _ f11;have c12:=hc _ _ f12
 try simp only[←Nat.add_assoc]at c0 c1 c2 c3 c4 c5 c6 c7 c8 c9 c10 c11 c12
 exact⟨c0,c1,c2,c3,c4,c5,c6,c7,c8,c9,c10,c11,c12⟩
section
variable {H:Type} {enc:TypeId×Value→H} {w:World} {base:Nat} {spare:Nat→Bool} {held:Bool}
theorem AGa{fuel:Nat}{v:Value}{x:DataW H×List MemPlace}(h:DataW.trod enc Tryz.prog w base spare held fuel 23 [v]=some x):
  ∃(a:Option Addr) (cap:Nat) (L:List Cz),v=.slice a L.length cap∧L.length≤cap∧cap≤maxLen∧(a=none→cap=0)∧Gj w.heap.size w a L:=by
 obtain⟨a,cap,L,h1,h2,h3,h4,_,h6⟩:=Ii (P:=Tryz.prog) (fun r:Cz=>[.string r.name,.int .i64 r.lo,.int .i64 r.hi,.int .i64 r.most]) 4 (fun _=>True) (by decide) (fun _=>rfl) Tryz.underlying23 (by kernel_rfl) (fun n cs' y hl ht=>by
  obtain⟨m,hf⟩:=Gg Tryz.underlying148 (by kernel_rfl) (by rw[hl];rfl) ht;obtain⟨v0,z0,c0,t0⟩:=hf 0 _ rfl;obtain⟨v1,z1,c1,t1⟩:=hf 1 _ rfl;obtain⟨v2,z2,c2,t2⟩:=hf 2 _ rfl;obtain⟨v3,z3,c3,t3⟩:=hf 3 _ rfl;obtain⟨n0,e0,_,_⟩:=DataW.trod_string Tryz.underlying9 t0;obtain⟨n1,e1,_,w1⟩:=DataW.trod_int Tryz.underlying3 t1;obtain⟨n2,e2,_,w2⟩:=DataW.trod_int Tryz.underlying3 t2;obtain⟨n3,e3,_,w3⟩:=DataW.trod_int Tryz.underlying3 t3;simp only[List.cons.injEq,and_true]at e0 e1 e2 e3;subst e0 e1 e2 e3
  match cs',hl with
  | [x0,x1,x2,x3],_=>
   simp only[List.getElem?_cons_zero,List.getElem?_cons_succ,Option.some.injEq]at c0 c1 c2 c3;subst c0 c1 c2 c3;exact⟨⟨n0,n1,n2,n3⟩,rfl,trivial⟩) h
 exact⟨a,cap,L,h1,h2,h3,h4,AAp h6⟩
theorem ALt{fuel:Nat}{v:Value}{x:DataW H×List MemPlace}(h:DataW.trod enc Tryz.prog w base spare held fuel 22 [v]=some x):
  ∃(a:Option Addr) (cap:Nat) (L:List Ds),v=.slice a L.length cap∧L.length≤cap∧cap≤maxLen∧(a=none→cap=0)∧(∀r∈L,SetIn0 w r)∧Es w.heap.size w a L:=by
 obtain⟨a,cap,L,h1,h2,h3,h4,h5,h6⟩:=Ii (P:=Tryz.prog) (fun r:Ds=>[.string r.name,.int .i64 r.depth,.int .i64 r.low,.int .i64 r.high,.int .i64 r.length,.slice r.la r.lines.length r.lc,.int .i64 r.pipe,.int .i64 r.arbor,.int .i64 r.purchase,.int .i64 r.most,.int .i64 r.brake,.slice r.ia r.items.length r.ic,.slice r.ba r.bricks.length r.bc]) 13 (fun r=>SetIn0 w r) (by decide) (fun _=>rfl) Tryz.underlying22 (by kernel_rfl) (fun n cs' y hl ht=>by
  obtain⟨m,hf⟩:=Gg Tryz.underlying59 (by kernel_rfl) (by rw[hl];rfl) ht;obtain⟨v0,z0,c0,t0⟩:=hf 0 _ rfl;obtain⟨v1,z1,c1,t1⟩:=hf 1 _ rfl;obtain⟨v2,z2,c2,t2⟩:=hf 2 _ rfl;obtain⟨v3,z3,c3,t3⟩:=hf 3 _ rfl;obtain⟨v4,z4,c4,t4⟩:=hf 4 _ rfl;obtain⟨v5,z5,c5,t5⟩:=hf 5 _ rfl;obtain⟨v6,z6,c6,t6⟩:=hf 6 _ rfl;obtain⟨v7,z7,c7,t7⟩:=hf 7 _ rfl;obtain⟨v8,z8,c8,t8⟩:=hf 8 _ rfl;obtain⟨v9,z9,c9,t9⟩:=hf 9 _ rfl;obtain⟨v10,z10,c10,t10⟩:=hf 10 _ rfl;obtain⟨v11,z11,c11,t11⟩:=hf 11 _ rfl;obtain⟨v12,z12,c12,t12⟩:=hf 12 _ rfl;obtain⟨n0,e0,_,_⟩:=DataW.trod_string Tryz.underlying9 t0;obtain⟨n1,e1,_,w1⟩:=DataW.trod_int Tryz.underlying3 t1;obtain⟨n2,e2,_,w2⟩:=DataW.trod_int Tryz.underlying3 t2;obtain⟨n3,e3,_,w3⟩:=DataW.trod_int Tryz.underlying3 t3;obtain⟨n4,e4,_,w4⟩:=DataW.trod_int Tryz.underlying3 t4;obtain⟨n6,e6,_,w6⟩:=DataW.trod_int Tryz.underlying3 t6;obtain⟨n7,e7,_,w7⟩:=DataW.trod_int Tryz.underlying3 t7;obtain⟨n8,e8,_,w8⟩:=DataW.trod_int Tryz.underlying3 t8;obtain⟨n9,e9,_,w9⟩:=DataW.trod_int Tryz.underlying3 t9;obtain⟨n10,e10,_,w10⟩:=DataW.trod_int Tryz.underlying3 t10;obtain⟨la,lc,L,rfl,l1,l2,l3,_,l4⟩:=Zy t5;obtain⟨ia,ic,I,rfl,i1,i2,i3,i4⟩:=AHu t11;obtain⟨ba,bc,B,rfl,b1,b2,b3,b4⟩:=AEt t12;simp only[List.cons.injEq,and_true]at e0 e1 e2 e3 e4 e6 e7 e8 e9 e10;subst e0 e1 e2 e3 e4 e6 e7 e8 e9 e10
  match cs',hl with
  | [x0,x1,x2,x3,x4,x5,x6,x7,x8,x9,x10,x11,x12],_=>
   simp only[List.getElem?_cons_zero,List.getElem?_cons_succ,Option.some.injEq]at c0 c1 c2 c3 c4 c5 c6 c7 c8 c9 c10 c11 c12;subst c0 c1 c2 c3 c4 c5 c6 c7 c8 c9 c10 c11 c12;exact⟨⟨n0,n1,n2,n3,n4,la,L,lc,n6,n7,n8,n9,n10,ia,I,ic,ba,B,bc⟩,rfl,⟨l4,i4,b4,l1,i1,b1,l3,i3,b3⟩⟩) h
 exact⟨a,cap,L,h1,h2,h3,h4,h5,ACt h6⟩
end
section
variable {H:Type} {enc:TypeId×Value→H} {W:World} {base:Nat}
theorem AGd{v:Value}{d:DataW H}{p:List MemPlace}(hv:Value.okWide Tryz.prog W .any base 25 v)(h:DataW.Trod enc Tryz.prog W 0 (fun _=>true) true 25 v d p):
  ∃r:Ae,v=.agg #[.string r.name,.int .i64 r.height,.slice r.sa r.sets.length r.sc,.slice r.ra r.roofs.length r.rc]∧HouseIn0 W r:=by
 obtain⟨cs,rfl,hsz⟩:=okWide_struct Tryz.underlying25 hv;obtain⟨l⟩:=cs
 match l,hsz.trans (show Tryz.prog.cellsOf 25=4 by kernel_rfl)with
 | [x0,x1,x2,x3],_=>
  obtain⟨fuel,hf0⟩:=h;obtain⟨m,hf⟩:=Gg (cs':=[x0,x1,x2,x3]) Tryz.underlying25 (by kernel_rfl) rfl (by simpa[Value.cells]using hf0);obtain⟨v0,z0,c0,t0⟩:=hf 0 _ rfl;obtain⟨v1,z1,c1,t1⟩:=hf 1 _ rfl;obtain⟨v2,z2,c2,t2⟩:=hf 2 _ rfl;obtain⟨v3,z3,c3,t3⟩:=hf 3 _ rfl;simp only[List.getElem?_cons_zero,List.getElem?_cons_succ,Option.some.injEq]at c0 c1 c2 c3;subst c0 c1 c2 c3;obtain⟨n0,e0,_,_⟩:=DataW.trod_string Tryz.underlying9 t0;obtain⟨n1,e1,_,w1⟩:=DataW.trod_int Tryz.underlying3 t1;obtain⟨sa,sc,S,rfl,s1,s2,s3,s4,s5⟩:=ALt t2;obtain⟨ra,rc,R,rfl,r1,r2,r3,r4⟩:=AGa t3;simp only[List.cons.injEq,and_true]at e0 e1;subst e0 e1;exact⟨⟨n0,n1,sa,S,sc,ra,R,rc⟩,rfl,⟨s5,r4,fun i hi=>s4 _ (by rw[AMz S i hi];exact List.getElem_mem hi),s1,r1,s3,r3⟩⟩
end
instance:Inhabited Mv:=⟨⟨⟨#[]⟩,0,0,0,0⟩⟩
instance:Inhabited An:=⟨⟨⟨#[]⟩,⟨#[]⟩,0,0,none,[],0,0,0⟩⟩
theorem AEo{n₀:Nat}{w:World}{a:Option Addr}{L:List Mv}(h:0<L.length→∃b off,a=some ⟨b,off,none⟩∧b<n₀∧∀j u,(Um L)[j]? =some u→w.cell? ⟨b,off+j,none⟩=some u):Ei n₀ w a L:=fun hl=>by
 obtain⟨b,off,e,hb,hc⟩:=h hl;refine⟨b,off,e,hb,fun i hi=>?_⟩;obtain⟨f0,f1,f2,f3,f4⟩:=APg L i hi;have c0:=hc _ _ f0;have c1:=hc _ _ f1;have c2:=hc _ _ f2;have c3:=hc _ _ f3;have c4:=hc _ _ f4
 try simp only[←Nat.add_assoc]at c0 c1 c2 c3 c4
 exact⟨c0,c1,c2,c3,c4⟩
theorem AAw{n₀:Nat}{w:World}{a:Option Addr}{L:List (ByteArray×ByteArray)}(h:0<L.length→∃b off,a=some ⟨b,off,none⟩∧b<n₀∧∀j u,(ADv L)[j]? =some u→w.cell? ⟨b,off+j,none⟩=some u):Hp n₀ w a L:=fun hl=>by
 obtain⟨b,off,e,hb,hc⟩:=h hl;refine⟨b,off,e,hb,fun i hi=>?_⟩;obtain⟨f0,f1⟩:=APt L i hi;have c0:=hc _ _ f0;have c1:=hc _ _ f1
 try simp only[←Nat.add_assoc]at c0 c1
 exact⟨c0,c1⟩

theorem ADm{n₀:Nat}{w:World}{a:Option Addr}{L:List (An)}(h:0<L.length→∃b off,a=some ⟨b,off,none⟩∧b<n₀∧∀j u,(Qo L)[j]? =some u→w.cell? ⟨b,off+j,none⟩=some u):Gs n₀ w a L:=fun hl=>by
 obtain⟨b,off,e,hb,hc⟩:=h hl;refine⟨b,off,e,hb,fun i hi=>?_⟩;obtain⟨f0,f1,f2,f3,f4,f5,f6⟩:=AOx L i hi;have c0:=hc _ _ f0;have c1:=hc _ _ f1;have c2:=hc _ _ f2;have c3:=hc _ _ f3;have c4:=hc _ _ f4;have c5:=hc _ _ f5;have c6:=hc _ _ f6
 try simp only[←Nat.add_assoc]at c0 c1 c2 c3 c4 c5 c6
 exact⟨c0,c1,c2,c3,c4,c5,c6⟩

section
variable {H:Type} {enc:TypeId×Value→H} {w:World} {base:Nat} {spare:Nat→Bool} {held:Bool}
theorem AKi{fuel:Nat}{v:Value}{x:DataW H×List MemPlace}(h:DataW.trod enc Tryz.prog w base spare held fuel 84 [v]=some x):
  ∃(a:Option Addr) (cap:Nat) (L:List Mv),v=.slice a L.length cap∧L.length≤cap∧cap≤maxLen∧(a=none→cap=0)∧Ei w.heap.size w a L:=by
 obtain⟨a,cap,L,h1,h2,h3,h4,_,h6⟩:=Ii (P:=Tryz.prog) (fun r:Mv=>[.string r.name,.int .i64 r.to,.int .i64 r.spd,.int .i64 r.rise,.int .i64 r.fall]) 5 (fun _=>True) (by decide) (fun _=>rfl) Tryz.underlying84 (by kernel_rfl) (fun n cs' y hl ht=>by
  obtain⟨m,hf⟩:=Gg Tryz.underlying94 (by kernel_rfl) (by rw[hl];rfl) ht;obtain⟨v0,z0,c0,t0⟩:=hf 0 _ rfl;obtain⟨v1,z1,c1,t1⟩:=hf 1 _ rfl;obtain⟨v2,z2,c2,t2⟩:=hf 2 _ rfl;obtain⟨v3,z3,c3,t3⟩:=hf 3 _ rfl;obtain⟨v4,z4,c4,t4⟩:=hf 4 _ rfl;obtain⟨n0,e0,_,_⟩:=DataW.trod_string Tryz.underlying9 t0;obtain⟨n1,e1,_,w1⟩:=DataW.trod_int Tryz.underlying3 t1;obtain⟨n2,e2,_,w2⟩:=DataW.trod_int Tryz.underlying3 t2;obtain⟨n3,e3,_,w3⟩:=DataW.trod_int Tryz.underlying3 t3;obtain⟨n4,e4,_,w4⟩:=DataW.trod_int Tryz.underlying3 t4;simp only[List.cons.injEq,and_true]at e0 e1 e2 e3 e4;subst e0 e1 e2 e3 e4
  match cs',hl with
  | [x0,x1,x2,x3,x4],_=>
   simp only[List.getElem?_cons_zero,List.getElem?_cons_succ,Option.some.injEq]at c0 c1 c2 c3 c4;subst c0 c1 c2 c3 c4;exact⟨⟨n0,n1,n2,n3,n4⟩,rfl,trivial⟩) h
 exact⟨a,cap,L,h1,h2,h3,h4,AEo h6⟩
theorem AGy{fuel:Nat}{v:Value}{x:DataW H×List MemPlace}(h:DataW.trod enc Tryz.prog w base spare held fuel 27 [v]=some x):
  ∃(a:Option Addr) (cap:Nat) (L:List (ByteArray×ByteArray)),v=.slice a L.length cap∧L.length≤cap∧cap≤maxLen∧(a=none→cap=0)∧Hp w.heap.size w a L:=by
 obtain⟨a,cap,L,h1,h2,h3,h4,_,h6⟩:=Ii (P:=Tryz.prog) (fun r:ByteArray×ByteArray=>[Value.string r.1,Value.string r.2]) 2 (fun _=>True) (by decide) (fun _=>rfl) Tryz.underlying27 (by kernel_rfl) (fun n cs' y hl ht=>by
  obtain⟨xs,m,_,_,_,hxl,hel⟩:=DataW.trod_array Tryz.underlying149 ht
  match cs',hl with
  | [c0,c1],_=>
   have e0:=hel 0 (by decide);have e1:=hel 1 (by decide);have hC:Tryz.prog.cellsOf 9=1:=by kernel_rfl
   rw[hC]at e0 e1
   match xs,hxl with
   | [y0,y1],_=>
    obtain⟨s0,r0,_⟩:=DataW.trod_string Tryz.underlying9 (cs:=[c0]) (x:=y0) e0;obtain⟨s1,r1,_⟩:=DataW.trod_string Tryz.underlying9 (cs:=[c1]) (x:=y1) e1;simp only[List.cons.injEq,and_true]at r0 r1;subst r0 r1;exact⟨(s0,s1),rfl,trivial⟩) h
 exact⟨a,cap,L,h1,h2,h3,h4,AAw h6⟩
def AFx(w:World)(r:An):Prop:=Ei w.heap.size w r.ma r.moves∧r.moves.length≤r.mc∧(r.ma=none→r.mc=0)
theorem AMb{fuel:Nat}{v:Value}{x:DataW H×List MemPlace}(h:DataW.trod enc Tryz.prog w base spare held fuel 26 [v]=some x):
  ∃(a:Option Addr) (cap:Nat) (L:List An),v=.slice a L.length cap∧L.length≤cap∧cap≤maxLen∧(a=none→cap=0)∧(∀r∈L,AFx w r)∧Gs w.heap.size w a L:=by
 obtain⟨a,cap,L,h1,h2,h3,h4,h5,h6⟩:=Ii (P:=Tryz.prog) (fun r:An=>[.string r.name,.string r.after,.int .i64 r.link,.int .i64 r.delay,.slice r.ma r.moves.length r.mc,.int .i64 r.crew,.int .i64 r.power]) 7 (fun r=>AFx w r) (by decide) (fun _=>rfl) Tryz.underlying26 (by kernel_rfl) (fun n cs' y hl ht=>by
  obtain⟨m,hf⟩:=Gg Tryz.underlying86 (by kernel_rfl) (by rw[hl];rfl) ht;obtain⟨v0,z0,c0,t0⟩:=hf 0 _ rfl;obtain⟨v1,z1,c1,t1⟩:=hf 1 _ rfl;obtain⟨v2,z2,c2,t2⟩:=hf 2 _ rfl;obtain⟨v3,z3,c3,t3⟩:=hf 3 _ rfl;obtain⟨v4,z4,c4,t4⟩:=hf 4 _ rfl;obtain⟨v5,z5,c5,t5⟩:=hf 5 _ rfl;obtain⟨v6,z6,c6,t6⟩:=hf 6 _ rfl;obtain⟨n0,e0,_,w0⟩:=DataW.trod_string Tryz.underlying9 t0;obtain⟨n1,e1,_,w1⟩:=DataW.trod_string Tryz.underlying9 t1;obtain⟨n2,e2,_,w2⟩:=DataW.trod_int Tryz.underlying3 t2;obtain⟨n3,e3,_,w3⟩:=DataW.trod_int Tryz.underlying3 t3;obtain⟨n5,e5,_,w5⟩:=DataW.trod_int Tryz.underlying3 t5;obtain⟨n6,e6,_,w6⟩:=DataW.trod_int Tryz.underlying3 t6;obtain⟨a4,k4,M,rfl,m1,m2,m3,m4⟩:=AKi t4;simp only[List.cons.injEq,and_true]at e0 e1 e2 e3 e5 e6;subst e0 e1 e2 e3 e5 e6
  match cs',hl with
  | [x0,x1,x2,x3,x4,x5,x6],_=>
   simp only[List.getElem?_cons_zero,List.getElem?_cons_succ,Option.some.injEq]at c0 c1 c2 c3 c4 c5 c6;subst c0 c1 c2 c3 c4 c5 c6;exact⟨⟨n0,n1,n2,n3,a4,M,k4,n5,n6⟩,rfl,⟨m4,m1,m3⟩⟩) h
 exact⟨a,cap,L,h1,h2,h3,h4,h5,ADm h6⟩
end
section
variable {H:Type} {enc:TypeId×Value→H} {W:World} {base:Nat}
theorem AFy{v:Value}{d:DataW H}{p:List MemPlace}(hv:Value.okWide Tryz.prog W .any base 29 v)(h:DataW.Trod enc Tryz.prog W 0 (fun _=>true) true 29 v d p):
  ∃s:Aq,v=.agg #[.slice s.ca s.cues.length s.cc,.slice s.pa s.pairs.length s.pc]∧SheetIn0 W s:=by
 obtain⟨v0,v1,y0,y1,n,rfl,_,_,h0,h1⟩:=open_agg2 Tryz.underlying29 (by kernel_rfl) (by kernel_rfl) hv h;obtain⟨ca,cc,L,rfl,c1,c2,c3,c4,c5⟩:=AMb h0;obtain⟨pa,pc,A,rfl,p1,p2,p3,p4⟩:=AGy h1;have hm:∀i,i<L.length→AFx W (cg L i):=fun i hi=>c4 _ (by rw[ATc L i hi];exact List.getElem_mem hi);exact⟨⟨ca,L,cc,pa,A,pc⟩,rfl,⟨c5,fun i hi=>(hm i hi).1,p4,c1,c3,fun i hi=>(hm i hi).2.1,fun i hi=>(hm i hi).2.2,p1,p3⟩⟩
end
end
end Go.Proofs.YtebofaenlhhkaaaGreat
