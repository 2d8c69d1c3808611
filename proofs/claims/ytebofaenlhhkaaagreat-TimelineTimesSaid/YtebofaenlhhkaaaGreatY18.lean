import Derived.Test.YtebofaenlhhkaaaGreatY17
import Derived.Test.YtebofaenlhhkaaaGreatY4
namespace Go.Proofs.YtebofaenlhhkaaaGreat
set_option maxRecDepth 100000
set_option maxHeartbeats 80000000
set_option linter.unusedSimpArgs false
section
open Go.RowKit Go.Shelf Go.Maps Go.WideMaps
attribute [local go_sem] Oper.semAt_some
def AJe(w:World)(b:Nat)(p:ByteArray×ByteArray):Prop:=w.cell? ⟨b,0,none⟩=some (.string p.1)∧w.cell? ⟨b,1,none⟩=some (.string p.2)
theorem AJe.carry{W w:World}{b:Nat}{p:ByteArray×ByteArray}(c:AJe W b p)(h:Below W.heap.size W w):AJe w b p:=
 ⟨(ct h c.1 (wl c.1)),(ct h c.2 (wl c.2))⟩
theorem AVk(w:World):(zeroValue 208).run Tryz.prog w=.ok (.agg #[]) w:=by kernel_rfl
theorem AHd(s:Aq)(w:World)(hs:SheetIn0 w s)(hcl:s.cues.length≤1000)(hn:ABc s.pairs):
  Calls Tryz.prog 97 #[.agg #[.slice s.ca s.cues.length s.cc,.slice s.pa s.pairs.length s.pc]] w fun e w'=>e=.returned (.bool (Ph s.cues s.pairs))∧Below w.heap.size w w':=by
 have hb0:=Aa w (Uo s);have hat:Bo (w.alloc (Uo s)) w.heap.size s:=by unfold Bo;simp
 have HX:Hid (∀w',Below (w.alloc (Uo s)).heap.size (w.alloc (Uo s)) w'→Bo w' w.heap.size s∧SheetIn0 w' s∧Below w.heap.size w w'):=lh fun w' z=>⟨hat.carry z,(hs.grow hb0).grow z,hb0.trans (z.mono hb0.size)⟩;have HNN:=lh hn;clear hs hat hb0 hn;have hmm:=@run_makeMap Tryz.prog
 go_enter Tryz.func97,Tryz.ntmps97
 go_upto_region 1 with (fail)
 have HW:Hid (∀w',Below (w.alloc (Uo s)).heap.size (w.alloc (Uo s)) w'→Below w.heap.size w w'):=lh fun w' z=>(HX.out w' z).2.2;generalize w.alloc (Uo s)=W0 at *;obtain⟨B,hB⟩:=nm (w.heap.size);rw[hB]at HX⊢;clear hB;obtain⟨⟨s0,s1⟩,-,-⟩:=HX.out _ br;obtain⟨pa,hpa⟩:=nm (s.pa);have HPA:=lh hpa;rw[hpa]at s1⊢;clear hpa
 by_cases hl:1000<s.pairs.length
 ·have HZ:=lh (ACy (C:=s.cues) (A:=s.pairs) fun z=>by have:=z.1;omega)
  have g1:decide ((1000:Int)<(s.pairs.length:Int))=true:=dT (by omega);clear hl
  go_wp2_with fail
  go_ret;exact⟨Ab HZ.out.symm,HW.out _ br⟩
 have g1:decide ((1000:Int)<(s.pairs.length:Int))=false:=dF (by omega);have hlt0:B<W0.heap.size:=wl s0
 go_upto_region 5 with (fail)
 clear s0 s1;obtain⟨BM,hBM⟩:=nm (W0.heap.size);have HM0:Hid ((W0.alloc (.map #[] 0)).ownsMap Tryz.prog 149 unitElem BM 0 (Qs s.pairs 0)):=lh (by rw[←hBM];exact World.ownsMap_made _ _ _ _);have hB0:Below BM W0 (W0.alloc (.map #[] 0)):=by rw[←hBM];exact Aa W0 _
 have hs0:BM<(W0.alloc (.map #[] 0)).heap.size:=by rw[←hBM];simp
 have HXX:Hid (∀w',Below BM W0 w'→Bo w' B s∧SheetIn0 w' s):=lh fun w' z=>by rw[←hBM]at z;exact⟨(HX.out w' z).1,(HX.out w' z).2.1⟩
 have HWW:Hid (∀w',Below BM W0 w'→Below w.heap.size w w'):=lh fun w' z=>by rw[←hBM]at z;exact HW.out w' z
 rw[hBM];clear HX HW hBM
 go_loopw [16,5,6,7] (fun iv _ _ _ wr=>∃k:Nat,iv=.int .i64 k∧k≤s.pairs.length∧Hid (∀j,j<k→Fx s.cues s.pairs j)∧Below BM W0 wr∧BM<wr.heap.size∧Hid (wr.ownsMap Tryz.prog 149 unitElem BM k (Qs s.pairs k))) (fun iv _ _ _ _=>s.pairs.length-(intOf iv).toNat)
 case atStart=>exact⟨0,rfl,nz,lh (fun _ z=>absurd z (Nat.not_lt_zero _)),hB0,hs0,HM0⟩
 case round=>
  clear hB0 hs0 HM0;obtain⟨k,rfl,hk,HA,hB,hbs,HO⟩:=hrel
  by_cases hlt:k<s.pairs.length
  ·obtain⟨xb,xo,hxa,hxb,hxc⟩:=(HXX.out _ hB).2.plies (by omega)
   rw[HPA.out]at hxa;subst hxa;obtain⟨d0,d1⟩:=hxc k hlt;have HNO:Hid (¬Fx s.cues s.pairs k→Ph s.cues s.pairs=false):=lh fun n=>ACy fun z=>n (z.2 k hlt)
   have HNX:Hid (Fx s.cues s.pairs k→∀j,j<k+1→Fx s.cues s.pairs j):=lh fun z j hj=>by
    rcases Nat.lt_or_ge j k with l | l
    ·exact HA.out j l
    ·obtain rfl:j=k:=by omega
     exact z
   have HHS:=lh (AOa HNN.out hlt);have HDN:=lh (AHj s.pairs hlt);have HSZ:=lh (Tr (HNN.out k hlt));obtain⟨x,hx⟩:=nm (pg s.pairs k);have HXK:=lh hx;rw[hx]at d0 d1 HHS HDN HSZ;clear hx hxc;obtain⟨p,hp⟩:=nm (Lr x);have HNP:=lh hp;rw[hp]at HHS HDN HSZ;clear hp;obtain⟨o,ho⟩:=nm ((Op.bytesLess x.1.toList x.2.toList||x.1.toList==x.2.toList));have HPO:Hid (p=if o=true then x else(x.2,x.1)):=lh (by rw[←HNP.out,←ho];rfl);have HB3:=lh (hB.alloc (Nat.le_of_lt hbs) (.cells #[.string p.1,.string p.2] 149));have HO1:=lh (Gv HO.out (Aa wr (.cells #[.string p.1,.string p.2] 149)));have HP1:Hid (AJe (wr.alloc (.cells #[.string p.1,.string p.2] 149)) wr.heap.size p):=lh ⟨by simp,by simp⟩;clear HO HA
   cases o
   case' false=>
    have e1:x.2=p.1:=by rw[HPO.out];rfl
    have e2:x.1=p.2:=by rw[HPO.out];rfl
    have HPX:Hid (p=(x.2,x.1)):=lh (HPO.out.trans rfl)
   case' true=>
    have e1:x.1=p.1:=by rw[HPO.out];rfl
    have e2:x.2=p.2:=by rw[HPO.out];rfl
    have HPX:Hid (p=x):=lh (HPO.out.trans rfl)
   all_goals
    have E1:=lh e1;have E2:=lh e2;clear e1 e2
    go_upto_region 9 with (fail)
    clear ho;rw[E1.out,E2.out];have HBS:Hid (BM≤(wr.alloc (.cells #[.string p.1,.string p.2] 149)).heap.size):=lh (by simp;omega);generalize wr.alloc (.cells #[.string p.1,.string p.2] 149)=W3 at *;obtain⟨B5,hB5⟩:=nm (wr.heap.size);rw[hB5]at HP1⊢;have HKP:Hid (keyOf Tryz.prog 149 (.agg #[.string p.1,.string p.2])=some (Ny p)):=lh (Oh p HSZ.out.1 HSZ.out.2);obtain⟨q0,q1⟩:=HP1.out;obtain⟨t,ht⟩:=nm (Maps.has (Qs s.pairs k) (Ny p));rw[ht]at HHS;have HT:=lh ht;clear ht hB5 d0 d1
    go_upto_region 10 with (at_lookup;refine wpList_lookup_own_unit _ rfl _ _ 207 rfl 149 208 Zq Tryz.underlying207 (AVk _) BM k (Qs s.pairs k) rfl HO1.out _ (Ny p) rfl HKP.out ?_;rw[HT.out])
    have HQQ:Hid (Fx s.cues s.pairs k↔t=false∧p.1≠p.2∧0≤Cj s.cues p.1∧0≤Cj s.cues p.2):=lh (ABg HXK.out (by first | exact .inl HPX.out | exact .inr HPX.out) HHS.out);have hb34:=Aa W3 (.cells #[] 208);have HB4:=lh (HB3.out.alloc ((HBS.out)) (.cells #[] 208));have HO4:=lh (Gv HO1.out hb34);have HP4:=lh (HP1.out.carry hb34);have hs4:BM≤(W3.alloc (.cells #[] 208)).heap.size:=nt (HBS.out) hb34.size;clear q0 q1 hb34 HB3 HO1 HP1;generalize W3.alloc (.cells #[] 208)=W4 at *;obtain⟨q0,q1⟩:=HP4.out;obtain⟨⟨s0,s1⟩,-⟩:=HXX.out _ HB4.out;have HCU:Hid (∀w',Below BM W0 w'→Gs w'.heap.size w' s.ca s.cues):=lh fun w' z=>(HXX.out w' z).2.lies
    cases t
    case' true=>
     have HZ:=lh (HNO.out fun z=>by cases (HQQ.out.1 z).1)
     go_wp2_with fail
     go_ret;exact⟨Ab HZ.out.symm,HWW.out _ HB4.out⟩
    have hse:=Dj p.1 p.2
    by_cases he:p.1=p.2
    case' pos=>
     have HZ:=lh (HNO.out fun z=>(HQQ.out.1 z).2.1 he);rw[dT he]at hse;clear he
     go_wp2_with fail
     go_ret;exact⟨Ab HZ.out.symm,HWW.out _ HB4.out⟩
    rw[dF he]at hse;have HNE:=lh he;obtain⟨f1,hf1⟩:=nm (Cj s.cues p.1);obtain⟨f2,hf2⟩:=nm (Cj s.cues p.2);have HF1:=lh hf1;have HF2:=lh hf2;rw[hf1,hf2]at HQQ;clear he hf1 hf2
    by_cases hg1:f1<0
    case' pos=>
     have HZ:=lh (HNO.out fun z=>by have:=(HQQ.out.1 z).2.2.1;omega);have g2:decide (f1<0)=true:=dT hg1;clear hg1
     go_wp2_with (go_at_call 96;go_fit (Hz _ s.cues _ p.1 _ (HCU.out _ HB4.out) hcl);rintro e w5 ⟨rfl,hb5⟩;rw[HF1.out];have hB5:=HB4.out.trans (hb5.mono hs4);have hP5:=HP4.out.carry hb5;have HO5:=lh (Gv HO4.out hb5);have hs5:=nt hs4 hb5.size;obtain⟨⟨y0,y1⟩,-⟩:=HXX.out _ hB5;obtain⟨z0,z1⟩:=hP5)
     go_ret;exact⟨Ab HZ.out.symm,HWW.out _ hB5⟩
    have g2:decide (f1<0)=false:=dF hg1
    by_cases hg2:f2<0
    case' pos=>
     have HZ:=lh (HNO.out fun z=>by have:=(HQQ.out.1 z).2.2.2;omega);have g3:decide (f2<0)=true:=dT hg2;clear hg2 hg1
     go_wp2_with (first
      | (go_at_call 96;go_fit (Hz _ s.cues _ p.2 _ (HCU.out _ hB5) hcl);rintro e w6 ⟨rfl,hb6⟩;rw[HF2.out];have hB6:=hB5.trans (hb6.mono hs5);have hP6:=AJe.carry ⟨z0,z1⟩ hb6;have HO6:=lh (Gv HO5.out hb6);have hs6:=nt hs5 hb6.size;obtain⟨v0,v1⟩:=hP6)
      | (go_at_call 96;go_fit (Hz _ s.cues _ p.1 _ (HCU.out _ HB4.out) hcl);rintro e w5 ⟨rfl,hb5⟩;rw[HF1.out];have hB5:=HB4.out.trans (hb5.mono hs4);have hP5:=HP4.out.carry hb5;have HO5:=lh (Gv HO4.out hb5);have hs5:=nt hs4 hb5.size;obtain⟨⟨y0,y1⟩,-⟩:=HXX.out _ hB5;obtain⟨z0,z1⟩:=hP5))
     go_ret;exact⟨Ab HZ.out.symm,HWW.out _ hB6⟩
    have g3:decide (f2<0)=false:=dF hg2;have HNXT:=lh (HNX.out (HQQ.out.2 ⟨rfl,HNE.out,by omega,by omega⟩));clear hg1 hg2
    go_upto_region 12 with (first
     | (go_at_call 96;go_fit (Hz _ s.cues _ p.2 _ (HCU.out _ hB5) hcl);rintro e w6 ⟨rfl,hb6⟩;rw[HF2.out];have hB6:=hB5.trans (hb6.mono hs5);have hP6:=AJe.carry ⟨z0,z1⟩ hb6;have HO6:=lh (Gv HO5.out hb6);have hs6:=nt hs5 hb6.size;obtain⟨v0,v1⟩:=hP6)
     | (go_at_call 96;go_fit (Hz _ s.cues _ p.1 _ (HCU.out _ HB4.out) hcl);rintro e w5 ⟨rfl,hb5⟩;rw[HF1.out];have hB5:=HB4.out.trans (hb5.mono hs4);have hP5:=HP4.out.carry hb5;have HO5:=lh (Gv HO4.out hb5);have hs5:=nt hs4 hb5.size;obtain⟨⟨y0,y1⟩,-⟩:=HXX.out _ hB5;obtain⟨z0,z1⟩:=hP5))
    go_wp2_with (at_mapUpdate;refine wpList_mapUpdate_own _ rfl _ _ _ 207 rfl 149 208 Zq Tryz.underlying207 unitElem BM k (Qs s.pairs k) rfl HO6.out (by unfold maxLen;omega) (.agg #[.string p.1,.string p.2]) (.agg #[]) (Ny p) rfl rfl HKP.out (.agg []) [] unitElem_mk ?_;intro w7 hown7 hgrow7;rw[HDN.out]at hown7;have HO7:=lh hown7;have HG7:=lh hgrow7;clear hown7 hgrow7)
    have hB7:Below BM W0 w7:=hB6.grown HG7.out hs6 (fun j hj=>by cases hj;exact nr);go_roundw
    case rel=>exact⟨k+1,by go_num,by omega,HNXT,hB7,(HO7.out.lt),HO7⟩
    case measure=>simp[intOf];omega
  ·obtain rfl:k=s.pairs.length:=by omega
   have HZ:Hid (Ph s.cues s.pairs=true):=lh (Nc.2 ⟨by omega,HA.out⟩)
   go_wp2_with fail
   go_ret;exact⟨Ab HZ.out.symm,HWW.out _ hB⟩
end
section
open Go.RowKit Go.Shelf
attribute [local go_sem] Oper.semAt_some
def Mx(w:World)(b:Nat)(x:Cz):Prop:=w.cell? ⟨b,0,none⟩=some (.string x.name)∧w.cell? ⟨b,1,none⟩=some (.int .i64 x.lo)∧w.cell? ⟨b,2,none⟩=some (.int .i64 x.hi)∧w.cell? ⟨b,3,none⟩=some (.int .i64 x.most)
theorem Mx.carry{w w':World}{b:Nat}{x:Cz}(h:Mx w b x)(hb:Below w.heap.size w w'):Mx w' b x:=by
 have hlt:b<w.heap.size:=wl h.1;obtain⟨a0,a1,a2,a3⟩:=h;exact⟨ct hb a0 hlt,ct hb a1 hlt,ct hb a2 hlt,ct hb a3 hlt⟩
theorem Mx.new(w:World)(x:Cz)(t:TypeId):Mx (w.alloc (.cells #[.string x.name,.int .i64 x.lo,.int .i64 x.hi,.int .i64 x.most] t)) w.heap.size x:=by
 unfold Mx
 simp
theorem Ib(s:ByteArray)(w:World):Calls Tryz.prog 176 #[.string s] w fun e w'=>e=.returned (.bool (Ao s))∧w=w':=by
 go_enter Tryz.func176,Tryz.ntmps176
 go_wp2_with (go_at_call 143;go_fit (Ah s _);rintro e w1 ⟨rfl,rfl⟩)
 go_ret;exact⟨rfl,rfl⟩
theorem Cw(n:Int)(w:World):Calls Tryz.prog 177 #[.int .i64 n] w fun e w'=>e=.returned (.bool (Ai n 0 1048576))∧w=w':=by
 by_cases h:0≤n
 ·have g:=dT h
  have HR:Hid (Ai n 0 1048576=decide (n≤1048576)):=lh (by unfold Ai;rw[g];rfl);rw[HR.out];clear h
  go_enter Tryz.func177,Tryz.ntmps177
  go_wp2_with fail
  go_ret;exact⟨rfl,rfl⟩
 ·have g:=dF h
  have HR:Hid (Ai n 0 1048576=false):=lh (by unfold Ai;rw[g];rfl);rw[HR.out];clear h
  go_enter Tryz.func177,Tryz.ntmps177
  go_wp2_with fail
  go_ret;exact⟨rfl,rfl⟩
theorem AHi(args:Array Value)(w:World):(callFunc 179 args).run Tryz.prog w=.ok (.enter 179 args) w:=enters_of Tryz.func179 (by kernel_rfl) rfl args w
theorem ALz(b:Nat)(x y:Cz)(w:World)(h:Mx w b x)(hlt:b<w.heap.size):
  Calls Tryz.prog 179 #[.agg #[.string y.name,.int .i64 y.lo,.int .i64 y.hi,.int .i64 y.most],.pointer (some ⟨b,0,none⟩)] w fun e w'=>e=.returned (.bool (decide (y.name=x.name)))∧Below w.heap.size w w':=by
 obtain⟨a0,a1,a2,a3⟩:=h
 go_enter Tryz.func179,Tryz.ntmps179
 go_wp2_with fail
 go_ret;exact⟨Ab (Dj _ _),Aa _ _⟩
theorem ALd{w:World}{b:Nat}{x:Cz}(h:Mx w b x)(hlt:b<w.heap.size):Sk 179 #[.pointer (some ⟨b,0,none⟩)] w.heap.size w (fun y=>decide (y.name=x.name)):=by
 intro W r hb;exact ALz b x r W (h.carry hb) (Nat.lt_of_lt_of_le hlt hb.size)
theorem Uz(a:Option Addr)(M:List Cz)(n cap n₀ g:Nat)(cb:Array Value)(p:Cz→Bool)(w:World)(hn:n=M.length)(eg:∀args w,(callFunc g args).run Tryz.prog w=.ok (.enter g args) w)
  (hl:n≤1100) (hn₀:n₀≤w.heap.size) (hI:Gj n₀ w a M) (hp:Sk g cb n₀ w p):
  Calls Tryz.prog 178 #[.slice a n cap,.func (.func g) #[] cb] w fun e w'=>e=.returned (.bool (Mh M p))∧Below w.heap.size w w':=by
 subst hn;exact Sg a M cap n₀ g cb p w eg hl hn₀ hI hp
theorem AIn{L:List Cz}{k j:Nat}(h:j<k):rg (L.take k) j=rg L j:=by
 unfold rg;rw[List.getElem?_take,if_pos h]
theorem AGi{L:List Cz}{k:Nat}(hk:k≤L.length)(s:ByteArray):Mh (L.take k) (fun y=>decide (y.name=s))=false↔∀j,j<k→(rg L j).name≠s:=by
 unfold Mh;rw[decide_eq_false_iff_not];have hl:(L.take k).length=k:=by rw[List.length_take];omega
 rcases Tt (L.take k) (fun y=>decide (y.name=s))with ⟨e,n⟩ | ⟨i,hi,e,hn,_⟩
 ·rw[hl]at n
  refine⟨fun _ j hj=>?_,fun _=>by omega⟩;have:=n j hj;rw[AIn hj]at this
  simpa using this
 ·rw[hl]at hi
  refine⟨fun h=>absurd (by omega) h,fun h=>absurd ?_ (h i hi)⟩;rw[AIn hi]at hn
  simpa using hn
theorem Yq(a:Option Addr)(L:List Cz)(c:Nat)(w:World)(hl:L.length≤1000)(hcap:L.length≤c)(h:Gj w.heap.size w a L):
  Calls Tryz.prog 144 #[.slice a L.length c] w fun e w'=>e=.returned (.bool (Hx L))∧Below w.heap.size w w':=by
 have HU:=lh h;clear h
 by_cases q:20<L.length
 ·have HR:Hid (Hx L=false):=lh (by
   cases e:Hx L
   ·rfl
   ·have:=(Fs.1 e).1;omega)
  rw[HR.out];have g:decide ((20:Int)<L.length)=true:=dT (by omega);clear q
  go_enter Tryz.func144,Tryz.ntmps144
  go_wp2_with fail
  go_ret;exact⟨rfl,br⟩
 have g:decide ((20:Int)<L.length)=false:=dF (by omega);have hq:L.length≤20:=by omega
 clear q
 go_enter Tryz.func144,Tryz.ntmps144
 go_wp2_with fail
 clear g
 go_loopw [10] (fun i wr=>∃k:Nat,k≤L.length∧i=.int .i64 k∧Hid (∀j,j<k→Lg L j)∧Below w.heap.size w wr) (fun i _=>L.length-(intOf i).toNat)
 case atStart=>exact⟨0,nz,rfl,lh (fun _ h=>absurd h (Nat.not_lt_zero _)),br⟩
 case round=>
  obtain⟨k,hk,rfl,HO,hB⟩:=hrel
  by_cases hlt:k<L.length
  ·obtain⟨b,off,rfl,hb,hc⟩:=HU.out (by omega)
   obtain⟨e0,e1,e2,e3⟩:=hc k hlt;have c0:=(ct hB e0 hb);have c1:=(ct hB e1 hb);have c2:=(ct hB e2 hb);have c3:=(ct hB e3 hb);have i0:0≤(k:Int):=by omega
   have i1:(k:Int)<(L.length:Int):=by omega
   have s1:IntKind.i64.wrap ((k:Int)+1)=(k:Int)+1:=IntWalk.i64_in _ (by omega);have hTl:k=(L.take k).length:=by rw[List.length_take];omega
   have HTL:=lh hTl;have k1:k≤c:=by omega
   have k2:(k:Int)≤(c:Int):=by omega
   have HN:Hid (¬Lg L k→Hx L=false):=lh (AEr hlt);have HAT:Hid (Lg L k↔Ld (rg L k)∧∀j,j<k→(rg L j).name≠(rg L k).name):=lh Iff.rfl;have HTW:=lh (AGi (L:=L) (k:=k) hk (rg L k).name);have HTK:Hid (Gj w.heap.size w (some ⟨b,off,none⟩) (L.take k)):=lh (HU.out.take k);have HB:=lh hB
   have HO2:Hid (Lg L k→∀j,j<k+1→Lg L j):=lh fun h j hj=>by
    rcases Nat.lt_or_eq_of_le (Nat.le_of_lt_succ hj)with l | l
    ·exact HO.out j l
    ·subst l;exact h
   generalize rg L k=x at *;have HNEW:=lh (Mx.new wr x 148);have hB1:=hB.alloc hB.size (.cells #[.string x.name,.int .i64 x.lo,.int .i64 x.hi,.int .i64 x.most] 148);clear hc e0 e1 e2 e3 HO hTl hB
   go_upto_region 6 with (fail)
   have HS1:Hid (Below wr.heap.size wr (wr.alloc (.cells #[.string x.name,.int .i64 x.lo,.int .i64 x.hi,.int .i64 x.most] 148))):=lh (Aa _ _);have hz:wr.heap.size<(wr.alloc (.cells #[.string x.name,.int .i64 x.lo,.int .i64 x.hi,.int .i64 x.most] 148)).heap.size:=by simp
   clear c0 c1 c2 c3;obtain⟨B,hBe⟩:=nm (wr.heap.size);simp only[hBe]at HNEW hz⊢;generalize wr.alloc (.cells #[.string x.name,.int .i64 x.lo,.int .i64 x.hi,.int .i64 x.most] 148)=W1 at *;obtain⟨d0,d1,d2,d3⟩:=HNEW.out
   cases h1:Ao x.name
   ·have H1:=lh h1
    have HZ:=lh (HN.out (fun hh=>absurd (HAT.out.1 hh) (fun h=>by have:=h.1.1;rw[H1.out]at this;cases this)));clear h1
    go_wp2_with (first
     | (go_at_call 176;go_fit (Ib x.name _);rintro e w2 ⟨rfl,rfl⟩;rw[H1.out])
     | (go_at_call 177;go_fit (Cw x.lo _);rintro e w3 ⟨rfl,rfl⟩;rw[H2.out])
     | (go_at_call 177;go_fit (Cw x.hi _);rintro e w4 ⟨rfl,rfl⟩;rw[H3.out]))
    go_ret;exact⟨Ab HZ.out.symm,hB1⟩
   have H1:=lh h1;clear h1
   cases h2:Ai x.lo 0 1048576
   ·have H2:=lh h2
    have HZ:=lh (HN.out (fun hh=>absurd (HAT.out.1 hh) (fun h=>by have:=h.1;unfold Ld at this;have e:Ai x.lo 0 1048576=true:=Am.2 (by omega);rw[H2.out]at e;cases e)));clear h2
    go_wp2_with (first
     | (go_at_call 176;go_fit (Ib x.name _);rintro e w2 ⟨rfl,rfl⟩;rw[H1.out])
     | (go_at_call 177;go_fit (Cw x.lo _);rintro e w3 ⟨rfl,rfl⟩;rw[H2.out])
     | (go_at_call 177;go_fit (Cw x.hi _);rintro e w4 ⟨rfl,rfl⟩;rw[H3.out]))
    go_ret;exact⟨Ab HZ.out.symm,hB1⟩
   have H2:=lh h2;clear h2
   cases h3:Ai x.hi 0 1048576
   ·have H3:=lh h3
    have HZ:=lh (HN.out (fun hh=>absurd (HAT.out.1 hh) (fun h=>by have:=h.1;unfold Ld at this;have e:Ai x.hi 0 1048576=true:=Am.2 (by omega);rw[H3.out]at e;cases e)));clear h3
    go_wp2_with (first
     | (go_at_call 176;go_fit (Ib x.name _);rintro e w2 ⟨rfl,rfl⟩;rw[H1.out])
     | (go_at_call 177;go_fit (Cw x.lo _);rintro e w3 ⟨rfl,rfl⟩;rw[H2.out])
     | (go_at_call 177;go_fit (Cw x.hi _);rintro e w4 ⟨rfl,rfl⟩;rw[H3.out]))
    go_ret;exact⟨Ab HZ.out.symm,hB1⟩
   have H3:=lh h3;clear h3
   cases h4:decide (x.hi<x.lo)
   case true=>
    have H4:=lh h4;have HZ:=lh (HN.out (fun hh=>absurd (HAT.out.1 hh) (fun h=>by have:=h.1;unfold Ld at this;have e:=of_decide_eq_true H4.out;omega)))
    go_wp2_with (first
     | (go_at_call 176;go_fit (Ib x.name _);rintro e w2 ⟨rfl,rfl⟩;rw[H1.out])
     | (go_at_call 177;go_fit (Cw x.lo _);rintro e w3 ⟨rfl,rfl⟩;rw[H2.out])
     | (go_at_call 177;go_fit (Cw x.hi _);rintro e w4 ⟨rfl,rfl⟩;rw[H3.out]))
    go_ret;exact⟨Ab HZ.out.symm,hB1⟩
   have H4:=lh h4
   cases h5:decide (x.most<0)
   case true=>
    have H5:=lh h5;have HZ:=lh (HN.out (fun hh=>absurd (HAT.out.1 hh) (fun h=>by have:=h.1;unfold Ld at this;have e:=of_decide_eq_true H5.out;omega)))
    go_wp2_with (first
     | (go_at_call 176;go_fit (Ib x.name _);rintro e w2 ⟨rfl,rfl⟩;rw[H1.out])
     | (go_at_call 177;go_fit (Cw x.lo _);rintro e w3 ⟨rfl,rfl⟩;rw[H2.out])
     | (go_at_call 177;go_fit (Cw x.hi _);rintro e w4 ⟨rfl,rfl⟩;rw[H3.out]))
    go_ret;exact⟨Ab HZ.out.symm,hB1⟩
   have H5:=lh h5
   cases h6:decide (67108864<x.most)
   case true=>
    have H6:=lh h6;have HZ:=lh (HN.out (fun hh=>absurd (HAT.out.1 hh) (fun h=>by have:=h.1;unfold Ld at this;have e:=of_decide_eq_true H6.out;omega)))
    go_wp2_with (first
     | (go_at_call 176;go_fit (Ib x.name _);rintro e w2 ⟨rfl,rfl⟩;rw[H1.out])
     | (go_at_call 177;go_fit (Cw x.lo _);rintro e w3 ⟨rfl,rfl⟩;rw[H2.out])
     | (go_at_call 177;go_fit (Cw x.hi _);rintro e w4 ⟨rfl,rfl⟩;rw[H3.out]))
    go_ret;exact⟨Ab HZ.out.symm,hB1⟩
   have H6:=lh h6
   have HOK:Hid (Ld x):=lh (by
    have a2:=Am.1 H2.out;have a3:=Am.1 H3.out;have a4:=of_decide_eq_false H4.out;have a5:=of_decide_eq_false H5.out;have a6:=of_decide_eq_false H6.out;exact⟨H1.out,by omega,by omega,by omega,by omega,by omega⟩)
   have HCON:Hid (Calls Tryz.prog 178 #[.slice (some ⟨b,off,none⟩) k c,.func (.func 179) #[] #[.pointer (some ⟨B,0,none⟩)]] W1 fun e w'=>e=.returned (.bool (Mh (L.take k) (fun y=>decide (y.name=x.name))))∧Below W1.heap.size W1 w'):=lh
    (Uz (some ⟨b,off,none⟩) (L.take k) k c _ _ _ (fun y=>decide (y.name=x.name)) _ HTL.out AHi (by omega) nr ((HTK.out.below hB1).mono hB1.size) (ALd HNEW.out hz))
   cases h7:Mh (L.take k) (fun y=>decide (y.name=x.name))
   ·have H7:=lh h7
    have HY:=lh (HO2.out (HAT.out.2 ⟨HOK.out,HTW.out.1 h7⟩));rw[h7]at HCON;clear h7
    go_wp2_with (first
     | (go_at_call 176;go_fit (Ib x.name _);rintro e w2 ⟨rfl,rfl⟩;rw[H1.out])
     | (go_at_call 177;go_fit (Cw x.lo _);rintro e w3 ⟨rfl,rfl⟩;rw[H2.out])
     | (go_at_call 177;go_fit (Cw x.hi _);rintro e w4 ⟨rfl,rfl⟩;rw[H3.out])
     | (go_at_call 178;go_fit HCON.out;rintro e w5 ⟨rfl,hb5⟩))
    go_roundw
    case rel=>exact⟨k+1,by omega,by go_num,HY,hB1.trans (hb5.mono hB1.size)⟩
    case measure=>simp[intOf];omega
   ·have H7:=lh h7
    have HZ:=lh (HN.out (fun hh=>by
     have:=HTW.out.2 (HAT.out.1 hh).2;rw[H7.out]at this
     cases this))
    rw[h7]at HCON;clear h7
    go_wp2_with (first
     | (go_at_call 176;go_fit (Ib x.name _);rintro e w2 ⟨rfl,rfl⟩;rw[H1.out])
     | (go_at_call 177;go_fit (Cw x.lo _);rintro e w3 ⟨rfl,rfl⟩;rw[H2.out])
     | (go_at_call 177;go_fit (Cw x.hi _);rintro e w4 ⟨rfl,rfl⟩;rw[H3.out])
     | (go_at_call 178;go_fit HCON.out;rintro e w5 ⟨rfl,hb5⟩))
    go_ret;exact⟨Ab HZ.out.symm,hB1.trans (hb5.mono hB1.size)⟩
  ·obtain rfl:k=L.length:=by omega
   have HR:=lh (Fs.2 ⟨hq,HO.out⟩)
   go_wp2_with fail
   go_ret;exact⟨Ab HR.out.symm,hB⟩
theorem APw(args:Array Value)(w:World):(callFunc 184 args).run Tryz.prog w=.ok (.enter 184 args) w:=enters_of Tryz.func184 (by kernel_rfl) rfl args w
theorem AKx(b:Nat)(s:ByteArray)(y:Ds)(w:World)(h:w.cell? ⟨b,0,none⟩=some (.string s)):
  Calls Tryz.prog 184 #[.agg #[.string y.name,.int .i64 y.depth,.int .i64 y.low,.int .i64 y.high,.int .i64 y.length,.slice y.la y.lines.length y.lc,.int .i64 y.pipe,.int .i64 y.arbor,.int .i64 y.purchase,.int .i64 y.most,.int .i64 y.brake,.slice y.ia y.items.length y.ic,.slice y.ba y.bricks.length y.bc],.pointer (some ⟨b,0,none⟩)] w fun e w'=>e=.returned (.bool (decide (y.name=s)))∧Below w.heap.size w w':=by
 have hlt:b<w.heap.size:=wl h
 go_enter Tryz.func184,Tryz.ntmps184
 go_wp2_with fail
 go_ret;exact⟨Ab (Dj _ _),Aa _ _⟩
theorem ALa{w:World}{b:Nat}{s:ByteArray}(h:w.cell? ⟨b,0,none⟩=some (.string s)):Vl 184 #[.pointer (some ⟨b,0,none⟩)] w.heap.size w (fun y=>decide (y.name=s)):=by
 intro W r hb;exact AKx b s r W ((ct hb h (wl h)))
theorem ALr(h:Ae)(s:ByteArray)(w:World)(hh:Ax w h):
  Calls Tryz.prog 146 #[.agg #[.string h.name,.int .i64 h.height,.slice h.sa h.sets.length h.sc,.slice h.ra h.roofs.length h.rc],.string s] w fun e w'=>e=.returned (.int .i64 (Cv h.sets s))∧Below w.heap.size w w':=by
 have hB:=(Aa w (Ex h)).alloc (by simp) (.cells #[.string s] 9);have hs0:((w.alloc (Ex h)).alloc (.cells #[.string s] 9)).cell? ⟨w.heap.size+1,0,none⟩=some (.string s):=by simp
 have HA:=lh (ALa hs0)
 have HI:Hid (Calls Tryz.prog 45 #[.slice h.sa h.sets.length h.sc,.func (.func 184) #[] #[.pointer (some ⟨w.heap.size+1,0,none⟩)]] ((w.alloc (Ex h)).alloc (.cells #[.string s] 9)) fun e w'=>e=.returned (.int .i64 (Ga h.sets (fun y=>decide (y.name=s))))∧Below ((w.alloc (Ex h)).alloc (.cells #[.string s] 9)).heap.size ((w.alloc (Ex h)).alloc (.cells #[.string s] 9)) w'):=lh
  (Ly h.sa h.sets h.sc _ _ _ (fun y=>decide (y.name=s)) _ APw (by have:=hh.slen;omega) nr (hh.sets.grow hB) HA.out)
 have HBB:=lh hB;clear hs0 HA hB hh
 go_enter Tryz.func146,Tryz.ntmps146
 go_wp2_with (go_at_call 45;go_fit HI.out;rintro e w1 ⟨rfl,hb1⟩)
 go_ret;exact⟨rfl,HBB.out.trans (hb1.mono HBB.out.size)⟩
theorem Ir(h:Ae)(w:World)(hh:Ax w h):
  Calls Tryz.prog 94 #[.agg #[.string h.name,.int .i64 h.height,.slice h.sa h.sets.length h.sc,.slice h.ra h.roofs.length h.rc]] w fun e w'=>e=.returned (.bool (Dz h))∧Below w.heap.size w w':=by
 have HH:=lh hh;have hsl:=hh.slen;have hcap:=hh.scap;have HGV:Hid (∀w':World,Below w.heap.size w w'→Calls Tryz.prog 144 #[.slice h.ra h.roofs.length h.rc] w' fun e w2=>e=.returned (.bool (Hx h.roofs))∧Below w'.heap.size w' w2):=lh fun w' hb=>Yq h.ra h.roofs h.rc w' hh.rlen hh.rcap (hh.roofs.grow hb)
 have HNO:Hid ((¬(Ao h.name=true∧1≤h.height∧h.height≤1048576∧h.sets.length≤60∧Nf h.roofs))→Dz h=false):=lh fun n=>by
  cases e:Dz h
  ·rfl
  ·obtain⟨a,b,c,d,e,_⟩:=Hw.1 e
   exact absurd ⟨a,b,c,d,e⟩ n
 have hat:=Au.new w h 25;obtain⟨sa,hsa⟩:=nm (h.sa);have HSA:=lh hsa;rw[hsa]at hat⊢;have HAT:=lh hat;have hW0:=Aa w (.cells #[.string h.name,.int .i64 h.height,.slice sa h.sets.length h.sc,.slice h.ra h.roofs.length h.rc] 25);clear hh hat hsa
 cases h1:Ao h.name
 case false=>
  have H1:=lh h1;have HZ:=lh (HNO.out (fun q=>by rw[H1.out]at q;exact absurd q.1 (by decide)));clear h1
  go_enter Tryz.func94,Tryz.ntmps94
  go_upto_region 1 with (fail)
  generalize w.alloc (.cells #[.string h.name,.int .i64 h.height,.slice sa h.sets.length h.sc,.slice h.ra h.roofs.length h.rc] 25)=W0 at *;obtain⟨k0,k1,k2,k3⟩:=HAT.out;rw[HSA.out]at k2
  go_wp2_with (first
   | (go_at_call 143;go_fit (Ah h.name _);rintro e w1 ⟨rfl,rfl⟩;rw[H1.out])
   | (go_at_call 144;go_fit (HGV.out _ hW0);rintro e w2 ⟨rfl,hb2⟩;rw[H5.out];clear k0 k1 k2 k3;obtain⟨k0,k1,k2,k3⟩:=HAT.out.carry hb2;rw[HSA.out]at k2))
  go_ret;exact⟨Ab HZ.out.symm,hW0⟩
 have H1:=lh h1;clear h1
 cases h2:decide (h.height<1)
 case true=>
  have H2:=lh h2;have HZ:=lh (HNO.out (fun q=>by have:=of_decide_eq_true H2.out;omega))
  go_enter Tryz.func94,Tryz.ntmps94
  go_upto_region 1 with (fail)
  generalize w.alloc (.cells #[.string h.name,.int .i64 h.height,.slice sa h.sets.length h.sc,.slice h.ra h.roofs.length h.rc] 25)=W0 at *;obtain⟨k0,k1,k2,k3⟩:=HAT.out;rw[HSA.out]at k2
  go_wp2_with (first
   | (go_at_call 143;go_fit (Ah h.name _);rintro e w1 ⟨rfl,rfl⟩;rw[H1.out])
   | (go_at_call 144;go_fit (HGV.out _ hW0);rintro e w2 ⟨rfl,hb2⟩;rw[H5.out];clear k0 k1 k2 k3;obtain⟨k0,k1,k2,k3⟩:=HAT.out.carry hb2;rw[HSA.out]at k2))
  go_ret;exact⟨Ab HZ.out.symm,hW0⟩
 have H2:=lh h2
 cases h3:decide (1048576<h.height)
 case true=>
  have H3:=lh h3;have HZ:=lh (HNO.out (fun q=>by have:=of_decide_eq_true H3.out;omega))
  go_enter Tryz.func94,Tryz.ntmps94
  go_upto_region 1 with (fail)
  generalize w.alloc (.cells #[.string h.name,.int .i64 h.height,.slice sa h.sets.length h.sc,.slice h.ra h.roofs.length h.rc] 25)=W0 at *;obtain⟨k0,k1,k2,k3⟩:=HAT.out;rw[HSA.out]at k2
  go_wp2_with (first
   | (go_at_call 143;go_fit (Ah h.name _);rintro e w1 ⟨rfl,rfl⟩;rw[H1.out])
   | (go_at_call 144;go_fit (HGV.out _ hW0);rintro e w2 ⟨rfl,hb2⟩;rw[H5.out];clear k0 k1 k2 k3;obtain⟨k0,k1,k2,k3⟩:=HAT.out.carry hb2;rw[HSA.out]at k2))
  go_ret;exact⟨Ab HZ.out.symm,hW0⟩
 have H3:=lh h3
 cases h4:decide ((60:Int)<(h.sets.length:Int))
 case true=>
  have H4:=lh h4;have HZ:=lh (HNO.out (fun q=>by have:=of_decide_eq_true H4.out;omega))
  go_enter Tryz.func94,Tryz.ntmps94
  go_upto_region 1 with (fail)
  generalize w.alloc (.cells #[.string h.name,.int .i64 h.height,.slice sa h.sets.length h.sc,.slice h.ra h.roofs.length h.rc] 25)=W0 at *;obtain⟨k0,k1,k2,k3⟩:=HAT.out;rw[HSA.out]at k2
  go_wp2_with (first
   | (go_at_call 143;go_fit (Ah h.name _);rintro e w1 ⟨rfl,rfl⟩;rw[H1.out])
   | (go_at_call 144;go_fit (HGV.out _ hW0);rintro e w2 ⟨rfl,hb2⟩;rw[H5.out];clear k0 k1 k2 k3;obtain⟨k0,k1,k2,k3⟩:=HAT.out.carry hb2;rw[HSA.out]at k2))
  go_ret;exact⟨Ab HZ.out.symm,hW0⟩
 have H4:=lh h4
 cases h5:Hx h.roofs
 case false=>
  have H5:=lh h5;have HZ:=lh (HNO.out (fun q=>by rw[Fs.2 q.2.2.2.2]at H5;exact absurd H5.out (by decide)));clear h5
  go_enter Tryz.func94,Tryz.ntmps94
  go_upto_region 1 with (fail)
  generalize w.alloc (.cells #[.string h.name,.int .i64 h.height,.slice sa h.sets.length h.sc,.slice h.ra h.roofs.length h.rc] 25)=W0 at *;obtain⟨k0,k1,k2,k3⟩:=HAT.out;rw[HSA.out]at k2
  go_wp2_with (first
   | (go_at_call 143;go_fit (Ah h.name _);rintro e w1 ⟨rfl,rfl⟩;rw[H1.out])
   | (go_at_call 144;go_fit (HGV.out _ hW0);rintro e w2 ⟨rfl,hb2⟩;rw[H5.out];clear k0 k1 k2 k3;obtain⟨k0,k1,k2,k3⟩:=HAT.out.carry hb2;rw[HSA.out]at k2))
  go_ret;exact⟨Ab HZ.out.symm,hW0.trans (hb2.mono hW0.size)⟩
 have H5:=lh h5;clear h5;have HOK:Hid ((∀k,k<h.sets.length→Hc h k)→Dz h=true):=lh fun q=>Hw.2 ⟨H1.out,by have:=of_decide_eq_false H2.out;omega,by have:=of_decide_eq_false H3.out;omega,by have:=of_decide_eq_false H4.out;omega,Fs.1 H5.out,q⟩
 go_enter Tryz.func94,Tryz.ntmps94
 go_upto_region 1 with (fail)
 generalize w.alloc (.cells #[.string h.name,.int .i64 h.height,.slice sa h.sets.length h.sc,.slice h.ra h.roofs.length h.rc] 25)=W0 at *;obtain⟨k0,k1,k2,k3⟩:=HAT.out;rw[HSA.out]at k2
 go_wp2_with (first
   | (go_at_call 143;go_fit (Ah h.name _);rintro e w1 ⟨rfl,rfl⟩;rw[H1.out])
   | (go_at_call 144;go_fit (HGV.out _ hW0);rintro e w2 ⟨rfl,hb2⟩;rw[H5.out];clear k0 k1 k2 k3;obtain⟨k0,k1,k2,k3⟩:=HAT.out.carry hb2;rw[HSA.out]at k2))
 have hB1:=hW0.trans (hb2.mono hW0.size);have HAT1:=lh (HAT.out.carry hb2);have hz:w.heap.size<w2.heap.size:=wl HAT1.out.1;clear k0 k1 k2 k3 hb2 hW0 h2 h3 h4 HNO HGV HAT
 go_loopw [34] (fun i wr=>∃k:Nat,k≤h.sets.length∧i=.int .i64 k∧Hid (∀j,j<k→Hc h j)∧Below w2.heap.size w2 wr) (fun i _=>h.sets.length-(intOf i).toNat)
 case atStart=>exact⟨0,nz,rfl,lh (fun _ h=>absurd h (Nat.not_lt_zero _)),br⟩
 case round=>
  obtain⟨k,hk,rfl,HO,hB⟩:=hrel;have HB:=lh hB
  by_cases hlt:k<h.sets.length
  ·have HIN:Hid (∀w':World,Below w2.heap.size w2 w'→Ax w' h):=lh fun w' q=>HH.out.grow (hB1.trans (q.mono hB1.size))
   obtain⟨b,off,esa,hb,hc⟩:=(HIN.out wr hB).sets (by omega);obtain rfl:sa=some ⟨b,off,none⟩:=HSA.out.symm.trans esa;have HSET:=lh ((HIN.out wr hB).all k hlt);obtain⟨c0,c1,c2,c3,c4,c5,c6,c7,c8,c9,c10,c11,c12⟩:=hc k hlt;have i0:0≤(k:Int):=by omega
   have i1:(k:Int)<(h.sets.length:Int):=by omega
   have s1:IntKind.i64.wrap ((k:Int)+1)=(k:Int)+1:=IntWalk.i64_in _ (by omega);have HN:Hid (¬Hc h k→Dz h=false):=lh (ADp hlt);have HDEF:Hid (Hc h k↔setB (hg h.sets k)=true∧(hg h.sets k).high≤h.height∧∀j,j<k→(hg h.sets j).name≠(hg h.sets k).name):=lh Iff.rfl;have HFX:=lh (AIj hlt)
   have HO2:Hid (Hc h k→∀j,j<k+1→Hc h j):=lh fun q j hj=>by
    rcases Nat.lt_or_eq_of_le (Nat.le_of_lt_succ hj)with l | l
    ·exact HO.out j l
    ·subst l;exact q
   generalize hg h.sets k=x at *;have HNEW:=lh (Ke.new wr x 59);have hBW:=Aa wr (Ko x);have hz2:wr.heap.size<(wr.alloc (Ko x)).heap.size:=by simp
   clear hc HO esa
   go_upto_region 6 with (fail)
   clear c0 c1 c2 c3 c4 c5 c6 c7 c8 c9 c10 c11 c12;obtain⟨B,hBe⟩:=nm (wr.heap.size);simp only[hBe]at HNEW hz2⊢;generalize wr.alloc (Ko x)=W1 at *;have hBX:Below w2.heap.size w2 W1:=HB.out.trans (hBW.mono HB.out.size);have HHW:=lh (HIN.out W1 hBX);have HBV:=lh (ABo x W1 (HSET.out.grow hBW));have x0:∀wx,Below W1.heap.size W1 wx→wx.cell? ⟨B,0,none⟩=some (.string x.name):=fun wx q=>(HNEW.out.below q hz2).1;have x3:∀wx,Below W1.heap.size W1 wx→wx.cell? ⟨B,3,none⟩=some (.int .i64 x.high):=fun wx q=>(HNEW.out.below q hz2).2.2.2.1;obtain⟨d0,d1,d2,d3,d4,d5,d6,d7,d8,d9,d10,d11,d12⟩:=HNEW.out;have HY:Hid (∀wx,Below W1.heap.size W1 wx→Au wx w.heap.size h):=lh fun wx q=>HAT1.out.carry (hBX.trans (q.mono hBX.size));have y0:∀wx,Below W1.heap.size W1 wx→wx.cell? ⟨w.heap.size,0,none⟩=some (.string h.name):=fun wx q=>(HY.out wx q).1;have y1:∀wx,Below W1.heap.size W1 wx→wx.cell? ⟨w.heap.size,1,none⟩=some (.int .i64 h.height):=fun wx q=>(HY.out wx q).2.1;have y2:∀wx,Below W1.heap.size W1 wx→wx.cell? ⟨w.heap.size,2,none⟩=some (.slice (some ⟨b,off,none⟩) h.sets.length h.sc):=fun wx q=>by have:=(HY.out wx q).2.2.1;rwa [HSA.out]at this
   have y3:∀wx,Below W1.heap.size W1 wx→wx.cell? ⟨w.heap.size,3,none⟩=some (.slice h.ra h.roofs.length h.rc):=fun wx q=>(HY.out wx q).2.2.2;clear hB hBW
   cases h6:setB x
   ·have H6:=lh h6
    have HZ:=lh (HN.out (fun q=>by have:=(HDEF.out.1 q).1;rw[H6.out]at this;cases this));rw[h6]at HBV;clear h6
    go_wp2_with (first
     | (go_at_call 145;go_fit HBV.out;rintro e w3 ⟨rfl,hb3⟩))
    go_ret;exact⟨Ab HZ.out.symm,hB1.trans ((hBX.trans (hb3.mono hBX.size)).mono hB1.size)⟩
   have H6:=lh h6;rw[h6]at HBV;clear h6
   cases h7:decide (h.height<x.high)
   case true=>
    have H7:=lh h7;have HZ:=lh (HN.out (fun q=>by have:=(HDEF.out.1 q).2.1;have e:=of_decide_eq_true H7.out;omega))
    go_wp2_with (first
     | (go_at_call 145;go_fit HBV.out;rintro e w3 ⟨rfl,hb3⟩))
    go_ret;exact⟨Ab HZ.out.symm,hB1.trans ((hBX.trans (hb3.mono hBX.size)).mono hB1.size)⟩
   have H7:=lh h7
   have HFI:Hid (∀wx,Below W1.heap.size W1 wx→Calls Tryz.prog 146 #[.agg #[.string h.name,.int .i64 h.height,.slice (some ⟨b,off,none⟩) h.sets.length h.sc,.slice h.ra h.roofs.length h.rc],.string x.name] wx fun e w'=>e=.returned (.int .i64 (Cv h.sets x.name))∧Below wx.heap.size wx w'):=lh fun wx q=>by
    have:=ALr h x.name wx (HIN.out wx (hBX.trans (q.mono hBX.size)))
    rwa [HSA.out]at this
   obtain⟨F,hF⟩:=nm (Cv h.sets x.name);rw[hF]at HFI HFX
   by_cases h8:F=(k:Int)
   ·have g8:(F !=(k:Int))=false:=by simpa using h8
    have HT:=lh (HO2.out (HDEF.out.2 ⟨H6.out,by have:=of_decide_eq_false H7.out;omega,HFX.out.1 h8⟩));clear h8 hF
    go_wp2_with (first
     | (go_at_call 145;go_fit HBV.out;rintro e w3 ⟨rfl,hb3⟩)
     | (go_at_call 146;go_fit (HFI.out _ hb3);rintro e w4 ⟨rfl,hb4⟩))
    go_roundw
    case rel=>exact⟨k+1,by omega,by go_num,HT,hBX.trans ((hb3.trans (hb4.mono hb3.size)).mono hBX.size)⟩
    case measure=>simp[intOf];omega
   ·have g8:(F !=(k:Int))=true:=by simpa using h8
    have HZ:=lh (HN.out (fun q=>h8 (HFX.out.2 (HDEF.out.1 q).2.2)));clear h8 hF
    go_wp2_with (first
     | (go_at_call 145;go_fit HBV.out;rintro e w3 ⟨rfl,hb3⟩)
     | (go_at_call 146;go_fit (HFI.out _ hb3);rintro e w4 ⟨rfl,hb4⟩))
    go_ret;exact⟨Ab HZ.out.symm,hB1.trans ((hBX.trans ((hb3.trans (hb4.mono hb3.size)).mono hBX.size)).mono hB1.size)⟩
  ·obtain rfl:k=h.sets.length:=by omega
   have HR:=lh (HOK.out HO.out)
   go_wp2_with fail
   go_ret;exact⟨Ab HR.out.symm,hB1.trans (hB.mono hB1.size)⟩
structure Bg(w:World)(s:Aq):Prop extends SheetIn0 w s where
 clen:s.cues.length≤1000
 mlen:∀i,i<s.cues.length→(cg s.cues i).moves.length≤1000
 names:ABc s.pairs
theorem Bg.grow{w w':World}{s:Aq}(x:Bg w s)(hb:Below w.heap.size w w'):Bg w' s:=⟨x.toSheetIn0.grow hb,x.clen,x.mlen,x.names⟩
abbrev Fo(w:World)(h:Ae)(s:Aq):World:=(w.alloc (Ex h)).alloc (Uo s)
theorem o1{h:Ae}{s:Aq}{w:World}{ga:Option Addr}{G:List Int}(hh:Ax w h)(hs:Bg w s)(hG:Bl w.heap.size w ga G):Below w.heap.size w (Fo w h s)∧Hid (∀w',Below (Fo w h s).heap.size (Fo w h s) w'→Au w' w.heap.size h∧Bo w' (w.heap.size+1) s∧Ax w' h∧Bg w' s∧Bl w'.heap.size w' ga G)∧Hid (∀w',Below (Fo w h s).heap.size (Fo w h s) w'→Below w.heap.size w w'):=by
 have hb0:Below w.heap.size w (Fo w h s):=(Aa w _).alloc (by simp) _;exact⟨hb0,lh fun w' z=>⟨((Au.new w h _).carry (Aa _ _)).carry z,(show Bo (Fo w h s) (w.heap.size+1) s by unfold Bo;simp).carry z,(hh.grow hb0).grow z,(hs.grow hb0).grow z,(hG.grow hb0).grow z⟩,lh fun w' z=>hb0.trans (z.mono hb0.size)⟩
theorem o2{h:Ae}{s:Aq}{w:World}(hh:Ax w h)(hs:Bg w s):Below w.heap.size w (Fo w h s)∧Hid (∀w',Below (Fo w h s).heap.size (Fo w h s) w'→Au w' w.heap.size h∧Bo w' (w.heap.size+1) s∧Ax w' h∧Bg w' s)∧Hid (∀w',Below (Fo w h s).heap.size (Fo w h s) w'→Below w.heap.size w w'):=by
 have hb0:Below w.heap.size w (Fo w h s):=(Aa w _).alloc (by simp) _;exact⟨hb0,lh fun w' z=>⟨((Au.new w h _).carry (Aa _ _)).carry z,(show Bo (Fo w h s) (w.heap.size+1) s by unfold Bo;simp).carry z,(hh.grow hb0).grow z,(hs.grow hb0).grow z⟩,lh fun w' z=>hb0.trans (z.mono hb0.size)⟩
theorem o3{h:Ae}{s:Aq}{w:World}{ga:Option Addr}{G:List Int}(hh:HouseIn0 w h)(hs:SheetIn0 w s)(hG:Bl w.heap.size w ga G):Below w.heap.size w (Fo w h s)∧Hid (∀w',Below (Fo w h s).heap.size (Fo w h s) w'→Au w' w.heap.size h∧Bo w' (w.heap.size+1) s∧HouseIn0 w' h∧SheetIn0 w' s∧Bl w'.heap.size w' ga G)∧Hid (∀w',Below (Fo w h s).heap.size (Fo w h s) w'→Below w.heap.size w w'):=by
 have hb0:Below w.heap.size w (Fo w h s):=(Aa w _).alloc (by simp) _;exact⟨hb0,lh fun w' z=>⟨((Au.new w h _).carry (Aa _ _)).carry z,(show Bo (Fo w h s) (w.heap.size+1) s by unfold Bo;simp).carry z,(hh.grow hb0).grow z,(hs.grow hb0).grow z,(hG.grow hb0).grow z⟩,lh fun w' z=>hb0.trans (z.mono hb0.size)⟩
noncomputable def Xa(C:List An)(k:Nat):Bool:=@decide (Jj C k) (Classical.propDecidable _)
theorem Ms{C:List An}{k:Nat}:Xa C k=true↔Jj C k:=by exact @decide_eq_true_iff (Jj C k) (Classical.propDecidable _)
theorem ARb{C:List An}{k:Nat}(n:¬Jj C k):Xa C k=false:=by
 cases e:Xa C k
 ·rfl
 ·exact absurd (Ms.1 e) n
theorem Lt(C:List An)(s:ByteArray):Cj C s=-1∨∃k:Nat,k<C.length∧Cj C s=k∧(cg C k).name=s∧∀j,j<k→(cg C j).name≠s:=by
 unfold Cj;rcases Fw C (fun r=>decide (r.name=s))with ⟨e,_⟩ | ⟨i,hi,e,hn,ha⟩
 ·exact .inl e
 ·exact .inr ⟨i,hi,e,by simpa using hn,fun j hj=>by simpa using ha j hj⟩
theorem ABm{C:List An}{k j:Nat}(h:j<k):cg (C.take k) j=cg C j:=by unfold cg;rw[List.getElem?_take,if_pos h]
theorem AHl(C:List An)(k:Nat)(s:ByteArray):0≤Cj (C.take k) s↔0≤Cj C s∧Cj C s<(k:Int):=by
 rcases Lt C s with e | ⟨i,hi,e,hn,ha⟩
 ·rcases Lt (C.take k) s with f | ⟨j,hj,f,gn,_⟩
  ·omega
  ·rw[List.length_take]at hj
   rw[ABm (by omega)]at gn;unfold Cj at e;rcases Fw C (fun r=>decide (r.name=s))with ⟨_,n⟩ | ⟨i,hi,e2,_⟩
   ·have:=n j (by omega);rw[gn]at this;simp at this
   ·omega
 ·rcases Lt (C.take k) s with f | ⟨j,hj,f,gn,ga⟩
  ·constructor
   ·intro q;omega
   ·rintro ⟨_,q⟩
    unfold Cj at f;rcases Fw (C.take k) (fun r=>decide (r.name=s))with ⟨_,n⟩ | ⟨i2,hi2,e2,_⟩
    ·have:=n i (by rw[List.length_take];omega);rw[ABm (by omega),hn]at this;simp at this
    ·omega
  ·rw[List.length_take]at hj
   rw[ABm (by omega)]at gn;have:¬j<i:=fun q=>ha j q gn;omega
theorem AFj:Ao ⟨#[]⟩=false:=by decide
theorem Sn(h:Ae)(s:Aq)(w:World)(hh:Ax w h)(hs:Bg w s):
  Calls Tryz.prog 56 #[.agg #[.string h.name,.int .i64 h.height,.slice h.sa h.sets.length h.sc,.slice h.ra h.roofs.length h.rc],.agg #[.slice s.ca s.cues.length s.cc,.slice s.pa s.pairs.length s.pc]] w fun e w'=>e=.returned (.bool (Fd h s))∧Below w.heap.size w w':=by
 obtain⟨hb0,HX,HW⟩:=o2 hh hs;have hsl:=hh.slen;have hcl:=hs.clen;have hccap:=hs.ccap;have HML:=lh hs.mlen;have HMC:=lh hs.mcap;have HNN:=lh hs.names;have HNO:=lh fun (n:¬Hv h s)=>ADq n;clear hh hs hb0
 go_enter Tryz.func56,Tryz.ntmps56
 go_upto_region 1 with (fail)
 obtain⟨W0,hW0⟩:=nm ((Fo w h s):World);simp only[hW0]at HX HW⊢;clear hW0;obtain⟨B1,hB1⟩:=nm (w.heap.size);obtain⟨B2,hB2⟩:=nm (w.heap.size+1);rw[hB2]at HX⊢;rw[hB1]at HX⊢;clear hB1 hB2;obtain⟨⟨a0,a1,a2,a3⟩,⟨s0,s1⟩,-,-⟩:=HX.out _ br
 cases hv:Dz h
 case false=>
  have HV:=lh hv;have HZ:=lh (HNO.out fun z=>by have:=z.house;rw[HV.out]at this;cases this);clear hv
  go_wp2_with (go_at_call 94;go_fit (Ir h _ (HX.out _ br).2.2.1);rintro e w1 ⟨rfl,hb1⟩;rw[HV.out])
  go_ret;exact⟨Ab HZ.out.symm,HW.out _ hb1⟩
 have HV:=lh hv;clear hv;obtain⟨ca,hca⟩:=nm (s.ca);have HCA:=lh hca;rw[hca]at s0⊢
 by_cases hl60:60<s.cues.length
 ·have HZ:=lh (HNO.out fun z=>by have:=z.cues;omega)
  have g1:decide ((60:Int)<(s.cues.length:Int))=true:=dT (by omega);clear hl60
  go_wp2_with (go_at_call 94;go_fit (Ir h _ (HX.out _ br).2.2.1);rintro e w1 ⟨rfl,hb1⟩;rw[HV.out];obtain⟨-,⟨t0,t1⟩,-,-⟩:=HX.out _ hb1)
  go_ret;exact⟨Ab HZ.out.symm,HW.out _ hb1⟩
 have g1:decide ((60:Int)<(s.cues.length:Int))=false:=dF (by omega)
 go_upto_region 5 with (go_at_call 94;go_fit (Ir h _ (HX.out _ br).2.2.1);rintro e w1 ⟨rfl,hb1⟩;rw[HV.out];obtain⟨-,⟨t0,t1⟩,-,-⟩:=HX.out _ hb1;rw[hca]at t0)
 clear a0 a1 a2 a3 s0 s1 t0 t1 hca
 go_loopw [5,20,6,7] (fun mv iv _ _ wr=>∃k:Nat,mv=.int .i64 ((Dx (s.cues.take k)).length:Int)∧iv=.int .i64 k∧k≤s.cues.length∧(Dx (s.cues.take k)).length≤100∧Hid (∀j,j<k→Jh h s.cues j)∧Below W0.heap.size W0 wr) (fun _ iv _ _ _=>s.cues.length-(intOf iv).toNat)
 case atStart=>exact⟨0,rfl,rfl,nz,by simp[Dx],lh (fun _ z=>absurd z (Nat.not_lt_zero _)),hb1⟩
 case round=>
  clear hb1;obtain⟨k,rfl,rfl,hk,hmt,HA,hB⟩:=hrel;have HIN:=lh (HX.out _ hB).2.2
  by_cases hlt:k<s.cues.length
  ·obtain⟨cb,co,ha,hcb,hcc⟩:=HIN.out.2.lies (by omega)
   rw[HCA.out]at ha;subst ha;obtain⟨d0,d1,d2,d3,d4,d5,d6⟩:=hcc k hlt;have HMV:=lh (HIN.out.2.each k hlt);have HNK:Hid (¬Jh h s.cues k→Fd h s=false):=lh fun n=>HNO.out fun z=>n (z.each k hlt)
   have HNX:Hid (Jh h s.cues k→∀j,j<k+1→Jh h s.cues j):=lh fun z j hj=>by
    rcases Nat.lt_or_ge j k with l | l
    ·exact HA.out j l
    ·obtain rfl:j=k:=by omega
     exact z
   have HMT:Hid ((Dx (s.cues.take (k+1))).length=(Dx (s.cues.take k)).length+(cg s.cues k).moves.length):=lh (by rw[Rp _ hlt,List.length_append]);have HMP:=lh (Sq s.cues (k+1));have hmk:=HML.out k hlt;have hmcap:=HMC.out k hlt;obtain⟨q,hq⟩:=nm (cg s.cues k);have HQK:=lh hq;rw[hq]at d0 d1 d2 d3 d4 d5 d6 HMV HMT hmk hmcap;obtain⟨mt,hmt2⟩:=nm ((Dx (s.cues.take k)).length:Nat);rw[hmt2]at HMT hmt⊢;clear hq hcc hmt2;have HBX:=lh (hB.alloc hB.size (Eu q));have HAX:Hid (Cx (wr.alloc (Eu q)) wr.heap.size q):=lh (Cx.new wr q _ _ rfl);have HMV3:=lh (HMV.out.grow (Aa wr (Eu q)))
   go_upto_region 8 with (fail)
   generalize wr.alloc (Eu q)=W3 at *;obtain⟨B4,hB4⟩:=nm (wr.heap.size);rw[hB4]at HAX⊢;obtain⟨⟨a0,a1,a2,a3⟩,⟨s0,s1⟩,hin,sin⟩:=HX.out _ HBX.out;obtain⟨c0,c1,c2,c3,c4,c5,c6⟩:=HAX.out;rw[HCA.out]at s0;have HHI:=lh hin;have HSI:=lh sin;clear hB4 d0 d1 d2 d3 d4 d5 d6 hin sin hB HMV HIN
   by_cases hm100:100<mt+q.moves.length
   ·have HZ:=lh (HNO.out fun z=>by have:=z.moves;have:=HMP.out;rw[HMT.out]at this;omega)
    have g2:decide ((100:Int)<(mt:Int)+(q.moves.length:Int))=true:=dT (by omega);clear hm100
    go_wp2_with fail
    go_ret;exact⟨Ab HZ.out.symm,HW.out _ HBX.out⟩
   have g2:decide ((100:Int)<(mt:Int)+(q.moves.length:Int))=false:=dF (by omega);have HM1:Hid (mt+q.moves.length≤100):=lh (by omega);clear hm100
   cases hr:Ix h q
   case false=>
    have HR:=lh hr;have HZ:=lh (HNK.out fun z=>by have:=Ef.2 z.1;rw[HQK.out,HR.out]at this;cases this);clear hr
    go_wp2_with (go_at_call 95;go_fit (Ps h q _ HHI.out.toHouseIn0 hsl HMV3.out hmk hmcap);rintro e w4 ⟨rfl,hb4⟩;rw[HR.out];have hB4:=HBX.out.trans (hb4.mono HBX.out.size);have HC4:=lh (HAX.out.carry hb4);obtain⟨⟨x0,x1,x2,x3⟩,⟨y0,y1⟩,-,-⟩:=HX.out _ hB4;rw[HCA.out]at y0;obtain⟨z0,z1,z2,z3,z4,z5,z6⟩:=HC4.out)
    go_ret;exact⟨Ab HZ.out.symm,HW.out _ hB4⟩
   have HR:=lh hr;clear hr;obtain⟨f,hf⟩:=nm (Cj s.cues q.name);have HF:=lh hf;clear hf
   by_cases hfk:f=(k:Int)
   case neg=>
    have HZ:=lh (HNK.out fun z=>hfk (by have:=z.2.1;rw[HQK.out,HF.out]at this;exact this));have g3:(f !=(k:Int))=true:=bne_iff_ne.2 hfk;clear hfk
    go_wp2_with (first
     | (go_at_call 95;go_fit (Ps h q _ HHI.out.toHouseIn0 hsl HMV3.out hmk hmcap);rintro e w4 ⟨rfl,hb4⟩;rw[HR.out];have hB4:=HBX.out.trans (hb4.mono HBX.out.size);have HC4:=lh (HAX.out.carry hb4);obtain⟨⟨x0,x1,x2,x3⟩,⟨y0,y1⟩,-,-⟩:=HX.out _ hB4;rw[HCA.out]at y0;obtain⟨z0,z1,z2,z3,z4,z5,z6⟩:=HC4.out)
     | (go_at_call 96;go_fit (Hz (some ⟨cb,co,none⟩) s.cues _ q.name _ (by rw[←HCA.out];exact(HX.out _ hB4).2.2.2.lies) hcl);rintro e w5 ⟨rfl,hb5⟩;rw[HF.out];have hB5:=hB4.trans (hb5.mono hB4.size);have HC5:=lh (HC4.out.carry hb5);obtain⟨-,⟨u0,u1⟩,-,-⟩:=HX.out _ hB5))
    go_ret;exact⟨Ab HZ.out.symm,HW.out _ hB5⟩
   subst hfk
   go_upto_region 10 with (first
    | (go_at_call 95;go_fit (Ps h q _ HHI.out.toHouseIn0 hsl HMV3.out hmk hmcap);rintro e w4 ⟨rfl,hb4⟩;rw[HR.out];have hB4:=HBX.out.trans (hb4.mono HBX.out.size);have HC4:=lh (HAX.out.carry hb4);obtain⟨⟨x0,x1,x2,x3⟩,⟨y0,y1⟩,-,-⟩:=HX.out _ hB4;rw[HCA.out]at y0;obtain⟨z0,z1,z2,z3,z4,z5,z6⟩:=HC4.out)
    | (go_at_call 96;go_fit (Hz (some ⟨cb,co,none⟩) s.cues _ q.name _ (by rw[←HCA.out];exact(HX.out _ hB4).2.2.2.lies) hcl);rintro e w5 ⟨rfl,hb5⟩;rw[HF.out];have hB5:=hB4.trans (hb5.mono hB4.size);have HC5:=lh (HC4.out.carry hb5);obtain⟨-,⟨u0,u1⟩,-,-⟩:=HX.out _ hB5))
   clear a0 a1 a2 a3 s0 s1 c0 c1 c2 c3 c4 c5 c6 g2 hmt x0 x1 x2 x3 y0 y1 z0 z1 z2 z3 z4 z5 z6 u0 u1;obtain⟨W2,hW2⟩:=nm (w5:World);subst hW2
   have HY:Hid (∀w',Below w5.heap.size w5 w'→Bo w' B2 s∧Gs w'.heap.size w' (some ⟨cb,co,none⟩) s.cues∧Cx w' B4 q):=lh fun w' z=>by
    obtain⟨-,a,-,b⟩:=HX.out w' (hB5.trans (z.mono hB5.size));exact⟨a,by rw[←HCA.out];exact b.lies,HC5.out.carry z⟩
   have HQ5:=lh hB5
   go_cut [68] (fun v wx=>v=.bool (!Xa s.cues k)∧Below w5.heap.size w5 wx)
   case first=>
    have y0:∀w',Below w5.heap.size w5 w'→w'.cell? ⟨B2,0,none⟩=some (.slice (some ⟨cb,co,none⟩) s.cues.length s.cc):=fun w' z=>by rw[←HCA.out];exact(HY.out w' z).1.1
    have z1:∀w',Below w5.heap.size w5 w'→w'.cell? ⟨B4,1,none⟩=some (.string q.after):=fun w' z=>(HY.out w' z).2.2.2.1;have z2:∀w',Below w5.heap.size w5 w'→w'.cell? ⟨B4,2,none⟩=some (.int .i64 q.link):=fun w' z=>(HY.out w' z).2.2.2.2.1;have k0:(0:Int)≤(k:Int):=by omega
    have k1:(k:Int)≤(s.cc:Int):=by omega
    have HNH:=lh fun (n:¬Jj s.cues k)=>ARb n;have HLT:=lh hlt;clear hlt hk hB5
    by_cases hl1:q.link=1
    ·have g2:(q.link==1)=true:=beq_iff_eq.2 hl1
     have g3:(q.link !=1)=false:=by rw[hl1];rfl
     have HL1:=lh hl1;clear hl1
     by_cases he:q.after.toList=[]
     ·have he2:(!q.after.toList.isEmpty)=false:=by rw[he];rfl
      have he3:q.after.toList.isEmpty=true:=by rw[he];rfl
      have HMB:Hid (Xa s.cues k=true):=lh (Ms.2 ⟨fun _=>by rw[HQK.out];exact(Kh _).1 he,fun n=>by rw[HQK.out]at n;exact absurd HL1.out n⟩);refine wp_region_held_drew (S:=(fun w'=>Below w5.heap.size w5 w')) (by kernel_rfl) ((br).drew) (fun hHeld=>?_);refine tk 0 ?_;refine tk 1 ?_;refine tk 2 ?_;refine tk 3 ?_;refine tk 4 ?_;refine tk 5 ?_;refine tk 6 ?_;refine tk 7 ?_;refine tk 8 ?_;refine tk 9 ?_;refine tk 10 ?_;refine tk 11 ?_;refine sk 12 ?_;refine sk 13 ?_;refine sk 14 ?_;refine sk 15 ?_;refine sk 16 ?_;refine sk 17 ?_;refine sk 18 ?_;refine sk 19 ?_;refine tk 20 ?_;refine tk 21 ?_;refine wpAnyH_done (by kernel_rfl) ?_ _
      go_wp2_with fail
      go_meet
      exact⟨by rw[HMB.out];rfl,hHeld⟩
     ·have he2:q.after.toList.isEmpty=false:=by
       cases e:q.after.toList.isEmpty
       ·rfl
       ·exact absurd (List.isEmpty_iff.1 e) he
      have HMB:=lh (HNH.out fun z=>he ((Kh _).2 (by have:=z.1;rw[HQK.out]at this;exact this HL1.out)));have HE:=lh he;refine wp_region_held_drew (S:=(fun w'=>Below w5.heap.size w5 w')) (by kernel_rfl) ((br).drew) (fun hHeld=>?_);refine tk 0 ?_;refine tk 1 ?_;refine tk 2 ?_;refine tk 3 ?_;refine tk 4 ?_;refine tk 5 ?_;refine tk 6 ?_;refine tk 7 ?_;refine sk 8 ?_;refine sk 9 ?_;refine sk 10 ?_;refine sk 11 ?_;refine sk 12 ?_;refine sk 13 ?_;refine sk 14 ?_;refine sk 15 ?_;refine sk 16 ?_;refine sk 17 ?_;refine sk 18 ?_;refine sk 19 ?_;refine sk 20 ?_;refine tk 21 ?_;refine wpAnyH_done (by kernel_rfl) ?_ _
      go_wp2_with fail
      go_meet
      exact⟨by rw[HMB.out];rfl,hHeld⟩
    ·have g2:(q.link==1)=false:=beq_eq_false_iff_ne.2 hl1
     have g3:(q.link !=1)=true:=bne_iff_ne.2 hl1;have HL1:=lh hl1;clear hl1
     by_cases he:q.after.toList=[]
     ·have he3:q.after.toList.isEmpty=true:=by rw[he];rfl
      have HMB:=lh (HNH.out fun z=>by
       have h2:=z.2;rw[HQK.out]at h2;obtain⟨f0,f1⟩:=h2 HL1.out;rw[(Kh _).1 he]at f0 f1;rcases Lt s.cues ⟨#[]⟩with e | ⟨j,hj,e,hn,_⟩
       ·omega
       ·have:=(HA.out j (by omega)).1.1.name
        rw[hn,AFj]at this
        cases this)
      refine wp_region_held_drew (S:=(fun w'=>Below w5.heap.size w5 w')) (by kernel_rfl) ((br).drew) (fun hHeld=>?_);refine tk 0 ?_;refine tk 1 ?_;refine tk 2 ?_;refine tk 3 ?_;refine tk 4 ?_;refine tk 5 ?_;refine tk 6 ?_;refine tk 7 ?_;refine sk 8 ?_;refine sk 9 ?_;refine sk 10 ?_;refine sk 11 ?_;refine sk 12 ?_;refine sk 13 ?_;refine sk 14 ?_;refine sk 15 ?_;refine sk 16 ?_;refine sk 17 ?_;refine sk 18 ?_;refine sk 19 ?_;refine sk 20 ?_;refine tk 21 ?_;refine wpAnyH_done (by kernel_rfl) ?_ _
      go_wp2_with fail
      go_meet
      exact⟨by rw[HMB.out];rfl,hHeld⟩
     ·have he2:q.after.toList.isEmpty=false:=by
       cases e:q.after.toList.isEmpty
       ·rfl
       ·exact absurd (List.isEmpty_iff.1 e) he
      have HTK:Hid ((s.cues.take k).length=k):=lh (by rw[List.length_take];have:=HLT.out;omega)
      have HCF:Hid (∀w',Below w5.heap.size w5 w'→Calls Tryz.prog 96 #[.slice (some ⟨cb,co,none⟩) k s.cc,.string q.after] w' fun e w2=>e=.returned (.int .i64 (Cj (s.cues.take k) q.after))∧Below w'.heap.size w' w2):=lh fun w' z=>by
       have:=Hz (some ⟨cb,co,none⟩) (s.cues.take k) s.cc q.after w' ((HY.out w' z).2.1.take k) (by rw[HTK.out];have:=HLT.out;omega);rw[HTK.out]at this;exact this
      obtain⟨f,hft⟩:=nm (Cj (s.cues.take k) q.after);have HFT:=lh hft
      have HFH:Hid (Jj s.cues k↔0≤f):=lh (by
       rw[←hft,AHl];unfold Jj;rw[HQK.out];exact⟨fun z=>z.2 HL1.out,fun z=>⟨fun n=>absurd n HL1.out,fun _=>z⟩⟩)
      clear hft
      by_cases hf0:f<0
      ·have HMB:=lh (HNH.out fun z=>by have:=HFH.out.1 z;omega)
       have g4:decide (f<0)=true:=dT hf0;clear hf0;refine wp_region_held_drew (S:=(fun w'=>Below w5.heap.size w5 w')) (by kernel_rfl) ((br).drew) (fun hHeld=>?_);refine tk 0 ?_;refine tk 1 ?_;refine tk 2 ?_;refine tk 3 ?_;refine tk 4 ?_;refine tk 5 ?_;refine tk 6 ?_;refine tk 7 ?_;refine tk 8 ?_;refine tk 9 ?_;refine tk 10 ?_;refine tk 11 ?_;refine tk 12 ?_;refine tk 13 ?_;refine tk 14 ?_;refine tk 15 ?_;refine tk 16 ?_;refine tk 17 ?_;refine r1 18 (fun K hK=>?_)
       try simp only[Ba,Bc,Az]
       go_simp
       (go_at_call 96;go_split_ands;go_fit (HCF.out _ hHeld);rintro e w6 ⟨rfl,hb6⟩;rw[HFT.out])
       go_wp2_with fail
       refine hK.out _ _ (hHeld.trans (hb6.mono hHeld.size)) (fun hHeld=>?_);clear hK K
       try simp only[Act.put,Co,Cp,Cn,Ba,Bc,Az]
       refine tk 19 ?_;refine tk 20 ?_;refine tk 21 ?_;refine wpAnyH_done (by kernel_rfl) ?_ _
       go_wp2_with fail
       go_meet
       exact⟨by rw[HMB.out];rfl,hHeld⟩
      ·have HMB:Hid (Xa s.cues k=true):=lh (Ms.2 (HFH.out.2 (by omega)))
       have g4:decide (f<0)=false:=dF hf0;clear hf0;refine wp_region_held_drew (S:=(fun w'=>Below w5.heap.size w5 w')) (by kernel_rfl) ((br).drew) (fun hHeld=>?_);refine tk 0 ?_;refine tk 1 ?_;refine tk 2 ?_;refine tk 3 ?_;refine tk 4 ?_;refine tk 5 ?_;refine tk 6 ?_;refine tk 7 ?_;refine tk 8 ?_;refine tk 9 ?_;refine tk 10 ?_;refine tk 11 ?_;refine tk 12 ?_;refine tk 13 ?_;refine tk 14 ?_;refine tk 15 ?_;refine tk 16 ?_;refine tk 17 ?_;refine r1 18 (fun K hK=>?_)
       try simp only[Ba,Bc,Az]
       go_simp
       (go_at_call 96;go_split_ands;go_fit (HCF.out _ hHeld);rintro e w6 ⟨rfl,hb6⟩;rw[HFT.out])
       go_wp2_with fail
       refine hK.out _ _ (hHeld.trans (hb6.mono hHeld.size)) (fun hHeld=>?_);clear hK K
       try simp only[Act.put,Co,Cp,Cn,Ba,Bc,Az]
       refine tk 19 ?_;refine tk 20 ?_;refine tk 21 ?_;refine wpAnyH_done (by kernel_rfl) ?_ _
       go_wp2_with fail
       go_meet
       exact⟨by rw[HMB.out];rfl,hHeld⟩
   case rest=>
   obtain⟨rfl,hbc⟩:=hcut;have hqc:=HQ5.out.trans (hbc.mono HQ5.out.size)
   cases hmb2:Xa s.cues k
   ·have HZ:=lh (HNK.out fun z=>by have:=Ms.2 z.2.2;rw[hmb2]at this;cases this)
    clear hmb2
    go_wp2_with fail
    go_ret;exact⟨Ab HZ.out.symm,HW.out _ hqc⟩
   ·have HA2:=lh (HNX.out ⟨by rw[HQK.out];exact Ef.1 HR.out,by rw[HQK.out];exact HF.out,Ms.1 hmb2⟩)
    have hm1:=HM1.out;clear hmb2
    go_wp2_with fail
    go_roundw
    case rel=>exact⟨k+1,by rw[HMT.out];go_num,by go_num,by omega,by rw[HMT.out];exact hm1,HA2,hqc⟩
    case measure=>simp[intOf];omega
  ·obtain rfl:k=s.cues.length:=by omega
   rw[List.take_length]at hmt⊢;obtain⟨⟨a0,a1,a2,a3⟩,⟨s0,s1⟩,-,-⟩:=HX.out _ hB;have HCP:=lh (AHd s _ HIN.out.2.toSheetIn0 hcl HNN.out);rw[HCA.out]at HCP s0
   have HZ:Hid (Fd h s=Ph s.cues s.pairs):=lh (by
    cases e:Ph s.cues s.pairs
    ·exact HNO.out fun z=>by rw[Nc.2 z.pairs]at e;cases e
    ·exact Em.2 ⟨HV.out,by omega,hmt,HA.out,Nc.1 e⟩)
   go_wp2_with (go_at_call 97;go_fit HCP.out;rintro e w5 ⟨rfl,hb5⟩)
   go_ret;exact⟨Ab HZ.out.symm,HW.out _ (hB.trans (hb5.mono hB.size))⟩
def ABn(r:Ds)(most:Int):Prop:=r.name.size≤60∧r.lines.length≤12∧((r.items.length:Int)≤most∨40<r.items.length)∧r.items.length≤45∧r.bricks.length≤10∧(∀j,j<r.items.length→(tg r.items j).name.size≤60)∧∀j,j<r.bricks.length→(bg r.bricks j).name.size≤60
instance(r:Ds)(most:Int):Decidable (ABn r most):=by unfold ABn;infer_instance
def Md(r:Ds)(most:Int):Bool:=decide (ABn r most)
theorem ANk{w:World}{r:Ds}{most:Int}(h:SetIn0 w r)(hs:Md r most=true):Ls w r:=by
 obtain⟨_,_,_,_,_,h6,h7⟩:=of_decide_eq_true hs;refine⟨h,fun x hx=>?_,fun x hx=>?_⟩
 ·obtain⟨j,hj,rfl⟩:=List.getElem_of_mem hx
  have:=h6 j hj;rw[Jm _ j hj]at this;omega
 ·obtain⟨j,hj,rfl⟩:=List.getElem_of_mem hx
  have:=h7 j hj;rw[AEn _ j hj]at this;omega
theorem AJm(r:Ds)(most:Int)(w:World)(hs:SetIn0 w r):
  Calls Tryz.prog 73 #[.agg #[.string r.name,.int .i64 r.depth,.int .i64 r.low,.int .i64 r.high,.int .i64 r.length,.slice r.la r.lines.length r.lc,.int .i64 r.pipe,.int .i64 r.arbor,.int .i64 r.purchase,.int .i64 r.most,.int .i64 r.brake,.slice r.ia r.items.length r.ic,.slice r.ba r.bricks.length r.bc],.int .i64 most] w fun e w'=>e=.returned (.bool (Md r most))∧Below w.heap.size w w':=by
 obtain⟨R,hR⟩:=nm (Md r most);have HI:Hid (R=true↔ABn r most):=lh (by rw[←hR];unfold Md;exact decide_eq_true_iff);rw[hR];clear hR;have hb0:=Aa w (Ko r);have HX:Hid (∀wx,Below (w.alloc (Ko r)).heap.size (w.alloc (Ko r)) wx→Below w.heap.size w wx):=lh fun wx h=>Dh _ h;have HS:Hid (∀wx,Below (w.alloc (Ko r)).heap.size (w.alloc (Ko r)) wx→SetIn0 wx r):=lh fun wx h=>(hs.grow hb0).grow h;have HAT:Hid (∀wx,Below (w.alloc (Ko r)).heap.size (w.alloc (Ko r)) wx→Ke wx w.heap.size r):=lh fun wx h=>(Ke.new w r 59).below h (by simp);clear hb0 hs
 by_cases q0:60<r.name.size
 ·have ga868:decide ((60:Int)<(r.name.size:Int))=true:=dT (by omega)
  have gb868:decide (60<r.name.size)=true:=dT (by omega)
  have HR:Hid (R=false):=lh (by
   rw[Bool.eq_false_iff];intro h;obtain⟨s1,s2,s3,s4,s5,_,_⟩:=HI.out.1 h;omega)
  clear q0
  go_enter Tryz.func73,Tryz.ntmps73
  go_wp2_with fail
  generalize (w.alloc (Ko r))=W0 at *;have hB1:=Below.refl W0.heap.size W0;obtain⟨x0,-,-,-,-,x5,-,-,-,-,-,x11,x12⟩:=Od HAT
  go_wp2_with fail
  go_ret;exact⟨Ab HR.out.symm,HX.out _ hB1⟩
 have ga868:decide ((60:Int)<(r.name.size:Int))=false:=dF (by omega);have gb868:decide (60<r.name.size)=false:=dF (by omega)
 by_cases q1:12<r.lines.length
 ·have ga686:decide ((12:Int)<(r.lines.length:Int))=true:=dT (by omega)
  have gb686:decide (12<r.lines.length)=true:=dT (by omega)
  have HR:Hid (R=false):=lh (by
   rw[Bool.eq_false_iff];intro h;obtain⟨s1,s2,s3,s4,s5,_,_⟩:=HI.out.1 h;omega)
  clear q0 q1
  go_enter Tryz.func73,Tryz.ntmps73
  go_wp2_with fail
  generalize (w.alloc (Ko r))=W0 at *;have hB1:=Below.refl W0.heap.size W0;obtain⟨x0,-,-,-,-,x5,-,-,-,-,-,x11,x12⟩:=Od HAT
  go_wp2_with fail
  go_ret;exact⟨Ab HR.out.symm,HX.out _ hB1⟩
 have ga686:decide ((12:Int)<(r.lines.length:Int))=false:=dF (by omega);have gb686:decide (12<r.lines.length)=false:=dF (by omega)
 by_cases q2:most<(r.items.length:Int)
 ·have gc:decide (most<(r.items.length:Int))=true:=dT q2
  by_cases q3:r.items.length≤40
  ·have gd:decide ((r.items.length:Int)≤40)=true:=dT (by omega)
   have ge:decide (r.items.length≤40)=true:=dT (by omega)
   have HR:Hid (R=false):=lh (by
    rw[Bool.eq_false_iff];intro h;obtain⟨s1,s2,s3,s4,s5,_,_⟩:=HI.out.1 h;omega)
   clear q0 q1 q2 q3
   go_enter Tryz.func73,Tryz.ntmps73
   go_wp2_with fail
   generalize (w.alloc (Ko r))=W0 at *;have hB1:=Below.refl W0.heap.size W0;obtain⟨x0,-,-,-,-,x5,-,-,-,-,-,x11,x12⟩:=Od HAT
   go_wp2_with fail
   go_ret;exact⟨Ab HR.out.symm,HX.out _ hB1⟩
  have gd:decide ((r.items.length:Int)≤40)=false:=dF (by omega);have ge:decide (r.items.length≤40)=false:=dF (by omega)
  by_cases q4:45<r.items.length
  ·have ga102:decide ((45:Int)<(r.items.length:Int))=true:=dT (by omega)
   have gb102:decide (45<r.items.length)=true:=dT (by omega)
   have HR:Hid (R=false):=lh (by
    rw[Bool.eq_false_iff];intro h;obtain⟨s1,s2,s3,s4,s5,_,_⟩:=HI.out.1 h;omega)
   clear q0 q1 q2 q3 q4
   go_enter Tryz.func73,Tryz.ntmps73
   go_wp2_with fail
   generalize (w.alloc (Ko r))=W0 at *;have hB1:=Below.refl W0.heap.size W0;obtain⟨x0,-,-,-,-,x5,-,-,-,-,-,x11,x12⟩:=Od HAT
   go_wp2_with fail
   go_ret;exact⟨Ab HR.out.symm,HX.out _ hB1⟩
  have ga102:decide ((45:Int)<(r.items.length:Int))=false:=dF (by omega);have gb102:decide (45<r.items.length)=false:=dF (by omega)
  by_cases q5:10<r.bricks.length
  ·have ga387:decide ((10:Int)<(r.bricks.length:Int))=true:=dT (by omega)
   have gb387:decide (10<r.bricks.length)=true:=dT (by omega)
   have HR:Hid (R=false):=lh (by
    rw[Bool.eq_false_iff];intro h;obtain⟨s1,s2,s3,s4,s5,_,_⟩:=HI.out.1 h;omega)
   clear q0 q1 q2 q3 q4 q5
   go_enter Tryz.func73,Tryz.ntmps73
   go_wp2_with fail
   generalize (w.alloc (Ko r))=W0 at *;have hB1:=Below.refl W0.heap.size W0;obtain⟨x0,-,-,-,-,x5,-,-,-,-,-,x11,x12⟩:=Od HAT
   go_wp2_with fail
   go_ret;exact⟨Ab HR.out.symm,HX.out _ hB1⟩
  have ga387:decide ((10:Int)<(r.bricks.length:Int))=false:=dF (by omega);have gb387:decide (10<r.bricks.length)=false:=dF (by omega)
  go_enter Tryz.func73,Tryz.ntmps73
  go_wp2_with fail
  generalize (w.alloc (Ko r))=W0 at *;have hB1:=Below.refl W0.heap.size W0;obtain⟨x0,-,-,-,-,x5,-,-,-,-,-,x11,x12⟩:=Od HAT
  go_loop [5] (fun v=>∃k:Nat,k≤r.items.length∧v=.int .i64 k∧Hid (∀j,j<k→(tg r.items j).name.size≤60)) (fun v=>r.items.length-(intOf v).toNat)
  case atStart=>exact⟨0,nz,rfl,lh (fun j hj=>by omega)⟩
  case round=>
   obtain⟨k,hk,rfl,HO1⟩:=hrel
   by_cases hlt:k<r.items.length
   ·obtain⟨b,off,hia,hb,hc⟩:=(HS.out _ hB1).items (by omega)
    have y:=x11 W0 hB1;rw[hia]at y;have c0:=(hc k hlt).1;clear hc hia x11;have k1:(k:Int)<r.items.length:=by omega
    obtain⟨s,hs⟩:=nm ((tg r.items k).name);rw[hs]at c0
    by_cases q:60<s.size
    ·have ga:decide ((60:Int)<(s.size:Int))=true:=dT (by omega)
     have gb:decide (60<s.size)=true:=dT (by omega)
     have HR:Hid (R=false):=lh (by
      rw[Bool.eq_false_iff];intro h;have:=(HI.out.1 h).2.2.2.2.2.1 k hlt;rw[hs]at this;omega)
     clear q hs
     go_wp2_with fail
     go_ret;exact⟨Ab HR.out.symm,HX.out _ hB1⟩
    ·have ga:decide ((60:Int)<(s.size:Int))=false:=dF (by omega)
     have gb:decide (60<s.size)=false:=dF (by omega)
     have HN:Hid (∀j,j<k+1→(tg r.items j).name.size≤60):=lh fun j hj=>by
      rcases(show j<k∨j=k by omega)with l | l
      ·exact HO1.out j l
      ·subst l;rw[hs];omega
     clear q hs
     go_wp2_with fail
     go_round
     case rel=>exact⟨k+1,by omega,by go_num,HN⟩
     case measure=>simp[intOf];omega
   ·obtain rfl:k=r.items.length:=by omega
    go_wp2_with fail
    go_loop [6] (fun v=>∃k:Nat,k≤r.bricks.length∧v=.int .i64 k∧Hid (∀j,j<k→(bg r.bricks j).name.size≤60)) (fun v=>r.bricks.length-(intOf v).toNat)
    case atStart=>exact⟨0,nz,rfl,lh (fun j hj=>by omega)⟩
    case round=>
     obtain⟨k,hk,rfl,HO2⟩:=hrel
     by_cases hlt:k<r.bricks.length
     ·obtain⟨b,off,hia,hb,hc⟩:=(HS.out _ hB1).bricks (by omega)
      have y:=x12 W0 hB1;rw[hia]at y;have c0:=(hc k hlt).1;clear hc hia x12;have k1:(k:Int)<r.bricks.length:=by omega
      obtain⟨s,hs⟩:=nm ((bg r.bricks k).name);rw[hs]at c0
      by_cases q:60<s.size
      ·have ga:decide ((60:Int)<(s.size:Int))=true:=dT (by omega)
       have gb:decide (60<s.size)=true:=dT (by omega)
       have HR:Hid (R=false):=lh (by
        rw[Bool.eq_false_iff];intro h;have:=(HI.out.1 h).2.2.2.2.2.2 k hlt;rw[hs]at this;omega)
       clear q hs
       go_wp2_with fail
       go_ret;exact⟨Ab HR.out.symm,HX.out _ hB1⟩
      ·have ga:decide ((60:Int)<(s.size:Int))=false:=dF (by omega)
       have gb:decide (60<s.size)=false:=dF (by omega)
       have HN:Hid (∀j,j<k+1→(bg r.bricks j).name.size≤60):=lh fun j hj=>by
        rcases(show j<k∨j=k by omega)with l | l
        ·exact HO2.out j l
        ·subst l;rw[hs];omega
       clear q hs
       go_wp2_with fail
       go_round
       case rel=>exact⟨k+1,by omega,by go_num,HN⟩
       case measure=>simp[intOf];omega
     ·obtain rfl:k=r.bricks.length:=by omega
      have HR:Hid (R=true):=lh (HI.out.2 ⟨by omega,by omega,by omega,by omega,by omega,HO1.out,HO2.out⟩)
      go_wp2_with fail
      go_ret;exact⟨Ab HR.out.symm,HX.out _ hB1⟩
 ·have gc:decide (most<(r.items.length:Int))=false:=dF q2
  by_cases q4:45<r.items.length
  ·have ga102:decide ((45:Int)<(r.items.length:Int))=true:=dT (by omega)
   have gb102:decide (45<r.items.length)=true:=dT (by omega)
   have HR:Hid (R=false):=lh (by
    rw[Bool.eq_false_iff];intro h;obtain⟨s1,s2,s3,s4,s5,_,_⟩:=HI.out.1 h;omega)
   clear q0 q1 q2 q4
   go_enter Tryz.func73,Tryz.ntmps73
   go_wp2_with fail
   generalize (w.alloc (Ko r))=W0 at *;have hB1:=Below.refl W0.heap.size W0;obtain⟨x0,-,-,-,-,x5,-,-,-,-,-,x11,x12⟩:=Od HAT
   go_wp2_with fail
   go_ret;exact⟨Ab HR.out.symm,HX.out _ hB1⟩
  have ga102:decide ((45:Int)<(r.items.length:Int))=false:=dF (by omega);have gb102:decide (45<r.items.length)=false:=dF (by omega)
  by_cases q5:10<r.bricks.length
  ·have ga387:decide ((10:Int)<(r.bricks.length:Int))=true:=dT (by omega)
   have gb387:decide (10<r.bricks.length)=true:=dT (by omega)
   have HR:Hid (R=false):=lh (by
    rw[Bool.eq_false_iff];intro h;obtain⟨s1,s2,s3,s4,s5,_,_⟩:=HI.out.1 h;omega)
   clear q0 q1 q2 q4 q5
   go_enter Tryz.func73,Tryz.ntmps73
   go_wp2_with fail
   generalize (w.alloc (Ko r))=W0 at *;have hB1:=Below.refl W0.heap.size W0;obtain⟨x0,-,-,-,-,x5,-,-,-,-,-,x11,x12⟩:=Od HAT
   go_wp2_with fail
   go_ret;exact⟨Ab HR.out.symm,HX.out _ hB1⟩
  have ga387:decide ((10:Int)<(r.bricks.length:Int))=false:=dF (by omega);have gb387:decide (10<r.bricks.length)=false:=dF (by omega)
  go_enter Tryz.func73,Tryz.ntmps73
  go_wp2_with fail
  generalize (w.alloc (Ko r))=W0 at *;have hB1:=Below.refl W0.heap.size W0;obtain⟨x0,-,-,-,-,x5,-,-,-,-,-,x11,x12⟩:=Od HAT
  go_loop [5] (fun v=>∃k:Nat,k≤r.items.length∧v=.int .i64 k∧Hid (∀j,j<k→(tg r.items j).name.size≤60)) (fun v=>r.items.length-(intOf v).toNat)
  case atStart=>exact⟨0,nz,rfl,lh (fun j hj=>by omega)⟩
  case round=>
   obtain⟨k,hk,rfl,HO1⟩:=hrel
   by_cases hlt:k<r.items.length
   ·obtain⟨b,off,hia,hb,hc⟩:=(HS.out _ hB1).items (by omega)
    have y:=x11 W0 hB1;rw[hia]at y;have c0:=(hc k hlt).1;clear hc hia x11;have k1:(k:Int)<r.items.length:=by omega
    obtain⟨s,hs⟩:=nm ((tg r.items k).name);rw[hs]at c0
    by_cases q:60<s.size
    ·have ga:decide ((60:Int)<(s.size:Int))=true:=dT (by omega)
     have gb:decide (60<s.size)=true:=dT (by omega)
     have HR:Hid (R=false):=lh (by
      rw[Bool.eq_false_iff];intro h;have:=(HI.out.1 h).2.2.2.2.2.1 k hlt;rw[hs]at this;omega)
     clear q hs
     go_wp2_with fail
     go_ret;exact⟨Ab HR.out.symm,HX.out _ hB1⟩
    ·have ga:decide ((60:Int)<(s.size:Int))=false:=dF (by omega)
     have gb:decide (60<s.size)=false:=dF (by omega)
     have HN:Hid (∀j,j<k+1→(tg r.items j).name.size≤60):=lh fun j hj=>by
      rcases(show j<k∨j=k by omega)with l | l
      ·exact HO1.out j l
      ·subst l;rw[hs];omega
     clear q hs
     go_wp2_with fail
     go_round
     case rel=>exact⟨k+1,by omega,by go_num,HN⟩
     case measure=>simp[intOf];omega
   ·obtain rfl:k=r.items.length:=by omega
    go_wp2_with fail
    go_loop [6] (fun v=>∃k:Nat,k≤r.bricks.length∧v=.int .i64 k∧Hid (∀j,j<k→(bg r.bricks j).name.size≤60)) (fun v=>r.bricks.length-(intOf v).toNat)
    case atStart=>exact⟨0,nz,rfl,lh (fun j hj=>by omega)⟩
    case round=>
     obtain⟨k,hk,rfl,HO2⟩:=hrel
     by_cases hlt:k<r.bricks.length
     ·obtain⟨b,off,hia,hb,hc⟩:=(HS.out _ hB1).bricks (by omega)
      have y:=x12 W0 hB1;rw[hia]at y;have c0:=(hc k hlt).1;clear hc hia x12;have k1:(k:Int)<r.bricks.length:=by omega
      obtain⟨s,hs⟩:=nm ((bg r.bricks k).name);rw[hs]at c0
      by_cases q:60<s.size
      ·have ga:decide ((60:Int)<(s.size:Int))=true:=dT (by omega)
       have gb:decide (60<s.size)=true:=dT (by omega)
       have HR:Hid (R=false):=lh (by
        rw[Bool.eq_false_iff];intro h;have:=(HI.out.1 h).2.2.2.2.2.2 k hlt;rw[hs]at this;omega)
       clear q hs
       go_wp2_with fail
       go_ret;exact⟨Ab HR.out.symm,HX.out _ hB1⟩
      ·have ga:decide ((60:Int)<(s.size:Int))=false:=dF (by omega)
       have gb:decide (60<s.size)=false:=dF (by omega)
       have HN:Hid (∀j,j<k+1→(bg r.bricks j).name.size≤60):=lh fun j hj=>by
        rcases(show j<k∨j=k by omega)with l | l
        ·exact HO2.out j l
        ·subst l;rw[hs];omega
       clear q hs
       go_wp2_with fail
       go_round
       case rel=>exact⟨k+1,by omega,by go_num,HN⟩
       case measure=>simp[intOf];omega
     ·obtain rfl:k=r.bricks.length:=by omega
      have HR:Hid (R=true):=lh (HI.out.2 ⟨by omega,by omega,by omega,by omega,by omega,HO1.out,HO2.out⟩)
      go_wp2_with fail
      go_ret;exact⟨Ab HR.out.symm,HX.out _ hB1⟩
def Uk(h:Ae)(most:Int):Prop:=(h.sets.length:Int)≤most∧(h.roofs.length:Int)≤most+10∧h.name.size≤60∧(∀i,i<h.sets.length→Md (hg h.sets i) 8=true)∧∀i,i<h.roofs.length→(rg h.roofs i).name.size≤60
noncomputable def Kj(h:Ae)(most:Int):Bool:=@decide (Uk h most) (Classical.propDecidable _)
theorem Rc{h:Ae}{most:Int}:Kj h most=true↔Uk h most:=@decide_eq_true_iff (Uk h most) (Classical.propDecidable _)
theorem Mq{h:Ae}{most:Int}(n:¬Uk h most):Kj h most=false:=by
 cases e:Kj h most
 ·rfl
 ·exact absurd (Rc.1 e) n
theorem ALo{w:World}{h:Ae}{most:Int}(hm:most≤900)(x:HouseIn0 w h)(s:Uk h most):Ax w h:=
 ⟨x,fun i hi=>ANk (x.each i hi) (s.2.2.2.1 i hi),by have:=s.1;omega,by have:=s.2.1;omega⟩
theorem AFa(h:Ae)(most:Int)(m0:0≤most)(m1:most≤900)(w:World)(hh:HouseIn0 w h):
  Calls Tryz.prog 42 #[.agg #[.string h.name,.int .i64 h.height,.slice h.sa h.sets.length h.sc,.slice h.ra h.roofs.length h.rc],.int .i64 most] w fun e w'=>e=.returned (.bool (Kj h most))∧Below w.heap.size w w':=by
 have HH:=lh hh;have hcap:=hh.scap;have hrcap:=hh.rcap;have hat:=Au.new w h 25;obtain⟨sa,hsa⟩:=nm (h.sa);obtain⟨ra,hra⟩:=nm (h.ra);have HSA:=lh hsa;have HRA:=lh hra;rw[hsa,hra]at hat⊢;have HAT:=lh hat;have hW0:=Aa w (.cells #[.string h.name,.int .i64 h.height,.slice sa h.sets.length h.sc,.slice ra h.roofs.length h.rc] 25);have mw:IntKind.i64.wrap (most+10)=most+10:=IntWalk.i64_in _ (by omega);clear hh hat hsa hra
 cases h1:decide (most<(h.sets.length:Int))
 case true=>
  have H1:=lh h1;have HZ:=lh (Mq (h:=h) (most:=most) (fun q=>by have:=q.1;have e:=of_decide_eq_true H1.out;omega))
  go_enter Tryz.func42,Tryz.ntmps42
  go_upto_region 1 with (fail)
  generalize w.alloc (.cells #[.string h.name,.int .i64 h.height,.slice sa h.sets.length h.sc,.slice ra h.roofs.length h.rc] 25)=W0 at *;obtain⟨k0,k1,k2,k3⟩:=HAT.out;rw[HSA.out]at k2;rw[HRA.out]at k3
  go_wp2_with fail
  go_ret;exact⟨Ab HZ.out.symm,hW0⟩
 have H1:=lh h1
 cases h2:decide (most+10<(h.roofs.length:Int))
 case true=>
  have H2:=lh h2;have HZ:=lh (Mq (h:=h) (most:=most) (fun q=>by have:=q.2.1;have e:=of_decide_eq_true H2.out;omega))
  go_enter Tryz.func42,Tryz.ntmps42
  go_upto_region 1 with (fail)
  generalize w.alloc (.cells #[.string h.name,.int .i64 h.height,.slice sa h.sets.length h.sc,.slice ra h.roofs.length h.rc] 25)=W0 at *;obtain⟨k0,k1,k2,k3⟩:=HAT.out;rw[HSA.out]at k2;rw[HRA.out]at k3
  go_wp2_with fail
  go_ret;exact⟨Ab HZ.out.symm,hW0⟩
 have H2:=lh h2
 cases h3:decide ((60:Int)<(h.name.size:Int))
 case true=>
  have H3:=lh h3;have HZ:=lh (Mq (h:=h) (most:=most) (fun q=>by have:=q.2.2.1;have e:=of_decide_eq_true H3.out;omega))
  go_enter Tryz.func42,Tryz.ntmps42
  go_upto_region 1 with (fail)
  generalize w.alloc (.cells #[.string h.name,.int .i64 h.height,.slice sa h.sets.length h.sc,.slice ra h.roofs.length h.rc] 25)=W0 at *;obtain⟨k0,k1,k2,k3⟩:=HAT.out;rw[HSA.out]at k2;rw[HRA.out]at k3
  go_wp2_with fail
  go_ret;exact⟨Ab HZ.out.symm,hW0⟩
 have H3:=lh h3;have hsl:h.sets.length≤900:=by have:=of_decide_eq_false H1.out;omega
 have hrl:h.roofs.length≤910:=by have:=of_decide_eq_false H2.out;omega
 go_enter Tryz.func42,Tryz.ntmps42
 go_upto_region 1 with (fail)
 generalize w.alloc (.cells #[.string h.name,.int .i64 h.height,.slice sa h.sets.length h.sc,.slice ra h.roofs.length h.rc] 25)=W0 at *;obtain⟨k0,k1,k2,k3⟩:=HAT.out;rw[HSA.out]at k2;rw[HRA.out]at k3
 go_wp2_with fail
 have hz:w.heap.size<W0.heap.size:=wl k0;clear k0 k1 k2 k3 h1 h2 h3
 go_loopw [5] (fun i wr=>∃k:Nat,k≤h.sets.length∧i=.int .i64 k∧Hid (∀j,j<k→Md (hg h.sets j) 8=true)∧Below W0.heap.size W0 wr) (fun i _=>h.sets.length-(intOf i).toNat)
 case atStart=>exact⟨0,nz,rfl,lh (fun _ h=>absurd h (Nat.not_lt_zero _)),br⟩
 case round=>
  obtain⟨k,hk,rfl,HO,hB⟩:=hrel;have HAW:=lh (HAT.out.carry hB)
  by_cases hlt:k<h.sets.length
  ·have HHR:=lh (HH.out.grow (hW0.trans (hB.mono hW0.size)))
   obtain⟨b,off,esa,hb,hc⟩:=HHR.out.sets (by omega);obtain rfl:sa=some ⟨b,off,none⟩:=HSA.out.symm.trans esa;have HSET:=lh (HHR.out.each k hlt);obtain⟨c0,c1,c2,c3,c4,c5,c6,c7,c8,c9,c10,c11,c12⟩:=hc k hlt;obtain⟨k0,k1,k2,k3⟩:=HAW.out;rw[HSA.out]at k2;rw[HRA.out]at k3;have i0:0≤(k:Int):=by omega
   have i1:(k:Int)<(h.sets.length:Int):=by omega
   have s1:IntKind.i64.wrap ((k:Int)+1)=(k:Int)+1:=IntWalk.i64_in _ (by omega);have HN:Hid (Md (hg h.sets k) 8=false→Kj h most=false):=lh fun e=>Mq fun q=>by have:=q.2.2.2.1 k hlt;rw[e]at this;cases this
   have HO2:Hid (Md (hg h.sets k) 8=true→∀j,j<k+1→Md (hg h.sets j) 8=true):=lh fun q j hj=>by
    rcases Nat.lt_or_eq_of_le (Nat.le_of_lt_succ hj)with l | l
    ·exact HO.out j l
    ·subst l;exact q
   generalize hg h.sets k=x at *;have HBV:=lh (AJm x 8 wr HSET.out);clear hc HO esa
   cases h6:Md x 8
   ·have HZ:=lh (HN.out h6)
    rw[h6]at HBV;clear h6
    go_wp2_with (go_at_call 73;go_fit HBV.out;rintro e w3 ⟨rfl,hb3⟩)
    go_ret;exact⟨Ab HZ.out.symm,hW0.trans ((hB.trans (hb3.mono hB.size)).mono hW0.size)⟩
   ·have HY:=lh (HO2.out h6)
    rw[h6]at HBV;clear h6
    go_wp2_with (go_at_call 73;go_fit HBV.out;rintro e w3 ⟨rfl,hb3⟩)
    go_roundw
    case rel=>exact⟨k+1,by omega,by go_num,HY,hB.trans (hb3.mono hB.size)⟩
    case measure=>simp[intOf];omega
  ·obtain rfl:k=h.sets.length:=by omega
   have HS:=lh HO.out;have HBQ:=lh hB;obtain⟨k0,k1,k2,k3⟩:=HAW.out;rw[HSA.out]at k2;rw[HRA.out]at k3;clear HO hB
   go_wp2_with fail
   clear k0 k1 k2 k3
   go_loopw [6] (fun i wx=>∃k:Nat,k≤h.roofs.length∧i=.int .i64 k∧Hid (∀j,j<k→(rg h.roofs j).name.size≤60)∧Below wr.heap.size wr wx) (fun i _=>h.roofs.length-(intOf i).toNat)
   case atStart=>exact⟨0,nz,rfl,lh (fun _ h=>absurd h (Nat.not_lt_zero _)),br⟩
   case round=>
    obtain⟨k,hk,rfl,HO,hB⟩:=hrel;have HAX:=lh (HAW.out.carry hB);obtain⟨k0,k1,k2,k3⟩:=HAX.out;rw[HSA.out]at k2;rw[HRA.out]at k3
    by_cases hlt:k<h.roofs.length
    ·have hBW:=hW0.trans ((HBQ.out.trans (hB.mono HBQ.out.size)).mono hW0.size)
     have HHR:=lh (HH.out.grow hBW);obtain⟨b,off,era,hb,hc⟩:=HHR.out.roofs (by omega);obtain rfl:ra=some ⟨b,off,none⟩:=HRA.out.symm.trans era;obtain⟨c0,c1,c2,c3⟩:=hc k hlt;have i0:0≤(k:Int):=by omega
     have i1:(k:Int)<(h.roofs.length:Int):=by omega
     have s1:IntKind.i64.wrap ((k:Int)+1)=(k:Int)+1:=IntWalk.i64_in _ (by omega);clear hc era
     by_cases h6:(60:Int)<((rg h.roofs k).name.size:Int)
     ·have g6:=dT h6
      have HZ:=lh (Mq (h:=h) (most:=most) fun q=>by have:=q.2.2.2.2 k hlt;omega);clear h6
      go_wp2_with fail
      go_ret;exact⟨Ab HZ.out.symm,hBW⟩
     ·have g6:=dF h6
      have HY:Hid (∀j,j<k+1→(rg h.roofs j).name.size≤60):=lh fun j hj=>by
       rcases Nat.lt_or_eq_of_le (Nat.le_of_lt_succ hj)with l | l
       ·exact HO.out j l
       ·subst l;omega
      clear h6
      go_wp2_with fail
      go_roundw
      case rel=>exact⟨k+1,by omega,by go_num,HY,hB⟩
      case measure=>simp[intOf];omega
    ·obtain rfl:k=h.roofs.length:=by omega
     have HR:Hid (Kj h most=true):=lh (Rc.2 ⟨by have:=of_decide_eq_false H1.out;omega,by have:=of_decide_eq_false H2.out;omega,by have:=of_decide_eq_false H3.out;omega,HS.out,HO.out⟩);have hBW:=hW0.trans ((HBQ.out.trans (hB.mono HBQ.out.size)).mono hW0.size)
     go_wp2_with fail
     go_ret;exact⟨Ab HR.out.symm,hBW⟩
structure Pf(q:An)(most:Int):Prop where
 moves:(q.moves.length:Int)≤most
 name:q.name.size≤60
 after:q.after.size≤60
 sets:∀k,k<q.moves.length→(mg q.moves k).name.size≤60
structure Td(s:Aq)(most:Int):Prop where
 cues:(s.cues.length:Int)≤most
 pairs:(s.pairs.length:Int)≤2*most
 each:∀i,i<s.cues.length→Pf (cg s.cues i) most
 names:∀i,i<s.pairs.length→(pg s.pairs i).1.size≤60∧(pg s.pairs i).2.size≤60
noncomputable def Kn(s:Aq)(most:Int):Bool:=@decide (Td s most) (Classical.propDecidable _)
theorem Qt{s:Aq}{most:Int}:Kn s most=true↔Td s most:=@decide_eq_true_iff (Td s most) (Classical.propDecidable _)
theorem Pr{s:Aq}{most:Int}(n:¬Td s most):Kn s most=false:=by
 cases e:Kn s most
 ·rfl
 ·exact absurd (Qt.1 e) n
theorem ALj{w:World}{s:Aq}{most:Int}(hm:most≤900)(x:SheetIn0 w s)(z:Td s most):Bg w s:=
 ⟨x,by have:=z.cues;omega,fun i hi=>by have:=(z.each i hi).moves;omega,fun i hi=>by have:=z.names i hi;omega⟩
theorem AEd(s:Aq)(most:Int)(m0:0≤most)(m1:most≤900)(w:World)(hs:SheetIn0 w s):
  Calls Tryz.prog 43 #[.agg #[.slice s.ca s.cues.length s.cc,.slice s.pa s.pairs.length s.pc],.int .i64 most] w fun e w'=>e=.returned (.bool (Kn s most))∧Below w.heap.size w w':=by
 have hb0:Below w.heap.size w (w.alloc (Uo s)):=Aa w _
 have HX:Hid (∀w',Below (w.alloc (Uo s)).heap.size (w.alloc (Uo s)) w'→Bo w' w.heap.size s∧SheetIn0 w' s):=lh fun w' z=>
  ⟨(show Bo (w.alloc (Uo s)) w.heap.size s by unfold Bo;simp).carry z,(hs.grow hb0).grow z⟩
 have HW:Hid (∀w',Below (w.alloc (Uo s)).heap.size (w.alloc (Uo s)) w'→Below w.heap.size w w'):=lh fun w' z=>hb0.trans (z.mono hb0.size);have mw:IntKind.i64.wrap (2*most)=2*most:=IntWalk.i64_in _ (by omega);clear hs hb0
 cases h1:decide (most<(s.cues.length:Int))
 case true=>
  have HZ:=lh (Pr (s:=s) (most:=most) fun q=>by have:=q.cues;have:=of_decide_eq_true h1;omega)
  go_enter Tryz.func43,Tryz.ntmps43
  go_upto_region 1 with (fail)
  obtain⟨W0,hW0⟩:=nm (w.alloc (Uo s):World);simp only[hW0]at HX HW⊢;clear hW0;obtain⟨B1,hB1⟩:=nm (w.heap.size);rw[hB1]at HX⊢;clear hB1;obtain⟨s0,s1⟩:=(HX.out _ br).1
  go_wp2_with fail
  go_ret;exact⟨Ab HZ.out.symm,HW.out _ br⟩
 cases h2:decide (2*most<(s.pairs.length:Int))
 case true=>
  have HZ:=lh (Pr (s:=s) (most:=most) fun q=>by have:=q.pairs;have:=of_decide_eq_true h2;omega)
  go_enter Tryz.func43,Tryz.ntmps43
  go_upto_region 1 with (fail)
  obtain⟨W0,hW0⟩:=nm (w.alloc (Uo s):World);simp only[hW0]at HX HW⊢;clear hW0;obtain⟨B1,hB1⟩:=nm (w.heap.size);rw[hB1]at HX⊢;clear hB1;obtain⟨s0,s1⟩:=(HX.out _ br).1
  go_wp2_with fail
  go_ret;exact⟨Ab HZ.out.symm,HW.out _ br⟩
 have hcl:s.cues.length≤900:=by have:=of_decide_eq_false h1;omega
 have hpl:s.pairs.length≤1800:=by have:=of_decide_eq_false h2;omega
 have HC1:Hid ((s.cues.length:Int)≤most):=lh (by have:=of_decide_eq_false h1;omega);have HC2:Hid ((s.pairs.length:Int)≤2*most):=lh (by have:=of_decide_eq_false h2;omega)
 go_enter Tryz.func43,Tryz.ntmps43
 go_upto_region 1 with (fail)
 obtain⟨W0,hW0⟩:=nm (w.alloc (Uo s):World);simp only[hW0]at HX HW⊢;clear hW0;obtain⟨B1,hB1⟩:=nm (w.heap.size);rw[hB1]at HX⊢;clear hB1;obtain⟨ca,hca⟩:=nm (s.ca);obtain⟨pa,hpa⟩:=nm (s.pa);have HCA:=lh hca;have HPA:=lh hpa;rw[hca,hpa];clear hca hpa;obtain⟨s0,s1⟩:=(HX.out _ br).1;rw[HCA.out]at s0;rw[HPA.out]at s1
 go_upto_region 4 with (fail)
 clear s0 s1 h1 h2 mw;have hB0:Below W0.heap.size W0 W0:=br;obtain⟨n₀,hn0⟩:=nm (W0.heap.size);rw[hn0]at HX HW hB0;have hn1:n₀≤W0.heap.size:=by omega
 clear hn0
 go_loopw [5,6] (fun i _ wr=>∃k:Nat,i=.int .i64 k∧k≤s.cues.length∧Below n₀ W0 wr∧n₀≤wr.heap.size∧Hid (∀j,j<k→Pf (cg s.cues j) most)) (fun i _ _=>s.cues.length-(intOf i).toNat)
 case atStart=>exact⟨0,rfl,nz,hB0,hn1,lh (fun _ h=>absurd h (Nat.not_lt_zero _))⟩
 case round=>
  clear hB0 hn1;obtain⟨k,rfl,hk,hB,hnw,HO⟩:=hrel;obtain⟨⟨s0,s1⟩,hsi⟩:=HX.out _ hB;rw[HCA.out]at s0;rw[HPA.out]at s1
  by_cases hlt:k<s.cues.length
  ·obtain⟨b,off,ha,hb,hc⟩:=hsi.lies (by omega)
   rw[HCA.out]at ha;subst ha;obtain⟨d0,d1,d2,d3,d4,d5,d6⟩:=hc k hlt;have hmv:=hsi.each k hlt;have HNO:Hid (¬Pf (cg s.cues k) most→Kn s most=false):=lh fun z=>Pr fun q=>z (q.each k hlt)
   have HYES:Hid (Pf (cg s.cues k) most→∀j,j<k+1→Pf (cg s.cues j) most):=lh fun z j hj=>by
    rcases Nat.lt_or_eq_of_le (Nat.le_of_lt_succ hj)with l | l
    ·exact HO.out j l
    ·subst l;exact z
   have HMV:=lh hmv;obtain⟨q,hq⟩:=nm (cg s.cues k);rw[hq]at d0 d1 d2 d3 d4 d5 d6 HNO HYES HMV;clear hsi hc hq hmv HO;have hB3:=hB.alloc hnw (Eu q);have hbn:=Aa wr (Eu q);have HC3:=Cx.new wr q 86 _ rfl;have HM3:=lh (HMV.out.grow hbn);have hn3:n₀≤(wr.alloc (Eu q)).heap.size:=by simp;omega
   go_upto_region 7 with (fail)
   clear s0 s1 d0 d1 d2 d3 d4 d5 d6 hbn hB hnw hb HMV;generalize wr.alloc (Eu q)=W3 at *;obtain⟨B6,hB6⟩:=nm (wr.heap.size);rw[hB6]at HC3⊢;clear hB6;have HCC:=lh HC3;obtain⟨ma,hma⟩:=nm (q.ma);have HMA:=lh hma;obtain⟨p0,p1,p2,p3,p4,p5,p6⟩:=HC3;rw[hma]at p4;clear hma
   cases t1:decide (most<(q.moves.length:Int))
   case true=>
    have HZ:=lh (HNO.out fun z=>by have:=z.moves;have:=of_decide_eq_true t1;omega)
    go_wp2_with fail
    go_ret;exact⟨Ab HZ.out.symm,HW.out _ hB3⟩
   cases t2:decide ((60:Int)<(q.name.size:Int))
   case true=>
    have HZ:=lh (HNO.out fun z=>by have:=z.name;have:=of_decide_eq_true t2;omega)
    go_wp2_with fail
    go_ret;exact⟨Ab HZ.out.symm,HW.out _ hB3⟩
   cases t3:decide ((60:Int)<(q.after.size:Int))
   case true=>
    have HZ:=lh (HNO.out fun z=>by have:=z.after;have:=of_decide_eq_true t3;omega)
    go_wp2_with fail
    go_ret;exact⟨Ab HZ.out.symm,HW.out _ hB3⟩
   have HT:Hid ((q.moves.length:Int)≤most∧q.name.size≤60∧q.after.size≤60):=lh (by have:=of_decide_eq_false t1;have:=of_decide_eq_false t2;have:=of_decide_eq_false t3;omega);have hml:q.moves.length≤900:=by have:=HT.out.1;omega
   go_upto_region 10 with (fail)
   clear p0 p1 p2 p3 p4 p5 p6 t1 t2 t3
   go_loopw [7] (fun i wx=>∃j:Nat,i=.int .i64 j∧j≤q.moves.length∧Below W3.heap.size W3 wx∧Hid (∀x,x<j→(mg q.moves x).name.size≤60)) (fun i _=>q.moves.length-(intOf i).toNat)
   case atStart=>exact⟨0,rfl,nz,br,lh (fun _ h=>absurd h (Nat.not_lt_zero _))⟩
   case round=>
    obtain⟨j,rfl,hj,hBx,HJ⟩:=hrel;obtain⟨p0,p1,p2,p3,p4,p5,p6⟩:=HCC.out.carry hBx;rw[HMA.out]at p4
    by_cases hjt:j<q.moves.length
    ·obtain⟨mb,mo,hm1,hmb,hmc⟩:=HM3.out.grow hBx (by omega)
     rw[HMA.out]at hm1;subst hm1;obtain⟨e0,e1,e2,e3,e4⟩:=hmc j hjt;clear hmc
     cases t4:decide ((60:Int)<((mg q.moves j).name.size:Int))
     case true=>
      have HZ:=lh (HNO.out fun z=>by have:=z.sets j hjt;have:=of_decide_eq_true t4;omega)
      go_wp2_with fail
      go_ret;exact⟨Ab HZ.out.symm,HW.out _ (hB3.trans (hBx.mono hn3))⟩
     have HY:Hid (∀x,x<j+1→(mg q.moves x).name.size≤60):=lh fun x hx=>by
      rcases Nat.lt_or_eq_of_le (Nat.le_of_lt_succ hx)with l | l
      ·exact HJ.out x l
      ·subst l;have:=of_decide_eq_false t4;omega
     go_wp2_with fail
     go_roundw
     case rel=>exact⟨j+1,by go_num,by omega,hBx,HY⟩
     case measure=>simp[intOf];omega
    ·obtain rfl:j=q.moves.length:=by omega
     have HY:=lh (HYES.out ⟨HT.out.1,HT.out.2.1,HT.out.2.2,HJ.out⟩);have hBR:=hB3.trans (hBx.mono hn3);have hnR:=nt hn3 hBx.size
     go_wp2_with fail
     go_roundw
     case rel=>exact⟨k+1,by go_num,by omega,hBR,hnR,HY⟩
     case measure=>simp[intOf];omega
  ·obtain rfl:k=s.cues.length:=by omega
   clear hsi
   go_upto_region 15 with (fail)
   clear s0 s1
   go_loopw [8] (fun i wx=>∃j:Nat,i=.int .i64 j∧j≤s.pairs.length∧Below n₀ W0 wx∧Hid (∀x,x<j→(pg s.pairs x).1.size≤60∧(pg s.pairs x).2.size≤60)) (fun i _=>s.pairs.length-(intOf i).toNat)
   case atStart=>exact⟨0,rfl,nz,hB,lh (fun _ h=>absurd h (Nat.not_lt_zero _))⟩
   case round=>
    clear hB hnw;obtain⟨j,rfl,hj,hB,HJ⟩:=hrel;obtain⟨⟨s0,s1⟩,hsi⟩:=HX.out _ hB;rw[HCA.out]at s0;rw[HPA.out]at s1
    by_cases hjt:j<s.pairs.length
    ·obtain⟨mb,mo,hm1,hmb,hmc⟩:=hsi.plies (by omega)
     rw[HPA.out]at hm1;subst hm1;have HNOX:Hid (¬((pg s.pairs j).1.size≤60∧(pg s.pairs j).2.size≤60)→Kn s most=false):=lh fun z=>Pr fun q=>z (q.names j hjt);obtain⟨y,hy⟩:=nm (pg s.pairs j);have HYY:=lh hy;rw[hy]at HNOX;obtain⟨e0,e1⟩:=hmc j hjt;rw[hy]at e0 e1;clear hmc hsi hy
     cases t4:decide ((60:Int)<(y.1.size:Int))
     case true=>
      have HZ:=lh (HNOX.out fun z=>by have:=z.1;have:=of_decide_eq_true t4;omega)
      go_wp2_with fail
      go_ret;exact⟨Ab HZ.out.symm,HW.out _ hB⟩
     cases t5:decide ((60:Int)<(y.2.size:Int))
     case true=>
      have HZ:=lh (HNOX.out fun z=>by have:=z.2;have:=of_decide_eq_true t5;omega)
      go_wp2_with fail
      go_ret;exact⟨Ab HZ.out.symm,HW.out _ hB⟩
     have HY:Hid (∀x,x<j+1→(pg s.pairs x).1.size≤60∧(pg s.pairs x).2.size≤60):=lh fun x hx=>by
      rcases Nat.lt_or_eq_of_le (Nat.le_of_lt_succ hx)with l | l
      ·exact HJ.out x l
      ·subst l;rw[HYY.out];have:=of_decide_eq_false t4;have:=of_decide_eq_false t5;omega
     clear HNOX
     go_wp2_with fail
     go_roundw
     case rel=>exact⟨j+1,by go_num,by omega,hB,HY⟩
     case measure=>simp[intOf];omega
    ·obtain rfl:j=s.pairs.length:=by omega
     have HZ:=lh (Qt.2 ⟨HC1.out,HC2.out,HO.out,HJ.out⟩);clear hsi
     go_wp2_with fail
     go_ret;exact⟨Ab HZ.out.symm,HW.out _ (by first | exact hB | exact Aj hB _)⟩
end
end Go.Proofs.YtebofaenlhhkaaaGreat
