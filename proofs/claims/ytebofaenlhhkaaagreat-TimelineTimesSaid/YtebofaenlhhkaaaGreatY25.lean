import Derived.BigRegion
import Derived.Test.YtebofaenlhhkaaaGreatY24
namespace Go.Proofs.YtebofaenlhhkaaaGreat
set_option maxRecDepth 100000
set_option maxHeartbeats 80000000
set_option linter.unusedSimpArgs false
section
open Go.RowKit
noncomputable def Lb(d:Int)(m:Mv):Int:=@dite _ (∃t,Hd d m.spd m.rise m.fall t) (Classical.propDecidable _) (fun h=>h.choose) (fun _=>0)
theorem Re{d:Int}{m:Mv}(hg:Ck d m=0):Hd d m.spd m.rise m.fall (Lb d m):=by
 have ex:∃t,Hd d m.spd m.rise m.fall t:=by
  obtain⟨hv,hd⟩:=Hk hg;have a:=Gb hv;have b:=Fj.1 hd;exact AQs (by omega) (by omega) (by omega) (by omega)
 unfold Lb;rw[dif_pos ex];exact ex.choose_spec
noncomputable def tmF(d:Int)(m:Mv):Int×Int:=Ig d m (Lb d m)
structure Ux(x:Int×Int):Prop where
 ok:vF x=true
 pos:0≤x.1
 most:1000*x.1≤1152921504606846976
theorem AIg:Ux (0,1):=⟨AAo,by decide,by decide⟩
theorem AOi{d:Int}{m:Mv}(hg:Ck d m=0):Ux (tmF d m):=by
 have ht:=Re hg;unfold tmF
 by_cases hd:d=0
 ·subst hd
  rw[Sz hg];exact AIg
 ·have tb:=AQq hg ht
  obtain⟨s1,s2,s3,s4,s5,s6,s7,s8,s9,s10,s11,s12⟩:=AAc hg ht;rw[We hg hd]at tb⊢;obtain⟨hv,hdd⟩:=Hk hg;obtain⟨V0,V1,R0,R1,F0,F1⟩:=Gb hv;obtain⟨d1,d2⟩:=Fj.1 hdd;have tp:=Pw (show 1≤d by omega) R0 F0 V0 ht;have q0:0<tD m.rise m.fall (Lb d m):=by unfold tD;exact Int.mul_pos (ATt R0 F0) (by omega)
  have n1:tN d m.rise m.fall (Lb d m)≤565148976676864:=by unfold tN;omega
  have n0:0≤tN d m.rise m.fall (Lb d m):=by unfold tN;omega
  have a:=Nq (tN d m.rise m.fall (Lb d m)) (tD m.rise m.fall (Lb d m));refine⟨(Bj _ _).2 ⟨tb.2.2.1,tb.2.2.2,by have:=tb.1;omega,tb.2.1,Kl q0⟩,tb.1,?_⟩;show 1000*Ay (tN d m.rise m.fall (Lb d m)) (tD m.rise m.fall (Lb d m))≤_;omega
def Lo(h:Ae)(t:List Int)(m:Mv):Int:=if m.to-ig t (Cv h.sets m.name).toNat<0 then 0-(m.to-ig t (Cv h.sets m.name).toNat)else m.to-ig t (Cv h.sets m.name).toNat
theorem Lp{h:Ae}{t:List Int}{M:List Mv}{i:Nat}(hb:Dz h=true)(ht:Ka h t)(hm:Hf h M i):0≤(mg M i).to∧(mg M i).to≤1048576∧0≤ig t (Cv h.sets (mg M i).name).toNat∧ig t (Cv h.sets (mg M i).name).toNat≤1048576:=by
 obtain⟨_,h0,h1,h2,_⟩:=hm;obtain⟨hk,_⟩:=Jb h0;have so:=(Qb hb hk).1;have t1:=ht.2 (Cv h.sets (mg M i).name).toNat (by have:=ht.1;omega);have lo:=so.low;unfold AAn at h1 h2;omega
theorem Rj{h:Ae}{t:List Int}{M:List Mv}{i:Nat}(hb:Dz h=true)(ht:Ka h t)(hm:Hf h M i):Ck (Lo h t (mg M i)) (mg M i)=0:=by
 have w:=Lp hb ht hm;unfold Ck;rw[if_pos hm.1,if_pos (Fj.2 ?_)];unfold Lo
 split<;>omega
def Nw(a b:Int×Int):Int×Int:=if 0<Iy (a.1*b.2) (b.1*a.2)then a else b
noncomputable def Gk(h:Ae)(t:List Int)(M:List Mv):Int×Int:=M.foldl (fun b m=>Nw (tmF (Lo h t m) m) b) (0,1)
theorem Qv(h:Ae)(t:List Int)(M:List Mv){k:Nat}(hk:k<M.length):Gk h t (M.take (k+1))=Nw (tmF (Lo h t (mg M k)) (mg M k)) (Gk h t (M.take k)):=by
 unfold Gk;rw[List.take_succ_eq_append_getElem hk,List.foldl_append,Yt M k hk]
 rfl
theorem Wf{h:Ae}{t:List Int}{M:List Mv}(hb:Dz h=true)(ht:Ka h t)(hM:∀i,i<M.length→Hf h M i):∀k,k≤M.length→Ux (Gk h t (M.take k))
 | 0,_=>by rw[List.take_zero];exact AIg
 | k+1,hk=>by
  rw[Qv h t M (by omega)];unfold Nw
  split
  ·exact AOi (Rj hb ht (hM k (by omega)))
  ·exact Wf hb ht hM k (by omega)
def Kt(n d:Int):Int:=-((-n)/d)
def msF(x:Int×Int):Int:=Kt (Ay (1000*x.1) x.2) (Ar (1000*x.1) x.2)
theorem ABb{x:Int×Int}(ok:Ux x):0≤Ay (1000*x.1) x.2∧Ay (1000*x.1) x.2≤1152921504606846976∧0<Ar (1000*x.1) x.2∧Ar (1000*x.1) x.2≤1152921504606846976∧Int.gcd (Ay (1000*x.1) x.2) (Ar (1000*x.1) x.2)=1:=by
 obtain⟨a,b,c⟩:=ok;have d:=(Bj _ _).1 a;have d0:0<x.2:=by omega
 have e:=Nq (1000*x.1) x.2;have f:=Qd (n:=1000*x.1) d0;have g:=Eg (n:=1000*x.1) d0;have s:=Rz (n:=1000*x.1) d0;exact⟨by omega,by omega,g,by omega,Kl d0⟩
theorem AUh{x:Int×Int}(ok:Ux x):Ng 1000 1 x.1 x.2=(Ay (1000*x.1) x.2,Ar (1000*x.1) x.2,0):=by
 obtain⟨a,b,c,d,_⟩:=ABb ok;unfold Ng;rw[Int.one_mul];unfold Kx;rw[if_neg (by omega)]
theorem APf{x:Int×Int}(ok:Ux x):Cf (Ay (1000*x.1) x.2) (Ar (1000*x.1) x.2)=true:=by
 obtain⟨a,b,c,d,e⟩:=ABb ok;exact(Bj _ _).2 ⟨by omega,d,by omega,b,e⟩
theorem AQj{n d:Int}(hn:0≤n)(hd:0<d):0≤Kt n d∧Kt n d≤n:=by
 unfold Kt;have a:=Int.ediv_mul_le (-n) (show d≠0 by omega);have b:=Int.lt_ediv_add_one_mul_self (-n) hd;obtain⟨q,hq⟩:=nm (-n/d);rw[hq]at a b⊢;refine⟨?_,?_⟩
 ·rcases Int.lt_or_le 0 q with l | l
  ·have:0<q*d:=Int.mul_pos l hd
   omega
  ·omega
 ·rcases Int.lt_or_le q (-n)with l | l
  ·have:(q+1)*d≤(q+1)*1:=Int.mul_le_mul_of_nonpos_left (by omega) (by omega)
   omega
  ·omega
theorem AVe{x:Int×Int}(ok:Ux x):0≤msF x∧msF x≤1152921504606846976:=by
 obtain⟨a,b,c,_⟩:=ABb ok;have:=AQj a c;unfold msF;omega
noncomputable def Dp(h:Ae)(C:List An)(n:Nat):List Int:=(List.range n).map fun k=>msF (Gk h (Ez h C k) (cg C k).moves)
theorem Xz(h:Ae)(C:List An)(n:Nat):Dp h C (n+1)=Dp h C n++[msF (Gk h (Ez h C n) (cg C n).moves)]:=by
 unfold Dp;rw[List.range_succ,List.map_append]
 rfl
theorem Mu(h:Ae)(C:List An)(n:Nat):(Dp h C n).length=n:=by unfold Dp;rw[List.length_map,List.length_range]
end
section
open Go.RowKit Go.Shelf
attribute [local go_sem] Oper.semAt_some
theorem Xo(n:Int){d:Int}(hd:0<d):n/d=if n.tmod d<0 then n.tdiv d-1 else n.tdiv d:=by
 have e:=Int.mul_tdiv_add_tmod n d;have l:=Int.tmod_lt_of_pos n hd
 have g:-d<n.tmod d:=by
  have:=Int.tmod_lt_of_pos (-n) hd;rw[Int.neg_tmod]at this;omega
 obtain⟨q,hq⟩:=nm (n.tdiv d);obtain⟨r,hr⟩:=nm (n.tmod d);rw[hq,hr]at e;rw[hr]at l g;rw[hq,hr]
 by_cases c:r<0
 ·rw[if_pos c,←e,show d*q+r=(r+d)+d*(q-1)by rw[Int.mul_sub];omega,Int.add_mul_ediv_left _ _ (by omega),Int.ediv_eq_zero_of_lt (by omega) (by omega)]
  omega
 ·rw[if_neg c,←e,show d*q+r=r+d*q by omega,Int.add_mul_ediv_left _ _ (by omega),Int.ediv_eq_zero_of_lt (by omega) (by omega)]
  omega
theorem AKh(n d:Int)(n0:-1152921504606846976≤n)(n1:n≤1152921504606846976)(d0:0<d)(w:World):
  Calls Tryz.prog 111 #[.int .i64 n,.int .i64 d] w fun e w'=>e=.returned (.int .i64 (n/d))∧w=w':=by
 have HF:=lh (Xo n d0)
 have hq:-1152921504606846976≤n.tdiv d∧n.tdiv d≤1152921504606846976:=by
  have:=Int.natAbs_tdiv n d;have h2:=Nat.div_le_self n.natAbs d.natAbs;have:(n.tdiv d).natAbs=n.natAbs.div d.natAbs:=this;have h3:n.natAbs.div d.natAbs=n.natAbs/d.natAbs:=rfl;omega
 have hz:(d==0)=false:=beq_eq_false_iff_ne.2 (by omega);have w1:IntKind.i64.wrap (n.tdiv d)=n.tdiv d:=by simp only[IntKind.wrap_i64];omega
 have hm:-d<n.tmod d∧n.tmod d<d:=by
  have l:=Int.tmod_lt_of_pos n d0;have:=Int.tmod_lt_of_pos (-n) d0;rw[Int.neg_tmod]at this;omega
 obtain⟨q,hqq⟩:=nm (n.tdiv d);obtain⟨r,hrr⟩:=nm (n.tmod d)
 by_cases c:n.tmod d<0
 ·have HC:=lh c
  go_enter Tryz.func111,Tryz.ntmps111
  go_wp2_with fail
  go_ret;exact⟨Cu (by rw[HF.out,if_pos HC.out];go_num),rfl⟩
 ·have HC:=lh c
  go_enter Tryz.func111,Tryz.ntmps111
  go_wp2_with fail
  go_ret;exact⟨Cu (by rw[HF.out,if_neg (by have:=HC.out;omega)];first | exact hqq.symm | exact hqq | rfl),rfl⟩
theorem AOg(n d:Int)(hv:Cf n d=true)(w:World):
  Calls Tryz.prog 77 #[.agg #[.int .i64 n,.int .i64 d]] w fun e w'=>e=.returned (.tuple #[.int .i64 (Kt n d),.int .i64 0])∧Below w.heap.size w w':=by
 obtain⟨d0,d1,n0,n1,_⟩:=(Bj _ _).1 hv;have hb0:=lh (Aa w (.cells #[.int .i64 n,.int .i64 d] 49));have HC:=lh (Df n d);have HV:=lh hv;have hw:IntKind.i64.wrap (-n)=-n:=by simp only[IntKind.wrap_i64];omega
 have HFL:=lh fun w'=>AKh (-n) d (by omega) (by omega) (by omega) w'
 have hbd:-1152921504606846976≤-n/d∧-n/d≤1152921504606846976:=by
  have:=Int.natAbs_ediv_le_natAbs (-n) d;omega
 have hc:IntKind.i64.wrap (-(-n/d))=Kt n d:=by unfold Kt;simp only[IntKind.wrap_i64];omega
 clear hv
 go_enter Tryz.func77,Tryz.ntmps77
 go_wp2_with (first
  | (go_at_call 68;go_fit (HC.out _);rintro e w1 ⟨rfl,hb1⟩;rw[HV.out];have HB1:=lh (hb0.out.trans (hb1.mono hb0.out.size));have g0:=(hb1.cell (p:=⟨w.heap.size,0,none⟩) (by simp)).trans (show(w.alloc (.cells #[.int .i64 n,.int .i64 d] 49)).cell? ⟨w.heap.size,0,none⟩=some (.int .i64 n)by simp);have g1:=(hb1.cell (p:=⟨w.heap.size,1,none⟩) (by simp)).trans (show(w.alloc (.cells #[.int .i64 n,.int .i64 d] 49)).cell? ⟨w.heap.size,1,none⟩=some (.int .i64 d)by simp))
  | (go_at_call 111;go_fit (HFL.out _);rintro e w2 ⟨rfl,rfl⟩))
 go_ret2
 exact⟨rfl,HB1.out⟩
theorem Gt(n:Int)(w:World):Calls Tryz.prog 76 #[.int .i64 n] w fun e w'=>e=.returned (.agg #[.int .i64 n,.int .i64 1])∧Below w.heap.size w w':=by
 go_enter Tryz.func76,Tryz.ntmps76
 go_wp2_with fail
 refine bodyPost_ret (v:=.agg #[.int .i64 n,.int .i64 1]) (by simp[results,Tryz.results76,go_sem]) rfl ⟨rfl,?_⟩;exact Aa _ _
theorem Ve(n:Int)(w:World):Calls Tryz.prog 20 #[.int .i64 n] w fun e w'=>e=.returned (.agg #[.int .i64 n,.int .i64 1])∧Below w.heap.size w w':=by
 go_enter Tryz.func20,Tryz.ntmps20
 go_wp2_with fail
 refine bodyPost_ret (v:=.agg #[.int .i64 n,.int .i64 1]) (by simp[results,Tryz.results20,go_sem]) rfl ⟨rfl,?_⟩;exact Aa _ _
theorem AMj(n d:Int)(n0:-1152921504606846976≤n)(n1:n≤1152921504606846976)(w:World):Calls Tryz.prog 142 #[.agg #[.int .i64 n,.int .i64 d]] w fun e w'=>e=.returned (.agg #[.int .i64 (-n),.int .i64 d])∧Below w.heap.size w w':=by
 have hw:IntKind.i64.wrap (-n)=-n:=by simp only[IntKind.wrap_i64];omega
 have hb:=(Aa w (.cells #[.int .i64 n,.int .i64 d] 49)).alloc (by simp) (.cells #[.int .i64 (-n),.int .i64 d] 49);have HB:=lh hb;clear hb
 go_enter Tryz.func142,Tryz.ntmps142
 go_wp2_with fail
 refine bodyPost_ret (v:=.agg #[.int .i64 (-n),.int .i64 d]) (by simp[results,Tryz.results142,go_sem]) rfl ⟨rfl,?_⟩;exact HB.out
theorem AKw(n:Int){d:Int}(hd:0<d):n/d=if n<n.tdiv d*d then n.tdiv d-1 else n.tdiv d:=by
 have e:=Int.mul_tdiv_add_tmod n d;have f:=Xo n hd;have c:n.tdiv d*d=d*n.tdiv d:=Int.mul_comm _ _
 by_cases h:n.tmod d<0
 ·rw[if_pos h]at f
  rw[if_pos (by omega),f]
 ·rw[if_neg h]at f
  rw[if_neg (by omega),f]
theorem AGm(n d:Int)(n0:-1152921504606846976≤n)(n1:n≤1152921504606846976)(d0:0<d)(w:World):
  Calls Tryz.prog 171 #[.agg #[.int .i64 n,.int .i64 d]] w fun e w'=>e=.returned (.int .i64 (n/d))∧Below w.heap.size w w':=by
 have HF:=lh (AKw n d0);have hz:(d==0)=false:=beq_eq_false_iff_ne.2 (by omega)
 have hq:-1152921504606846976≤n.tdiv d∧n.tdiv d≤1152921504606846976:=by
  have:=Int.natAbs_tdiv n d;have h2:=Nat.div_le_self n.natAbs d.natAbs;have:(n.tdiv d).natAbs=n.natAbs.div d.natAbs:=this;have h3:n.natAbs.div d.natAbs=n.natAbs/d.natAbs:=rfl;omega
 have hm:-1152921504606846976≤n.tdiv d*d∧n.tdiv d*d≤1152921504606846976:=by
  have e:=Int.mul_tdiv_add_tmod n d;have c:n.tdiv d*d=d*n.tdiv d:=Int.mul_comm _ _;have a:=Int.natAbs_tdiv n d
  have s:(n.tdiv d*d).natAbs≤n.natAbs:=by
   rw[Int.natAbs_mul,a];exact Nat.div_mul_le_self _ _
  omega
 have w1:IntKind.i64.wrap (n.tdiv d)=n.tdiv d:=by simp only[IntKind.wrap_i64];omega
 have w2:IntKind.i64.wrap (n.tdiv d*d)=n.tdiv d*d:=by simp only[IntKind.wrap_i64];omega
 have w3:IntKind.i64.wrap (n.tdiv d-1)=n.tdiv d-1:=by simp only[IntKind.wrap_i64];omega
 have hb:=lh (Aa w (.cells #[.int .i64 n,.int .i64 d] 49))
 by_cases c:n<n.tdiv d*d
 ·have HC:=lh c
  have g:=dT c;clear c hq hm
  go_enter Tryz.func171,Tryz.ntmps171
  go_wp2_with fail
  go_ret;exact⟨Cu (by rw[HF.out,if_pos (by have:=HC.out;omega)]),hb.out⟩
 ·have HC:=lh c
  have g:=dF c;clear c hq hm
  go_enter Tryz.func171,Tryz.ntmps171
  go_wp2_with fail
  go_ret;exact⟨Cu (by rw[HF.out,if_neg (by have:=HC.out;omega)]),hb.out⟩
theorem AJi(n d:Int)(hv:Cf n d=true)(w:World):
  Calls Tryz.prog 130 #[.agg #[.int .i64 n,.int .i64 d]] w fun e w'=>e=.returned (.int .i64 (Kt n d))∧Below w.heap.size w w':=by
 obtain⟨d0,d1,n0,n1,_⟩:=(Bj _ _).1 hv;have hb0:=lh (Aa w (.cells #[.int .i64 n,.int .i64 d] 49));have HNG:=lh fun w'=>AMj n d n0 n1 w';have HFL:=lh fun w'=>AGm (-n) d (by omega) (by omega) (by omega) w'
 have hbd:-1152921504606846976≤-n/d∧-n/d≤1152921504606846976:=by
  have:=Int.natAbs_ediv_le_natAbs (-n) d;omega
 have hc:IntKind.i64.wrap (0-(-n/d))=Kt n d:=by unfold Kt;simp only[IntKind.wrap_i64];omega
 have hc2:IntKind.i64.wrap (-(-n/d))=Kt n d:=by unfold Kt;simp only[IntKind.wrap_i64];omega
 clear hv hbd
 go_enter Tryz.func130,Tryz.ntmps130
 go_wp2_with (first
  | (go_at_call 142;go_fit (HNG.out _);rintro e w1 ⟨rfl,hb1⟩;have HB1:=lh (hb0.out.trans (hb1.mono hb0.out.size)))
  | (go_at_call 171;go_fit (HFL.out _);rintro e w2 ⟨rfl,hb2⟩;have HB2:=lh (HB1.out.trans (hb2.mono HB1.out.size))))
 go_ret;exact⟨rfl,HB2.out⟩
end
section
open Go.RowKit
structure Sm(b:Nat)(e:Int)(w w':World):Prop where
 os:w'.os=w.os
 tape:w'.tape=w.tape
 output:w'.output=w.output
 size:w.heap.size≤w'.heap.size
 block:∀k,k<w.heap.size→k≠b→w'.heap[k]? =w.heap[k]?
 cell:w'.cell? ⟨b,0,none⟩=some (.int .i64 e)
 free:w'.frozen? ⟨b,0,none⟩=false
theorem Sm.of{b:Nat}{e:Int}{w w':World}(h:Below w.heap.size w w')(hc:w.cell? ⟨b,0,none⟩=some (.int .i64 e))(hf:w.frozen? ⟨b,0,none⟩=false):Sm b e w w':=by
 have hb:b<w.heap.size:=wl hc;exact⟨h.os,h.tape,h.output,h.size,fun k hk _=>h.block k hk,ct h hc hb,(h.frozen (p:=⟨b,0,none⟩) hb).trans hf⟩
theorem Sm.refl{b:Nat}{e:Int}{w:World}(hc:w.cell? ⟨b,0,none⟩=some (.int .i64 e))(hf:w.frozen? ⟨b,0,none⟩=false):Sm b e w w:=Sm.of br hc hf
theorem Sm.trans{b:Nat}{e e':Int}{w w1 w2:World}(h:Sm b e w w1)(k:Sm b e' w1 w2):Sm b e' w w2:=
 ⟨k.os.trans h.os,k.tape.trans h.tape,k.output.trans h.output,nt h.size k.size,fun i hi hne=>(k.block i (Nat.lt_of_lt_of_le hi h.size) hne).trans (h.block i hi hne),k.cell,k.free⟩
theorem Sm.lt{b:Nat}{e:Int}{w w':World}(h:Sm b e w w'):b<w'.heap.size:=wl h.cell
theorem Sm.then{b:Nat}{e:Int}{w w1 w2:World}(h:Sm b e w w1)(k:Below w1.heap.size w1 w2):Sm b e w w2:=h.trans (Sm.of k h.cell h.free)
theorem Sm.below{b n:Nat}{e:Int}{w w':World}(h:Sm b e w w')(hn:n≤b)(hw:n≤w.heap.size):Below n w w':=
 ⟨h.os,h.tape,h.output,h.size,fun k hk=>h.block k (by omega) (by omega)⟩
theorem Sm.other{b:Nat}{e:Int}{w w':World}(h:Sm b e w w'){p:Addr}(hp:p.block<w.heap.size)(hne:p.block≠b):w'.cell? p=w.cell? p:=World.cell?_of_block (w:=w) (h.block p.block hp hne)
theorem Sm.otherF{b:Nat}{e:Int}{w w':World}(h:Sm b e w w'){p:Addr}(hp:p.block<w.heap.size)(hne:p.block≠b):w'.frozen? p=w.frozen? p:=World.frozen?_of_block (w:=w) (h.block p.block hp hne)
theorem Sm.set{b:Nat}{e:Int}{w:World}(e':Int)(hc:w.cell? ⟨b,0,none⟩=some (.int .i64 e))(hf:w.frozen? ⟨b,0,none⟩=false):Sm b e' w (w.setCell ⟨b,0,none⟩ (.int .i64 e')):=
 ⟨rfl,rfl,rfl,by simp[World.setCell],fun k _ hne=>Below.heap_setCell _ _ _ _ hne,World.cell?_setCell_same _ _ _ hc,by simpa using hf⟩
theorem Sm.from{b:Nat}{e:Int}{w w1 w2:World}(h:Below w.heap.size w w1)(_:b<w.heap.size)(k:Sm b e w1 w2):Sm b e w w2:=
 ⟨k.os.trans h.os,k.tape.trans h.tape,k.output.trans h.output,nt h.size k.size,fun i hi hne=>(k.block i (Nat.lt_of_lt_of_le hi h.size) hne).trans (h.block i hi),k.cell,k.free⟩
theorem Sm.drew{b:Nat}{e:Int}{w w':World}(h:Sm b e w w'):Sm b e w w'.drew:=⟨h.os,h.tape,h.output,h.size,h.block,h.cell,h.free⟩
theorem Sm.setCell{b:Nat}{e:Int}{w w':World}(h:Sm b e w w'){p:Addr}(hp:w.heap.size≤p.block)(hb:b<w.heap.size)(u:Value):Sm b e w (w'.setCell p u):=
 ⟨h.os,h.tape,h.output,by have:=h.size;simp[World.setCell];omega,fun k hk hne=>(Below.heap_setCell _ _ _ _ (by omega)).trans (h.block k hk hne),(World.cell?_setCell_other _ _ _ _ (fun x=>by have:=congrArg Addr.block x;simp at this;omega)).trans h.cell,by simpa using h.free⟩
theorem Sm.alloc{b:Nat}{e:Int}{w w':World}(h:Sm b e w w')(o:Obj):Sm b e w (w'.alloc o):=h.then ((br).alloc nr o)
end
section
open Go.RowKit Go.Shelf
def FI(w:World)(B:Nat)(h l:Int):Prop:=w.cell? ⟨B,0,none⟩=some (.int .i64 h)∧w.cell? ⟨B,1,none⟩=some (.int .i64 l)∧w.frozen? ⟨B,0,none⟩=false∧w.frozen? ⟨B,1,none⟩=false∧B<w.heap.size
theorem FI.carry{W w:World}{B:Nat}{x y:Int}(f:FI W B x y)(h:Below W.heap.size W w):FI w B x y:=
 ⟨ct h f.1 f.2.2.2.2,ct h f.2.1 f.2.2.2.2,(h.frozen (p:=⟨B,0,none⟩) f.2.2.2.2).trans f.2.2.1,(h.frozen (p:=⟨B,1,none⟩) f.2.2.2.2).trans f.2.2.2.1,Nat.lt_of_lt_of_le f.2.2.2.2 h.size⟩
theorem FI.set{w:World}{B:Nat}{x y:Int}(f:FI w B x y)(h l:Int):FI ((w.setCell ⟨B,0,none⟩ (.int .i64 h)).setCell ⟨B,1,none⟩ (.int .i64 l)) B h l:=by
 obtain⟨d0,d1⟩:=Ag (v0:=.int .i64 h) (v1:=.int .i64 l) f.1 f.2.1;exact⟨d0,d1,by simpa using f.2.2.1,by simpa using f.2.2.2.1,by simpa using f.2.2.2.2⟩
theorem FI.other{w:World}{B C:Nat}{x y:Int}(f:FI w C x y)(hne:C≠B)(u v:Value):FI ((w.setCell ⟨B,0,none⟩ u).setCell ⟨B,1,none⟩ v) C x y:=
 ⟨(Ch hne _ _ _).trans f.1,(Ch hne _ _ _).trans f.2.1,by simpa using f.2.2.1,by simpa using f.2.2.2.1,by simpa using f.2.2.2.2⟩
theorem FI.new(w:World)(t:TypeId):FI (w.alloc (.cells #[.int .i64 0,.int .i64 0] t)) w.heap.size 0 0:=⟨by simp,by simp,by simp,by simp,by simp⟩
theorem FI.put(w:World)(x y:Int)(t:TypeId):FI (w.alloc (.cells #[.int .i64 x,.int .i64 y] t)) w.heap.size x y:=⟨by simp,by simp,by simp,by simp,by simp⟩
end
section
open Go.RowKit Go.Shelf
attribute [local go_sem] Oper.semAt_some
structure Cs(n₀:Nat)(W0 w:World):Prop where
 old:Below n₀ W0 w
 lo:n₀≤w.heap.size
theorem Cs.next{n₀:Nat}{W0 w w':World}(h:Cs n₀ W0 w)(hb:Below w.heap.size w w'):Cs n₀ W0 w':=⟨h.old.trans (hb.mono h.lo),nt h.lo hb.size⟩
theorem Cs.put{n₀ g o:Nat}{W0 w:World}(h:Cs n₀ W0 w)(hg:n₀≤g)(v:Value):Cs n₀ W0 (w.setCell ⟨g,o,none⟩ v):=⟨h.old.setCell (show n₀≤(⟨g,o,none⟩:Addr).block from hg) _,by simp;exact h.lo⟩
theorem AHa(x:Int×Int)(ok:Ux x)(w:World):
  Calls Tryz.prog 129 #[.agg #[.int .i64 x.1,.int .i64 x.2],.agg #[.int .i64 1000,.int .i64 1]] w fun e w'=>e=.returned (.tuple #[.agg #[.int .i64 (Ay (1000*x.1) x.2),.int .i64 (Ar (1000*x.1) x.2)],.int .i64 0])∧Below w.heap.size w w':=by
 obtain⟨va,vb,vc⟩:=ok;obtain⟨d0,d1,n0,n1,_⟩:=(Bj _ _).1 va;have HS1:=lh fun w'=>Fz x.1 (by omega) (by omega) w';have HS2:=lh fun w'=>Fz 1000 (by omega) (by omega) w';have HS3:=lh fun w'=>Fz x.2 (by omega) (by omega) w';have HS4:=lh fun w'=>Fz 1 (by omega) (by omega) w';rw[show((x.1.natAbs:Nat):Int)=x.1 by omega]at HS1;rw[show(((1000:Int).natAbs:Nat):Int)=1000 by rfl]at HS2;rw[show((x.2.natAbs:Nat):Int)=x.2 by omega]at HS3;rw[show(((1:Int).natAbs:Nat):Int)=1 by rfl]at HS4;have HM1:=lh fun w'=>Rn x.1 1000 vb (by omega) (by omega) (by omega) w';have HM2:=lh fun w'=>Rn x.2 1 (by omega) (by omega) (by omega) (by omega) w';rw[show x.1*1000/18446744073709551616=0 by omega,show x.1*1000%18446744073709551616=1000*x.1 by omega]at HM1;rw[show x.2*1/18446744073709551616=0 by omega,show x.2*1%18446744073709551616=x.2 by omega]at HM2;have HMD:=lh fun w'=>AAf (1000*x.1) x.2 false (by omega) vc (by omega) d1 w';have hneg:decide (x.1<0)=false:=dF (by omega);generalize Ay (1000*x.1) x.2=N at *;generalize Ar (1000*x.1) x.2=D at *;have hb0:Below w.heap.size w (((w.alloc (.cells #[.int .i64 x.1,.int .i64 x.2] 49)).alloc (.cells #[.int .i64 1000,.int .i64 1] 49)).alloc (.cells #[.int .i64 0,.int .i64 0] 49)):=((Aa w _).alloc (by simp) _).alloc (by simp;omega) _;obtain⟨c0,c1,-,-,-⟩:=((FI.put w x.1 x.2 49).carry (Aa _ (.cells #[.int .i64 1000,.int .i64 1] 49))).carry (Aa ((w.alloc (.cells #[.int .i64 x.1,.int .i64 x.2] 49)).alloc (.cells #[.int .i64 1000,.int .i64 1] 49)) (.cells #[.int .i64 0,.int .i64 0] 49));have e2:=(FI.put (w.alloc (.cells #[.int .i64 x.1,.int .i64 x.2] 49)) 1000 1 49).carry (Aa ((w.alloc (.cells #[.int .i64 x.1,.int .i64 x.2] 49)).alloc (.cells #[.int .i64 1000,.int .i64 1] 49)) (.cells #[.int .i64 0,.int .i64 0] 49));rw[show(w.alloc (.cells #[.int .i64 x.1,.int .i64 x.2] 49)).heap.size=w.heap.size+1 by simp]at e2;obtain⟨c2,c3,-,-,-⟩:=e2
 have hN:Hj (((w.alloc (.cells #[.int .i64 x.1,.int .i64 x.2] 49)).alloc (.cells #[.int .i64 1000,.int .i64 1] 49)).alloc (.cells #[.int .i64 0,.int .i64 0] 49)) (w.heap.size+1+1):=by
  have e:=Hj.new ((w.alloc (.cells #[.int .i64 x.1,.int .i64 x.2] 49)).alloc (.cells #[.int .i64 1000,.int .i64 1] 49)) 49;rw[show((w.alloc (.cells #[.int .i64 x.1,.int .i64 x.2] 49)).alloc (.cells #[.int .i64 1000,.int .i64 1] 49)).heap.size=w.heap.size+1+1 by simp]at e;exact e
 clear va vb vc d0 d1 n0 n1
 go_enter Tryz.func129,Tryz.ntmps129
 go_upto_region 1 with (fail)
 obtain⟨W0,hW0⟩:=nm ((((w.alloc (.cells #[.int .i64 x.1,.int .i64 x.2] 49)).alloc (.cells #[.int .i64 1000,.int .i64 1] 49)).alloc (.cells #[.int .i64 0,.int .i64 0] 49)):World);simp only[hW0]at hb0 c0 c1 c2 c3 hN⊢;clear hW0;obtain⟨B1,hB1⟩:=nm (w.heap.size);obtain⟨B2,hB2⟩:=nm (w.heap.size+1);obtain⟨n₀,hn0⟩:=nm (w.heap.size+1+1);have hl1:B1<n₀:=by omega
 have hl2:B2<n₀:=by omega
 have HLO:Hid (w.heap.size≤n₀):=lh (by omega);have HB0:=lh hb0;rw[hn0]at hN⊢;rw[hB2]at c2 c3⊢;rw[hB1]at c0 c1⊢;clear hB1 hB2 hn0 hb0;have x0:∀w',Cs n₀ W0 w'→w'.cell? ⟨B1,0,none⟩=some (.int .i64 x.1):=fun w' z=>(ct z.old c0 hl1);have x1:∀w',Cs n₀ W0 w'→w'.cell? ⟨B1,1,none⟩=some (.int .i64 x.2):=fun w' z=>(ct z.old c1 hl1);have x2:∀w',Cs n₀ W0 w'→w'.cell? ⟨B2,0,none⟩=some (.int .i64 1000):=fun w' z=>(ct z.old c2 hl2);have x3:∀w',Cs n₀ W0 w'→w'.cell? ⟨B2,1,none⟩=some (.int .i64 1):=fun w' z=>(ct z.old c3 hl2);have hH0:Cs n₀ W0 W0:=⟨br,by have:=hN.2.2.2.2;omega⟩;have hF0:=hN.carry (br).drew;clear c0 c1 c2 c3 hN;refine wp_region_held_drew (S:=(Cs n₀ W0)) (by kernel_rfl) (hH0.next (br).drew) (fun hHeld=>?_);refine tk 0 ?_;refine tk 1 ?_;refine tk 3 ?_;refine tk 4 ?_;refine tk 7 ?_;refine tk 8 ?_;refine tk 9 ?_;refine tk 10 ?_;refine tk 11 ?_;refine tk 12 ?_;refine tk 13 ?_;refine tk 14 ?_;refine tk 15 ?_;refine tk 17 ?_;refine tk 18 ?_;refine r1 2 (fun K hK=>?_)
 try simp only[Ba,Bc,Az]
 go_simp
 (go_at_call 67;go_split_ands;go_fit (HS1.out _);rintro e y1 ⟨rfl,rfl⟩)
 go_wp2_with fail
 refine hK.out _ _ (hHeld) (fun hHeld=>?_);clear hK K
 try simp only[Act.put,Co,Cp,Cn,Ba,Bc,Az]
 refine r1 5 (fun K hK=>?_)
 try simp only[Ba,Bc,Az]
 go_simp
 (go_at_call 67;go_split_ands;go_fit (HS2.out _);rintro e y2 ⟨rfl,rfl⟩)
 go_wp2_with fail
 refine hK.out _ _ (hHeld) (fun hHeld=>?_);clear hK K
 try simp only[Act.put,Co,Cp,Cn,Ba,Bc,Az]
 refine r1 6 (fun K hK=>?_)
 try simp only[Ba,Bc,Az]
 go_simp
 (go_at_call 71;go_split_ands;go_fit (HM1.out _);rintro e y3 ⟨rfl,hy3⟩;have hH3:=hHeld.next hy3;have hF3:=hF0.carry hy3)
 go_wp2_with fail
 refine hK.out _ _ (hH3) (fun hHeld=>?_);clear hK K
 try simp only[Act.put,Co,Cp,Cn,Ba,Bc,Az]
 refine r1 16 (fun K hK=>?_)
 try simp only[Ba,Bc,Az]
 go_simp
 (go_at_call 67;go_split_ands;go_fit (HS3.out _);rintro e y4 ⟨rfl,rfl⟩)
 go_wp2_with fail
 refine hK.out _ _ (hHeld) (fun hHeld=>?_);clear hK K
 try simp only[Act.put,Co,Cp,Cn,Ba,Bc,Az]
 refine r1 19 (fun K hK=>?_)
 try simp only[Ba,Bc,Az]
 go_simp
 (go_at_call 67;go_split_ands;go_fit (HS4.out _);rintro e y5 ⟨rfl,rfl⟩)
 go_wp2_with fail
 refine hK.out _ _ (hHeld) (fun hHeld=>?_);clear hK K
 try simp only[Act.put,Co,Cp,Cn,Ba,Bc,Az]
 refine r1 20 (fun K hK=>?_)
 try simp only[Ba,Bc,Az]
 go_simp
 (go_at_call 71;go_split_ands;go_fit (HM2.out _);rintro e y6 ⟨rfl,hy6⟩;have hH6:=hHeld.next hy6;have hF6:=hF3.carry hy6)
 go_wp2_with fail
 refine hK.out _ _ (hH6) (fun hHeld=>?_);clear hK K
 try simp only[Act.put,Co,Cp,Cn,Ba,Bc,Az]
 refine r1 21 (fun K hK=>?_)
 try simp only[Ba,Bc,Az]
 go_simp
 (go_at_call 66;go_split_ands;go_fit (HMD.out _);rintro e y7 ⟨rfl,hy7⟩;have hH7:=hHeld.next hy7;have hF7:=hF6.carry hy7)
 go_wp2_with fail
 refine hK.out _ _ (hH7) (fun hHeld=>?_);clear hK K
 try simp only[Act.put,Co,Cp,Cn,Ba,Bc,Az]
 refine tk 22 ?_;refine tk 23 ?_;obtain⟨f0,f1,f2,f3,f4⟩:=hF7;refine r1 24 (fun K hK=>?_);rw[if_pos (by rfl)]
 go_wp2_with fail
 refine hK.out _ _ ((hH7.put nr _).put nr _) (fun hHeld=>?_);clear hK K
 try simp only[Act.put,Co,Cp,Cn,Ba,Bc,Az]
 refine tk 25 ?_;refine wpAnyH_done (by kernel_rfl) ?_ _
 go_wp2_with fail
 have hr:=Ag (v0:=.int .i64 N) (v1:=.int .i64 D) f0 f1;refine bodyPost_ret (v:=.tuple #[.agg #[.int .i64 N,.int .i64 D],.int .i64 0]) (by simp[results,Tryz.results129,go_sem,hr.1,hr.2]) rfl ⟨rfl,?_⟩;exact(HB0.out.trans (hH7.old.mono HLO.out |>.setCell (show w.heap.size≤(⟨n₀,0,none⟩:Addr).block from HLO.out) _)).setCell (show w.heap.size≤(⟨n₀,1,none⟩:Addr).block from HLO.out) _
theorem AFk{I:List Cd}{len:Int}:Iw I len=true↔I.length≤40∧∀j,j<I.length→Ej len (tg I j)=true∧∀i,i<j→(tg I i).name≠(tg I j).name∧Dt (tg I i) (tg I j)=true:=by
 rw[Wk]
 have hn:(I.map (·.name)).Nodup↔∀j,j<I.length→∀i,i<j→(tg I i).name≠(tg I j).name:=by
  rw[List.Nodup,List.pairwise_map,List.pairwise_iff_getElem]
  constructor
  ·intro h j hj i hi
   rw[Jm I i (by omega),Jm I j hj];exact h i j (by omega) hj hi
  ·intro h i j hi hj hij
   have:=h j hj i hij
   rwa [Jm I i hi,Jm I j hj]at this
 rw[hn]
 constructor
 ·rintro ⟨a,b,c,d⟩
  exact⟨a,fun j hj=>⟨c j hj,fun i hi=>⟨b j hj i hi,d j hj i hi⟩⟩⟩
 ·rintro ⟨a,b⟩
  exact⟨a,fun j hj i hi=>((b j hj).2 i hi).1,fun j hj=>(b j hj).1,fun j hj i hi=>((b j hj).2 i hi).2⟩
theorem Yf(r:Ds)(w:World)(hlen:0≤r.length∧r.length≤1048576)(hs:Ls w r):
  Calls Tryz.prog 193 #[.agg #[.string r.name,.int .i64 r.depth,.int .i64 r.low,.int .i64 r.high,.int .i64 r.length,.slice r.la r.lines.length r.lc,.int .i64 r.pipe,.int .i64 r.arbor,.int .i64 r.purchase,.int .i64 r.most,.int .i64 r.brake,.slice r.ia r.items.length r.ic,.slice r.ba r.bricks.length r.bc]] w fun e w'=>e=.returned (.bool (Iw r.items r.length))∧Below w.heap.size w w':=by
 have HLEN:=lh hlen;obtain⟨R,hR⟩:=nm (Iw r.items r.length);have HI:Hid (R=true↔r.items.length≤40∧∀j,j<r.items.length→Ej r.length (tg r.items j)=true∧∀i,i<j→(tg r.items i).name≠(tg r.items j).name∧Dt (tg r.items i) (tg r.items j)=true):=lh (by rw[←hR];exact AFk);rw[hR];clear hR;have hb0:=Aa w (Ko r);have HX:Hid (∀wx,Below (w.alloc (Ko r)).heap.size (w.alloc (Ko r)) wx→Below w.heap.size w wx):=lh fun wx h=>Dh _ h;have HS:Hid (∀wx,Below (w.alloc (Ko r)).heap.size (w.alloc (Ko r)) wx→Ls wx r):=lh fun wx h=>(hs.grow hb0).grow h;have HAT:Hid (∀wx,Below (w.alloc (Ko r)).heap.size (w.alloc (Ko r)) wx→Ke wx w.heap.size r):=lh fun wx h=>(Ke.new w r 59).below h (by simp);clear hb0 hs
 by_cases q:40<r.items.length
 ·have HR:Hid (R=false):=lh (by
   rw[Bool.eq_false_iff];intro h;have:=(HI.out.1 h).1;omega)
  have g:decide ((40:Int)<r.items.length)=true:=dT (by omega);have g':decide (40<r.items.length)=true:=dT (by omega);clear q
  go_enter Tryz.func193,Tryz.ntmps193
  go_wp2_with fail
  go_ret;exact⟨Ab HR.out.symm,HX.out _ br⟩
 have g:decide ((40:Int)<r.items.length)=false:=dF (by omega);have g':decide (40<r.items.length)=false:=dF (by omega);have hq:r.items.length≤40:=by omega
 have HI2:Hid (R=true↔∀j,j<r.items.length→Ej r.length (tg r.items j)=true∧∀i,i<j→(tg r.items i).name≠(tg r.items j).name∧Dt (tg r.items i) (tg r.items j)=true):=lh (by rw[HI.out];exact⟨fun h=>h.2,fun h=>⟨hq,h⟩⟩);clear q HI
 go_enter Tryz.func193,Tryz.ntmps193
 go_wp2_with fail
 generalize (w.alloc (Ko r))=W0 at *;have hB1:=Below.refl W0.heap.size W0;obtain⟨-,-,-,-,x4,-,-,-,-,-,-,x11,-⟩:=Od HAT
 go_loopw [3] (fun i wr=>∃k:Nat,k≤r.items.length∧i=.int .i64 k∧Hid (∀j,j<k→Ej r.length (tg r.items j)=true∧∀i,i<j→(tg r.items i).name≠(tg r.items j).name∧Dt (tg r.items i) (tg r.items j)=true)∧Below W0.heap.size W0 wr) (fun i _=>r.items.length-(intOf i).toNat)
 case atStart=>exact⟨0,nz,rfl,lh (fun j hj=>by omega),hB1⟩
 case round=>
  obtain⟨k,hk,rfl,HO,hB⟩:=hrel
  by_cases hlt:k<r.items.length
  ·obtain⟨b,off,hia,_,_⟩:=(HS.out W0 hB1).items (by omega)
   have y11:∀wx,Below W0.heap.size W0 wx→wx.cell? ⟨w.heap.size,11,none⟩=some (.slice (some ⟨b,off,none⟩) r.items.length r.ic):=fun wx h=>by rw[←hia];exact x11 wx h
   have HIA:=lh hia;clear x11 hia;obtain⟨x,hx⟩:=nm (tg r.items k)
   have c0:∀wx,Below W0.heap.size W0 wx→wx.cell? ⟨b,off+k*7,none⟩=some (.string (tg r.items k).name):=fun wx h=>by
    obtain⟨b',off',e,_,hc⟩:=(HS.out wx h).items (by omega);rw[HIA.out]at e
    cases e
    exact(hc k hlt).1
   have c1:∀wx,Below W0.heap.size W0 wx→wx.cell? ⟨b,off+k*7+1,none⟩=some (.int .i64 (tg r.items k).pos):=fun wx h=>by
    obtain⟨b',off',e,_,hc⟩:=(HS.out wx h).items (by omega);rw[HIA.out]at e
    cases e
    exact(hc k hlt).2.1
   have c2:∀wx,Below W0.heap.size W0 wx→wx.cell? ⟨b,off+k*7+2,none⟩=some (.int .i64 (tg r.items k).width):=fun wx h=>by
    obtain⟨b',off',e,_,hc⟩:=(HS.out wx h).items (by omega);rw[HIA.out]at e
    cases e
    exact(hc k hlt).2.2.1
   have c3:∀wx,Below W0.heap.size W0 wx→wx.cell? ⟨b,off+k*7+3,none⟩=some (.int .i64 (tg r.items k).weight):=fun wx h=>by
    obtain⟨b',off',e,_,hc⟩:=(HS.out wx h).items (by omega);rw[HIA.out]at e
    cases e
    exact(hc k hlt).2.2.2.1
   have c4:∀wx,Below W0.heap.size W0 wx→wx.cell? ⟨b,off+k*7+4,none⟩=some (.int .i64 (tg r.items k).hang):=fun wx h=>by
    obtain⟨b',off',e,_,hc⟩:=(HS.out wx h).items (by omega);rw[HIA.out]at e
    cases e
    exact(hc k hlt).2.2.2.2.1
   have c5:∀wx,Below W0.heap.size W0 wx→wx.cell? ⟨b,off+k*7+5,none⟩=some (.int .i64 (tg r.items k).front):=fun wx h=>by
    obtain⟨b',off',e,_,hc⟩:=(HS.out wx h).items (by omega);rw[HIA.out]at e
    cases e
    exact(hc k hlt).2.2.2.2.2.1
   have c6:∀wx,Below W0.heap.size W0 wx→wx.cell? ⟨b,off+k*7+6,none⟩=some (.int .i64 (tg r.items k).back):=fun wx h=>by
    obtain⟨b',off',e,_,hc⟩:=(HS.out wx h).items (by omega);rw[HIA.out]at e
    cases e
    exact(hc k hlt).2.2.2.2.2.2
   have HN:Hid (Ej r.length x=false→R=false):=lh fun h=>by
    rw[Bool.eq_false_iff];intro q;rw[←hx,(HI2.out.1 q k hlt).1]at h;cases h
   have HNB:Hid (∀i,i<k→¬((tg r.items i).name≠x.name∧Dt (tg r.items i) x=true)→R=false):=lh fun i hi h=>by
    rw[Bool.eq_false_iff];intro q
    apply h
    rw[←hx];exact(HI2.out.1 q k hlt).2 i hi
   have HY:Hid (Ej r.length x=true→(∀i,i<k→(tg r.items i).name≠x.name∧Dt (tg r.items i) x=true)→∀j,j<k+1→Ej r.length (tg r.items j)=true∧∀i,i<j→(tg r.items i).name≠(tg r.items j).name∧Dt (tg r.items i) (tg r.items j)=true):=lh fun h h2 j hj=>by
    rcases(show j<k∨j=k by omega)with l | l
    ·exact HO.out j l
    ·subst l;rw[hx];exact⟨h,h2⟩
   rw[hx]at c0 c1 c2 c3 c4 c5 c6;clear hx;have k1:(k:Int)<r.items.length:=by omega
   cases hv:Ej r.length x
   ·have HV:=lh hv
    have HR:=lh (HN.out hv);clear hv HN HNB HY
    go_wp2_with fail
    refine wp_region_held_drew (S:=(fun w'=>Below W0.heap.size W0 w')) (by kernel_rfl) (hB.drew) (fun hHeld=>?_);refine tkB 0 ?_;simp only[Act.put,Co,Cp,Cn,Ba,Az];refine tk 1 ?_;refine tk 2 ?_;refine tk 3 ?_;refine tk 4 ?_;refine tk 5 ?_;refine tk 6 ?_;refine r1 7 (fun K hK=>?_)
    try simp only[Ba,Bc,Az]
    go_simp
    (go_at_call 209;go_split_ands;go_fit (Vr x r.length _ HLEN.out);rintro e w2 ⟨rfl,hb⟩;rw[HV.out])
    go_wp2_with fail
    refine hK.out _ _ (hHeld.trans (hb.mono hHeld.size)) (fun hHeld=>?_);clear hK K
    try simp only[Act.put,Co,Cp,Cn,Ba,Bc,Az]
    refine tk 8 ?_;refine wpAnyH_done (by kernel_rfl) ?_ _
    go_wp2_with fail
    go_ret;exact⟨Ab HR.out.symm,HX.out _ hHeld⟩
   have HV:=lh hv;have HY2:=lh (HY.out hv);clear hv HN HY
   go_wp2_with fail
   refine wp_region_held_drew (S:=(fun w'=>Below W0.heap.size W0 w')) (by kernel_rfl) (hB.drew) (fun hHeld=>?_);refine tkB 0 ?_;simp only[Act.put,Co,Cp,Cn,Ba,Az];refine tk 1 ?_;refine tk 2 ?_;refine tk 3 ?_;refine tk 4 ?_;refine tk 5 ?_;refine tk 6 ?_;refine r1 7 (fun K hK=>?_)
   try simp only[Ba,Bc,Az]
   go_simp
   (go_at_call 209;go_split_ands;go_fit (Vr x r.length _ HLEN.out);rintro e w2 ⟨rfl,hb⟩;rw[HV.out])
   go_wp2_with fail
   refine hK.out _ _ (hHeld.trans (hb.mono hHeld.size)) (fun hHeld=>?_);clear hK K
   try simp only[Act.put,Co,Cp,Cn,Ba,Bc,Az]
   refine tk 8 ?_;refine wpAnyH_done (by kernel_rfl) ?_ _;clear hb;have hB2:=hHeld;clear hHeld
   go_wp2_with fail
   go_loopw [4] (fun i wr=>∃m:Nat,m≤k∧i=.int .i64 m∧Hid (∀i,i<m→(tg r.items i).name≠x.name∧Dt (tg r.items i) x=true)∧Below W0.heap.size W0 wr) (fun i _=>k-(intOf i).toNat)
   case atStart=>exact⟨0,nz,rfl,lh (fun j hj=>by omega),hB2⟩
   case round=>
    obtain⟨m,hm,rfl,HA,hD⟩:=hrel
    by_cases hlm:m<k
    ·obtain⟨y,hy⟩:=nm (tg r.items m)
     have hmlt:m<r.items.length:=by omega
     have d0:∀wx,Below W0.heap.size W0 wx→wx.cell? ⟨b,off+m*7,none⟩=some (.string (tg r.items m).name):=fun wx h=>by
      obtain⟨b',off',e,_,hc⟩:=(HS.out wx h).items (by omega);rw[HIA.out]at e
      cases e
      exact(hc m hmlt).1
     have d1:∀wx,Below W0.heap.size W0 wx→wx.cell? ⟨b,off+m*7+1,none⟩=some (.int .i64 (tg r.items m).pos):=fun wx h=>by
      obtain⟨b',off',e,_,hc⟩:=(HS.out wx h).items (by omega);rw[HIA.out]at e
      cases e
      exact(hc m hmlt).2.1
     have d2:∀wx,Below W0.heap.size W0 wx→wx.cell? ⟨b,off+m*7+2,none⟩=some (.int .i64 (tg r.items m).width):=fun wx h=>by
      obtain⟨b',off',e,_,hc⟩:=(HS.out wx h).items (by omega);rw[HIA.out]at e
      cases e
      exact(hc m hmlt).2.2.1
     have d3:∀wx,Below W0.heap.size W0 wx→wx.cell? ⟨b,off+m*7+3,none⟩=some (.int .i64 (tg r.items m).weight):=fun wx h=>by
      obtain⟨b',off',e,_,hc⟩:=(HS.out wx h).items (by omega);rw[HIA.out]at e
      cases e
      exact(hc m hmlt).2.2.2.1
     have d4:∀wx,Below W0.heap.size W0 wx→wx.cell? ⟨b,off+m*7+4,none⟩=some (.int .i64 (tg r.items m).hang):=fun wx h=>by
      obtain⟨b',off',e,_,hc⟩:=(HS.out wx h).items (by omega);rw[HIA.out]at e
      cases e
      exact(hc m hmlt).2.2.2.2.1
     have d5:∀wx,Below W0.heap.size W0 wx→wx.cell? ⟨b,off+m*7+5,none⟩=some (.int .i64 (tg r.items m).front):=fun wx h=>by
      obtain⟨b',off',e,_,hc⟩:=(HS.out wx h).items (by omega);rw[HIA.out]at e
      cases e
      exact(hc m hmlt).2.2.2.2.2.1
     have d6:∀wx,Below W0.heap.size W0 wx→wx.cell? ⟨b,off+m*7+6,none⟩=some (.int .i64 (tg r.items m).back):=fun wx h=>by
      obtain⟨b',off',e,_,hc⟩:=(HS.out wx h).items (by omega);rw[HIA.out]at e
      cases e
      exact(hc m hmlt).2.2.2.2.2.2
     have HZ:Hid (¬(y.name≠x.name∧Dt y x=true)→R=false):=lh (by rw[←hy];exact HNB.out m hlm)
     have HA2:Hid (y.name≠x.name→Dt y x=true→∀i,i<m+1→(tg r.items i).name≠x.name∧Dt (tg r.items i) x=true):=lh fun h1 h2 i hi=>by
      rcases(show i<m∨i=m by omega)with l | l
      ·exact HA.out i l
      ·subst l;rw[hy];exact⟨h1,h2⟩
     have HW:Hid (Du y x=Dt y x):=lh (Tc (by rw[←hy];exact(HO.out m hlm).1) HV.out HLEN.out);rw[hy]at d0 d1 d2 d3 d4 d5 d6;clear hy;have m1:(m:Int)<r.items.length:=by omega
     have m2:(m:Int)<(k:Int):=by omega
     by_cases hne:y.name=x.name
     ·have g1:(y.name.toList==x.name.toList)=true:=by rw[Dj];exact dT hne
      have HR:=lh (HZ.out fun h=>h.1 hne);clear hne HZ HA2
      go_wp2_with fail
      refine wp_region_held_drew (S:=(fun w'=>Below W0.heap.size W0 w')) (by kernel_rfl) (hD.drew) (fun hHeld=>?_);refine tkB 0 ?_;simp only[Act.put,Co,Cp,Cn,Ba,Az];refine tk 1 ?_;refine tk 2 ?_;refine tk 3 ?_;refine tk 4 ?_;refine tk 5 ?_;refine tk 6 ?_;refine tk 7 ?_;refine tk 8 ?_;refine tk 9 ?_;refine tk 10 ?_;refine tk 11 ?_;refine tk 12 ?_;refine tk 13 ?_;refine tkS 14 ?_;simp only[Act.put,Co,Cp,Cn,Ba,Bc,Az];refine tkS 15 ?_;simp only[Act.put,Co,Cp,Cn,Ba,Bc,Az];refine tkS 16 ?_;simp only[Act.put,Co,Cp,Cn,Ba,Bc,Az];refine tkS 17 ?_;simp only[Act.put,Co,Cp,Cn,Ba,Bc,Az];refine tkS 18 ?_;simp only[Act.put,Co,Cp,Cn,Ba,Bc,Az];refine tkS 19 ?_;simp only[Act.put,Co,Cp,Cn,Ba,Bc,Az];refine tkS 20 ?_;simp only[Act.put,Co,Cp,Cn,Ba,Bc,Az];refine tkS 21 ?_;simp only[Act.put,Co,Cp,Cn,Ba,Bc,Az];refine tkS 22 ?_;simp only[Act.put,Co,Cp,Cn,Ba,Bc,Az];refine tkS 23 ?_;simp only[Act.put,Co,Cp,Cn,Ba,Bc,Az];refine tkS 24 ?_;simp only[Act.put,Co,Cp,Cn,Ba,Bc,Az];refine tkS 25 ?_;simp only[Act.put,Co,Cp,Cn,Ba,Bc,Az];refine tk 26 ?_;refine wpAnyH_done (by kernel_rfl) ?_ _
      go_wp2_with fail
      go_ret;exact⟨Ab HR.out.symm,HX.out _ hHeld⟩
     have g1:(y.name.toList==x.name.toList)=false:=by rw[Dj];exact dF hne
     cases hv2:Dt y x
     ·have HV2:Hid (Du y x=false):=lh (by rw[HW.out,hv2])
      have HR:=lh (HZ.out fun h=>by rw[hv2]at h;cases h.2);clear hne HZ HA2 hv2
      go_wp2_with fail
      refine wp_region_held_drew (S:=(fun w'=>Below W0.heap.size W0 w')) (by kernel_rfl) (hD.drew) (fun hHeld=>?_);refine tkB 0 ?_;simp only[Act.put,Co,Cp,Cn,Ba,Az];refine tk 1 ?_;refine tk 2 ?_;refine tk 3 ?_;refine tk 4 ?_;refine tk 5 ?_;refine tk 6 ?_;refine tk 7 ?_;refine tk 8 ?_;refine tk 9 ?_;refine tk 10 ?_;refine tk 11 ?_;refine tk 12 ?_;refine tk 13 ?_;refine tk 14 ?_;refine tk 15 ?_;refine tk 16 ?_;refine tk 17 ?_;refine tk 18 ?_;refine tk 19 ?_;refine tk 20 ?_;refine tk 21 ?_;refine tk 22 ?_;refine tk 23 ?_;refine r1 24 (fun K hK=>?_)
      try simp only[Ba,Bc,Az]
      go_simp
      (go_at_call 210;go_split_ands;go_fit (Wb y x _);rintro e w2 ⟨rfl,hb⟩;rw[HV2.out])
      go_wp2_with fail
      refine hK.out _ _ (hHeld.trans (hb.mono hHeld.size)) (fun hHeld=>?_);clear hK K
      try simp only[Act.put,Co,Cp,Cn,Ba,Bc,Az]
      refine tk 25 ?_;refine tk 26 ?_;refine wpAnyH_done (by kernel_rfl) ?_ _
      go_wp2_with fail
      go_ret;exact⟨Ab HR.out.symm,HX.out _ hHeld⟩
     have HV2:Hid (Du y x=true):=lh (by rw[HW.out,hv2]);have HA3:=lh (HA2.out hne hv2);clear hne HZ HA2 hv2
     go_wp2_with fail
     refine wp_region_held_drew (S:=(fun w'=>Below W0.heap.size W0 w')) (by kernel_rfl) (hD.drew) (fun hHeld=>?_);refine tkB 0 ?_;simp only[Act.put,Co,Cp,Cn,Ba,Az];refine tk 1 ?_;refine tk 2 ?_;refine tk 3 ?_;refine tk 4 ?_;refine tk 5 ?_;refine tk 6 ?_;refine tk 7 ?_;refine tk 8 ?_;refine tk 9 ?_;refine tk 10 ?_;refine tk 11 ?_;refine tk 12 ?_;refine tk 13 ?_;refine tk 14 ?_;refine tk 15 ?_;refine tk 16 ?_;refine tk 17 ?_;refine tk 18 ?_;refine tk 19 ?_;refine tk 20 ?_;refine tk 21 ?_;refine tk 22 ?_;refine tk 23 ?_;refine r1 24 (fun K hK=>?_)
     try simp only[Ba,Bc,Az]
     go_simp
     (go_at_call 210;go_split_ands;go_fit (Wb y x _);rintro e w2 ⟨rfl,hb⟩;rw[HV2.out])
     go_wp2_with fail
     refine hK.out _ _ (hHeld.trans (hb.mono hHeld.size)) (fun hHeld=>?_);clear hK K
     try simp only[Act.put,Co,Cp,Cn,Ba,Bc,Az]
     refine tk 25 ?_;refine tk 26 ?_;refine wpAnyH_done (by kernel_rfl) ?_ _
     go_wp2_with fail
     go_roundw
     case rel=>exact⟨m+1,by omega,by go_num,HA3,hHeld⟩
     case measure=>simp[intOf];omega
    ·obtain rfl:m=k:=by omega
     have HN3:=lh (HY2.out HA.out)
     go_wp2_with fail
     go_roundw
     case rel=>exact⟨m+1,by omega,by go_num,HN3,hD⟩
     case measure=>simp[intOf];omega
  ·obtain rfl:k=r.items.length:=by omega
   have HR:Hid (R=true):=lh (HI2.out.2 HO.out)
   go_wp2_with fail
   go_ret;exact⟨Ab HR.out.symm,HX.out _ hB⟩
end
end Go.Proofs.YtebofaenlhhkaaaGreat
