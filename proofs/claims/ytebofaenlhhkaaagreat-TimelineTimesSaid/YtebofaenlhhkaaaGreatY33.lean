import Derived.Laws.StructEq
import Derived.Test.YtebofaenlhhkaaaGreatY32
namespace Go.Proofs.YtebofaenlhhkaaaGreat
set_option maxRecDepth 100000
set_option maxHeartbeats 80000000
section
def fr(a:Int×Int):Rat:=(a.1:Rat)/(a.2:Rat)
theorem Mm{d:Int}(h:0<d):(0:Rat)<(d:Rat):=Rat.intCast_pos.2 h
theorem Sv{d:Int}(h:0<d):(d:Rat)≠0:=fun e=>by have:=Mm h;rw[e]at this;exact Rat.lt_irrefl this
theorem AIh(a:Int×Int)(h:0<a.2):fr a*(a.2:Rat)=(a.1:Rat):=Rat.div_mul_cancel (Sv h)
theorem Nl(n:Int):fr (n,1)=(n:Rat):=by
 show(n:Rat)/(1:Rat)=(n:Rat)
 grind
theorem Mn:fr (0,1)=0:=Nl 0
theorem Ky{a b:Int×Int}(ha:0<a.2)(hb:0<b.2):fr a≤fr b↔a.1*b.2≤b.1*a.2:=by
 have h:=AIh a ha;have k:=AIh b hb;have pa:=Mm ha;have pb:=Mm hb;rw[←Rat.intCast_le_intCast,Rat.intCast_mul,Rat.intCast_mul,←h,←k];have pp:=Rat.mul_pos pa pb;rw[show fr a*(a.2:Rat)*(b.2:Rat)=fr a*((a.2:Rat)*(b.2:Rat))by grind,show fr b*(b.2:Rat)*(a.2:Rat)=fr b*((a.2:Rat)*(b.2:Rat))by grind];exact⟨fun x=>Rat.mul_le_mul_of_nonneg_right x (Rat.le_of_lt pp),fun x=>Rat.le_of_mul_le_mul_right x pp⟩
theorem ABd{a b:Int×Int}(ha:0<a.2)(hb:0<b.2):fr a<fr b↔a.1*b.2<b.1*a.2:=by
 rw[←Rat.not_le,Ky hb ha];omega
theorem ATf{a b:Int×Int}(ha:0<a.2)(hb:0<b.2):fr a=fr b↔a.1*b.2=b.1*a.2:=by
 constructor
 ·intro h
  have x:=(Ky ha hb).1 (by rw[h];exact Rat.le_refl);have y:=(Ky hb ha).1 (by rw[h];exact Rat.le_refl);omega
 ·intro h
  exact Rat.le_antisymm ((Ky ha hb).2 (by omega)) ((Ky hb ha).2 (by omega))
theorem Ji(n d:Int)(hd:0<d):fr (Ay n d,Ar n d)=(n:Rat)/(d:Rat):=
 (ATf (a:=(Ay n d,Ar n d)) (b:=(n,d)) (Eg hd) hd).2 (Sx n d)
theorem ARo(a b c d:Rat)(hb:b≠0)(hd:d≠0):a/b+c/d=(a*d+c*b)/(b*d):=by grind
theorem ARu{a b:Int×Int}(ha:0<a.2)(hb:0<b.2):fr (Ay (a.1*b.2+b.1*a.2) (a.2*b.2),Ar (a.1*b.2+b.1*a.2) (a.2*b.2))=fr a+fr b:=by
 rw[Ji _ _ (Int.mul_pos ha hb)];unfold fr;rw[ARo _ _ _ _ (Sv ha) (Sv hb)]
 simp
theorem ARv(a:Int×Int):fr (-a.1,a.2)=-fr a:=by unfold fr;simp[Rat.div_def,Rat.neg_mul]
theorem AKo{a b:Int×Int}(ha:0<a.2)(hb:0<b.2):fr (Ay (a.1*b.1) (a.2*b.2),Ar (a.1*b.1) (a.2*b.2))=fr a*fr b:=by
 rw[Ji _ _ (Int.mul_pos ha hb)];unfold fr;have:=Sv ha;have:=Sv hb
 simp
 grind
theorem ASq{e p q:Int}(h:(kp e (Kx p q)).2=0):e=0∧(kp e (Kx p q)).1=(p,q):=by
 unfold kp at *
 by_cases z:(Kx p q).2.2=0
 ·rw[if_pos z]at h⊢
  refine⟨h,?_⟩;unfold Kx at *
  split at z
  ·cases z
  next hn=>rw[if_neg hn]
 ·rw[if_neg z]at h
  simp only at h
  split at h
  ·exact absurd h z
  next hn=>exact absurd h hn
theorem Vm{e:Int}{a b:Int×Int}(ha:0<a.2)(hb:0<b.2)(h:(Om e a b).2=0):e=0∧fr (Om e a b).1=fr a+fr b:=by
 obtain⟨h1,h2⟩:=ASq (h:(kp e (Kx _ _)).2=0);exact⟨h1,by rw[←ARu ha hb];exact congrArg fr h2⟩
theorem AIi{e:Int}{a b:Int×Int}(ha:0<a.2)(hb:0<b.2)(h:(Te e a b).2=0):e=0∧fr (Te e a b).1=fr a-fr b:=by
 obtain⟨h1,h2⟩:=Vm (e:=e) (a:=a) (b:=(-b.1,b.2)) ha hb h;exact⟨h1,by rw[ARv]at h2;rw[Rat.sub_eq_add_neg,←h2];rfl⟩
theorem Vd{e:Int}{a b:Int×Int}(ha:0<a.2)(hb:0<b.2)(h:(Ik e a b).2=0):e=0∧fr (Ik e a b).1=fr a*fr b:=by
 obtain⟨h1,h2⟩:=ASq (h:(kp e (Kx _ _)).2=0);exact⟨h1,by rw[←AKo ha hb];exact congrArg fr h2⟩
theorem ASd{e:Int}{A B C u:Int×Int}(vA:vF A=true)(vB:vF B=true)(vC:vF C=true)(vu:vF u=true)(h:(Wd e A B C u).2=0):e=0∧fr (Wd e A B C u).1=fr A+(fr B+fr C*fr u)*fr u:=by
 unfold Wd at h⊢;have v1:vF (Ik e C u).1=true:=Ff vC vu;have v2:vF (Om (Ik e C u).2 B (Ik e C u).1).1=true:=Iz vB v1;obtain⟨h3,e4⟩:=Vm (Bp vA) (Bp (Ff v2 vu)) h;obtain⟨h2,e3⟩:=Vd (Bp v2) (Bp vu) h3;obtain⟨h1,e2⟩:=Vm (Bp vB) (Bp v1) h2;obtain⟨h0,e1⟩:=Vd (Bp vC) (Bp vu) h1;exact⟨h0,by rw[e4,e3,e2,e1]⟩
theorem AJq{e:Int}{B C u:Int×Int}(vB:vF B=true)(vC:vF C=true)(vu:vF u=true)(h:(Xq e B C u).2=0):e=0∧fr (Xq e B C u).1=fr B+2*(fr C*fr u):=by
 unfold Xq at h⊢;have v1:vF (Ik e C u).1=true:=Ff vC vu;obtain⟨h2,e3⟩:=Vm (Bp vB) (Bp (Ff AGo v1)) h;obtain⟨h1,e2⟩:=Vd (Bp AGo) (Bp v1) h2;obtain⟨h0,e1⟩:=Vd (Bp vC) (Bp vu) h1
 exact⟨h0,by
  rw[e3,e2,e1];have:fr (2,1)=2:=Nl 2;rw[this]⟩

structure QP where
 f:Rat
 a:Rat
 b:Rat
 c:Rat
def qv(p:QP)(t:Rat):Rat:=p.a+(p.b+p.c*(t-p.f))*(t-p.f)
def qs(p:QP)(t:Rat):Rat:=p.b+2*(p.c*(t-p.f))
theorem AQp(p:QP)(x y:Rat):qv p y-qv p x=(y-x)*(p.b+p.c*((x-p.f)+(y-p.f))):=by
 unfold qv;grind
theorem AJo(a b:Rat):a≤b∨b≤a:=Rat.le_total
theorem Uf{b c l u v:Rat}(hb:0≤b)(hl:0≤b+2*(c*l))(u0:0≤u)(v0:u≤v)(vl:v≤l):0≤b+c*(u+v):=by
 rcases AJo 0 c with h | h
 ·have:=Rat.mul_nonneg h (show 0≤u+v by grind)
  grind
 ·have:=Rat.mul_nonneg (show 0≤-c by grind) (show 0≤2*l-(u+v)by grind)
  grind
theorem Ni{p:QP}{x y z:Rat}(hb:0≤p.b)(hs:0≤qs p z)(hx:p.f≤x)(xy:x≤y)(yz:y≤z):qv p x≤qv p y:=by
 have h:=Uf (b:=p.b) (c:=p.c) (l:=z-p.f) (u:=x-p.f) (v:=y-p.f) hb hs (by grind) (by grind) (by grind);have:=Rat.mul_nonneg (show 0≤y-x by grind) h;have:=AQp p x y
 grind
theorem AGv{p:QP}{y z m n:Rat}(h1:m≤p.b)(h2:p.b≤n)(h3:m≤qs p z)(h4:qs p z≤n)(hy:p.f≤y)(yz:y≤z):m≤qs p y∧qs p y≤n:=by
 unfold qs at *;have h:=Uf (b:=p.b-m) (c:=p.c) (l:=z-p.f) (u:=y-p.f) (v:=y-p.f) (by grind) (by grind) (by grind) (by grind) (by grind);have k:=Uf (b:=n-p.b) (c:=-p.c) (l:=z-p.f) (u:=y-p.f) (v:=y-p.f) (by grind) (by grind) (by grind) (by grind) (by grind)
 grind
def Lk:List QP→Rat→Rat
 | [],_=>0
 | [p],t=>if p.f≤t then qv p t else p.a
 | p::q::r,t=>if q.f≤t then Lk (q::r) t else if p.f≤t then qv p t else p.a
def slL:List QP→Rat→Rat
 | [],_=>0
 | [p],t=>if p.f≤t then qs p t else 0
 | p::q::r,t=>if q.f≤t then slL (q::r) t else if p.f≤t then qs p t else 0
def Lv:List QP→Rat
 | []=>0
 | [p]=>p.a
 | _::q::r=>Lv (q::r)
def AMl:List QP→Rat
 | []=>0
 | p::_=>p.f
def Qp:List QP→Rat
 | []=>0
 | p::_=>p.a
def Ou:List QP→Rat
 | []=>0
 | [p]=>p.f
 | _::q::r=>Ou (q::r)
inductive Up (m:Rat):List QP→Prop
 | rest (p:QP):p.b=0→p.c=0→0≤m→Up m [p]
 | go (p q:QP) (r:List QP):p.f<q.f→0≤p.b→p.b≤m→0≤qs p q.f→qs p q.f≤m→qv p q.f=q.a→qs p q.f=q.b→Up m (q::r)→Up m (p::q::r)
theorem Vg(p:QP):qv p p.f=p.a:=by unfold qv;grind
theorem Up.range{m:Rat}{L:List QP}(h:Up m L)(t:Rat):Qp L≤Lk L t∧Lk L t≤Lv L∧Qp L≤Lv L:=by
 induction h with
 | rest p hb hc hm=>
  have:qv p t=p.a:=by unfold qv;rw[hb,hc];grind
  simp only[Qp,Lv,Lk]
  split<;>grind
 | go p q r hf h0 h1 h2 h3 h4 h5 h ih=>
  obtain⟨i1,i2,i3⟩:=ih;have hm:=Ni (p:=p) (x:=p.f) (y:=q.f) (z:=q.f) h0 h2 Rat.le_refl (Rat.le_of_lt hf) Rat.le_refl;rw[Vg,h4]at hm;simp only[Qp]at *;have e1:Lv (p::q::r)=Lv (q::r):=rfl;rw[e1]
  by_cases c:q.f≤t
  ·have:Lk (p::q::r) t=Lk (q::r) t:=by rw[Lk,if_pos c]
   grind
  ·by_cases d:p.f≤t
   ·have e:Lk (p::q::r) t=qv p t:=by rw[Lk,if_neg c,if_pos d]
    have a1:=Ni (p:=p) (x:=p.f) (y:=t) (z:=q.f) h0 h2 Rat.le_refl d (by grind);have a2:=Ni (p:=p) (x:=t) (y:=q.f) (z:=q.f) h0 h2 d (by grind) Rat.le_refl;rw[Vg]at a1
    grind
   ·have:Lk (p::q::r) t=p.a:=by rw[Lk,if_neg c,if_neg d]
    grind
theorem Up.mono{m:Rat}{L:List QP}(h:Up m L){x y:Rat}(xy:x≤y):Lk L x≤Lk L y:=by
 induction h with
 | rest p hb hc hm=>
  have:∀t,qv p t=p.a:=fun t=>by unfold qv;rw[hb,hc];grind
  simp only[Lk]
  split<;>split<;>grind
 | go p q r hf h0 h1 h2 h3 h4 h5 h ih=>
  by_cases cx:q.f≤x
  ·rw[Lk,if_pos cx,Lk,if_pos (Rat.le_trans cx xy)];exact ih
  ·by_cases cy:q.f≤y
   ·have e:Lk (p::q::r) y=Lk (q::r) y:=by rw[Lk,if_pos cy]
    have r1:=(h.range y).1;simp only[Qp]at r1
    by_cases d:p.f≤x
    ·have e2:Lk (p::q::r) x=qv p x:=by rw[Lk,if_neg cx,if_pos d]
     have a2:=Ni (p:=p) (x:=x) (y:=q.f) (z:=q.f) h0 h2 d (by grind) Rat.le_refl
     grind
    ·have e2:Lk (p::q::r) x=p.a:=by rw[Lk,if_neg cx,if_neg d]
     have hm:=Ni (p:=p) (x:=p.f) (y:=q.f) (z:=q.f) h0 h2 Rat.le_refl (Rat.le_of_lt hf) Rat.le_refl;rw[Vg,h4]at hm
     grind
   ·by_cases d:p.f≤x
    ·have e2:Lk (p::q::r) x=qv p x:=by rw[Lk,if_neg cx,if_pos d]
     have e3:Lk (p::q::r) y=qv p y:=by rw[Lk,if_neg cy,if_pos (Rat.le_trans d xy)]
     rw[e2,e3];exact Ni (p:=p) (z:=q.f) h0 h2 d xy (by grind)
    ·have e2:Lk (p::q::r) x=p.a:=by rw[Lk,if_neg cx,if_neg d]
     by_cases d':p.f≤y
     ·have e3:Lk (p::q::r) y=qv p y:=by rw[Lk,if_neg cy,if_pos d']
      have a1:=Ni (p:=p) (x:=p.f) (y:=y) (z:=q.f) h0 h2 Rat.le_refl d' (by grind);rw[Vg]at a1
      grind
     ·have e3:Lk (p::q::r) y=p.a:=by rw[Lk,if_neg cy,if_neg d']
      grind
theorem Up.slope{m:Rat}{L:List QP}(h:Up m L)(t:Rat):0≤slL L t∧slL L t≤m:=by
 induction h with
 | rest p hb hc hm=>
  have:qs p t=0:=by unfold qs;rw[hb,hc];grind
  simp only[slL]
  split<;>grind
 | go p q r hf h0 h1 h2 h3 h4 h5 h ih=>
  by_cases c:q.f≤t
  ·rw[slL,if_pos c];exact ih
  ·by_cases d:p.f≤t
   ·rw[slL,if_neg c,if_pos d]
    exact AGv h0 h1 h2 h3 d (by grind)
   ·rw[slL,if_neg c,if_neg d]
    grind
theorem Up.after{m:Rat}{L:List QP}(h:Up m L){t:Rat}(ht:Ou L≤t):Lk L t=Lv L:=by
 induction h with
 | rest p hb hc hm=>
  have:qv p t=p.a:=by unfold qv;rw[hb,hc];grind
  simp only[Lv,Lk]
  split<;>grind
 | go p q r hf h0 h1 h2 h3 h4 h5 h ih=>
  have e:Ou (p::q::r)=Ou (q::r):=rfl;have e1:Lv (p::q::r)=Lv (q::r):=rfl
  have up:∀{L:List QP},Up m L→AMl L≤Ou L:=fun {L} h=>by
   induction h with
   | rest p _ _ _=>exact Rat.le_refl
   | go p q r hf _ _ _ _ _ _ _ ih=>
    have e:Ou (p::q::r)=Ou (q::r):=rfl;rw[e];simp only[AMl]at *
    grind
  have:=up h;simp only[AMl]at this;rw[e]at ht;rw[e1,Lk,if_pos (Rat.le_trans this ht)];exact ih ht
def qp(p:Pc):QP:=⟨fr (p.f0,p.f1),fr (p.a0,p.a1),fr (p.b0,p.b1),fr (p.c0,p.c1)⟩
def qL(L:List Pc):List QP:=L.map qp
theorem Lz(L:List Pc):(qL L).length=L.length:=by simp[qL]
theorem Ok(L:List Pc)(i:Nat)(h:i<(qL L).length):(qL L)[i]=qp (Al L i):=by
 have h':i<L.length:=by rwa [Lz]at h
 have e:Al L i=L[i]:=by unfold Al;simp[h']
 rw[e]
 simp[qL]
theorem Oz.vf{p:Pc}(h:Oz p):vF (p.f0,p.f1)=true:=h.f
theorem Oz.va{p:Pc}(h:Oz p):vF (p.a0,p.a1)=true:=h.a
theorem Oz.vb{p:Pc}(h:Oz p):vF (p.b0,p.b1)=true:=h.b
theorem Oz.vc{p:Pc}(h:Oz p):vF (p.c0,p.c1)=true:=h.c
def Asc(L:List QP):Prop:=∀i (h:i+1<L.length),L[i].f<L[i+1].f
theorem Asc.tail{p:QP}{L:List QP}(h:Asc (p::L)):Asc L:=fun i hi=>h (i+1) (by simp only[List.length_cons];omega)
theorem Asc.head{p:QP}{L:List QP}(h:Asc (p::L)):∀k (hk:k<L.length),p.f<L[k].f:=by
 intro k
 induction k with
 | zero=>intro hk;exact h 0 (by simp only[List.length_cons];omega)
 | succ k ih=>
  intro hk;have a:=ih (by omega);have b:=h.tail k hk
  grind
theorem AOp:∀(L:List QP) (k:Nat) (hk:k<L.length) (t:Rat),Asc L→L[k].f≤t→(∀j (hj:j<L.length),k<j→t<L[j].f)→Lk L t=qv L[k] t∧slL L t=qs L[k] t
 | [p],0,_,t,_,h,_=>by
  simp only[List.getElem_cons_zero]at h⊢;rw[Lk,if_pos h,slL,if_pos h];exact⟨rfl,rfl⟩
 | p::q::r,0,_,t,_,h,g=>by
  have g1:=g 1 (by simp) (by omega);simp only[List.getElem_cons_zero,List.getElem_cons_succ]at h g1⊢;have n:¬q.f≤t:=Rat.not_le.2 g1;rw[Lk,if_neg n,if_pos h,slL,if_neg n,if_pos h];exact⟨rfl,rfl⟩
 | p::q::r,k+1,hk,t,a,h,g=>by
  have hk':k<(q::r).length:=by simp only[List.length_cons]at hk⊢;omega
  have h':(q::r)[k].f≤t:=h
  have c:q.f≤t:=by
   rcases Nat.eq_zero_or_pos k with z | z
   ·subst z;exact h'
   ·obtain⟨k,rfl⟩:∃m,k=m+1:=⟨k-1,by omega⟩
    have kr:k<r.length:=by simp only[List.length_cons]at hk';omega
    have:=a.tail.head k kr;have e:(q::r)[k+1].f=(r[k]'kr).f:=rfl
    grind
  rw[Lk,if_pos c,slL,if_pos c];exact AOp (q::r) k hk' t a.tail h' (fun j hj kj=>g (j+1) (by simp only[List.length_cons]at hj⊢;omega) (by omega))
theorem AGj(L:List QP)(t:Rat)(h0:0<L.length)(a:Asc L)(h:t<L[0].f):Lk L t=Qp L∧slL L t=0:=by
 match L,h0,a,h with
 | [p],_,_,h=>
  simp only[List.getElem_cons_zero]at h;have n:=Rat.not_le.2 h;simp only[Lk,slL,Qp,if_neg n];exact⟨trivial,trivial⟩
 | p::q::r,_,a,h=>
  simp only[List.getElem_cons_zero]at h;have b:=a 0 (by simp);simp only[List.getElem_cons_zero,List.getElem_cons_succ]at b;have n:=Rat.not_le.2 h;have n2:=Rat.not_le.2 (show t<q.f by grind);simp only[Lk,slL,Qp,if_neg n,if_neg n2];exact⟨trivial,trivial⟩
theorem Fg.asc'{L:List Pc}(ok:Fg L):Asc (qL L):=fun i h=>by
 have h':i+1<L.length:=by rwa [Lz]at h
 rw[Ok,Ok];exact(ABd (a:=((Al L i).f0,(Al L i).f1)) (b:=((Al L (i+1)).f0,(Al L (i+1)).f1)) (Bp (ok.val i (by omega)).vf) (Bp (ok.val (i+1) h').vf)).2 (ok.asc i h')
theorem ABw(L:List Pc)(t:Int×Int)(k:Nat):(∀j,j<k→Dk L t k<(j:Int)→¬(Al L j).f0*t.2≤t.1*(Al L j).f1)∧(0≤Dk L t k→(Al L (Dk L t k).toNat).f0*t.2≤t.1*(Al L (Dk L t k).toNat).f1):=by
 induction k with
 | zero=>exact⟨fun j h=>absurd h (by omega),fun h=>by unfold Dk at h;omega⟩
 | succ k ih=>
  unfold Dk
  split
  next h=>exact⟨fun j h1 h2=>absurd h1 (by omega),fun _=>by simpa using h⟩
  next h=>
   refine⟨fun j h1 h2=>?_,ih.2⟩;rcases Nat.lt_or_eq_of_le (Nat.le_of_lt_succ h1)with l | l
   ·exact ih.1 j l h2
   ·subst l;exact h
theorem ABs{v:(Int×Int)×Int}(h:(AAk v).2.2=0):v.2=0∧((AAk v).1,(AAk v).2.1)=v.1:=by
 have z:v.2=0:=h;refine⟨z,?_⟩;unfold AAk;rw[if_pos z,if_pos z]
theorem APp{L:List Pc}(ok:Fg L){t:Int×Int}(vt:vF t=true){i:Nat}(hi:i<L.length)(h:(Xt L t i).2.2=0):fr ((Xt L t i).1,(Xt L t i).2.1)=qv (qp (Al L i)) (fr t):=by
 obtain⟨z,e⟩:=ABs h;have v:=ok.val i hi;unfold Xt;rw[e];obtain⟨z1,e1⟩:=ASd v.va v.vb v.vc (Le vt v.vf) z;obtain⟨_,e2⟩:=AIi (Bp vt) (Bp v.vf) z1;rw[e1,e2]
 rfl
theorem AFf{L:List Pc}(ok:Fg L){t:Int×Int}(vt:vF t=true){i:Nat}(hi:i<L.length)(h:(Rx L t i).2.2=0):fr ((Rx L t i).1,(Rx L t i).2.1)=qs (qp (Al L i)) (fr t):=by
 obtain⟨z,e⟩:=ABs h;have v:=ok.val i hi;unfold Rx;rw[e];obtain⟨z1,e1⟩:=AJq v.vb v.vc (Le vt v.vf) z;obtain⟨_,e2⟩:=AIi (Bp vt) (Bp v.vf) z1;rw[e1,e2]
 rfl
theorem ABz{L:List Pc}(h:1≤L.length):Qp (qL L)=fr ((Al L 0).a0,(Al L 0).a1):=by
 cases L with
 | nil=>simp at h
 | cons p r=>rfl
theorem Lx{L:List Pc}(ok:Fg L){t:Int×Int}(vt:vF t=true):
  (Dk L t L.length<0∧Lk (qL L) (fr t)=fr ((Al L 0).a0,(Al L 0).a1)∧slL (qL L) (fr t)=0)∨
  (¬Dk L t L.length<0∧(Dk L t L.length).toNat<L.length∧Lk (qL L) (fr t)=qv (qp (Al L (Dk L t L.length).toNat)) (fr t)∧slL (qL L) (fr t)=qs (qp (Al L (Dk L t L.length).toNat)) (fr t)):=by
 obtain⟨s1,s2⟩:=ABw L t L.length;obtain⟨r1,r2⟩:=Sr L t L.length;have hp:=ok.pos
 by_cases c:Dk L t L.length<0
 ·left
  have h0:=s1 0 (by omega) (by simpa using c)
  have h1:fr t<((qL L)[0]'(by rw[Lz];omega)).f:=by
   rw[Ok];exact(ABd (a:=t) (b:=((Al L 0).f0,(Al L 0).f1)) (Bp vt) (Bp (ok.val 0 (by omega)).vf)).2 (by show t.1*(Al L 0).f1<(Al L 0).f0*t.2;omega)
  obtain⟨a,b⟩:=AGj (qL L) (fr t) (by rw[Lz];omega) ok.asc' h1;exact⟨c,by rw[a,ABz hp],b⟩
 ·right
  obtain⟨k,hk⟩:=nm ((Dk L t L.length).toNat:Nat);have hkl:k<L.length:=by omega
  have s2':=s2 (by omega);rw[hk]at s2'⊢;have vk:=(ok.val k hkl).vf
  have a1:((qL L)[k]'(by rw[Lz];exact hkl)).f≤fr t:=by
   rw[Ok];exact(Ky (a:=((Al L k).f0,(Al L k).f1)) (b:=t) (Bp vk) (Bp vt)).2 s2'
  have a2:∀j (hj:j<(qL L).length),k<j→fr t<(qL L)[j].f:=fun j hj kj=>by
   rw[Ok];have hj':j<L.length:=by rwa [Lz]at hj
   have:=s1 j hj' (by omega);exact(ABd (a:=t) (b:=((Al L j).f0,(Al L j).f1)) (Bp vt) (Bp (ok.val j hj').vf)).2 (by show t.1*(Al L j).f1<(Al L j).f0*t.2;omega)
  obtain⟨x,y⟩:=AOp (qL L) k (by rw[Lz];exact hkl) (fr t) ok.asc' a1 a2;rw[Ok]at x y;exact⟨c,hkl,x,y⟩
theorem AOq{L:List Pc}(ok:Fg L){t:Int×Int}(vt:vF t=true)(h:(Tl L t).2.2=0):fr ((Tl L t).1,(Tl L t).2.1)=Lk (qL L) (fr t):=by
 unfold Tl at h⊢;rw[if_pos vt]at h⊢;rcases Lx ok vt with ⟨c,e,_⟩ | ⟨c,hk,e,_⟩
 ·rw[if_pos c,e]
 ·rw[if_neg c]at h⊢
  rw[e];exact APp ok vt hk h
theorem AKt{L:List Pc}(ok:Fg L){t:Int×Int}(vt:vF t=true)(h:(Ip L t).2.2=0):fr ((Ip L t).1,(Ip L t).2.1)=slL (qL L) (fr t):=by
 unfold Ip at h⊢;rw[if_pos vt]at h⊢;rcases Lx ok vt with ⟨c,_,e⟩ | ⟨c,hk,_,e⟩
 ·rw[if_pos c,e,←Mn]
 ·rw[if_neg c]at h⊢
  rw[e];exact AFf ok vt hk h
theorem Wi{v:(Int×Int)×Int}(h:(AAk v).2.2=0)(hv:vF v.1=true):vF ((AAk v).1,(AAk v).2.1)=true:=by
 rw[(ABs h).2];exact hv
theorem Zu{L:List Pc}(ok:Fg L){t:Int×Int}(vt:vF t=true)(h:(Tl L t).2.2=0):vF ((Tl L t).1,(Tl L t).2.1)=true:=by
 unfold Tl at h⊢;rw[if_pos vt]at h⊢;rcases Lx ok vt with ⟨c,_,_⟩ | ⟨c,hk,_,_⟩
 ·rw[if_pos c];exact(ok.val 0 (by have:=ok.pos;omega)).va
 ·rw[if_neg c]at h⊢
  have v:=ok.val _ hk;exact Wi h (AGh v.va v.vb v.vc (Le vt v.vf))
theorem ABq{L:List Pc}(ok:Fg L){t:Int×Int}(vt:vF t=true)(h:(Ip L t).2.2=0):vF ((Ip L t).1,(Ip L t).2.1)=true:=by
 unfold Ip at h⊢;rw[if_pos vt]at h⊢;rcases Lx ok vt with ⟨c,_,_⟩ | ⟨c,hk,_,_⟩
 ·rw[if_pos c];exact AAo
 ·rw[if_neg c]at h⊢
  have v:=ok.val _ hk;exact Wi h (AAm v.vb v.vc (Le vt v.vf))
theorem AHb{a b c:Rat}(ha:a≠0)(hb:b≠0)(hc:c≠0):a*b*c≠0:=by
 intro h;rcases Rat.mul_eq_zero.1 h with h | h
 ·rcases Rat.mul_eq_zero.1 h with h | h
  ·exact ha h
  ·exact hb h
 ·exact hc h
theorem Lq{a b:Rat}(ha:0<a)(hb:0<b):0<a/b:=by
 rw[Rat.div_def];exact Rat.mul_pos ha (Rat.inv_pos.2 hb)
def APu(d R F t k:Rat):List QP:=
 [⟨0,0,0,R/2⟩,⟨t/R,t*t/(2*R),t,0⟩,⟨(2*F*(t*t)+k)/(2*R*F*t),(2*F*d-t*t)/(2*F),t,-F/2⟩,⟨(2*F*(t*t)+k+2*R*(t*t))/(2*R*F*t),d,0,0⟩]
def AOe(d R F t k:Rat):List QP:=
 [⟨0,0,0,R/2⟩,⟨(2*F*(t*t)+k)/(2*R*F*t),(2*F*d-t*t)/(2*F),t,-F/2⟩,⟨(2*F*(t*t)+k+2*R*(t*t))/(2*R*F*t),d,0,0⟩]
theorem AVj{R F t k:Rat}(hR:0<R)(hF:0<F)(ht:0<t):(2*F*(t*t)+k)/(2*R*F*t)=t/R+k/(2*R*F*t):=by
 have h1:R≠0:=by grind
 have h2:F≠0:=by grind
 have h3:t≠0:=by grind
 have h4:2*R≠0:=by grind
 have h6:2*R*F*t≠0:=AHb h4 h2 h3
 grind
theorem AVy{R F t k:Rat}(hR:0<R)(hF:0<F)(ht:0<t):(2*F*(t*t)+k+2*R*(t*t))/(2*R*F*t)=(2*F*(t*t)+k)/(2*R*F*t)+t/F:=by
 have h1:R≠0:=by grind
 have h2:F≠0:=by grind
 have h3:t≠0:=by grind
 have h4:2*R≠0:=by grind
 have h6:2*R*F*t≠0:=AHb h4 h2 h3
 grind
theorem AVl{R F t d k:Rat}(hR:0<R)(hF:0<F)(ht:0<t)(hk:k=2*R*F*d-t*t*(R+F)):t*t/(2*R)+t*(k/(2*R*F*t))=(2*F*d-t*t)/(2*F):=by
 have h1:R≠0:=by grind
 have h2:F≠0:=by grind
 have h3:t≠0:=by grind
 have h4:2*R≠0:=by grind
 have h5:2*F≠0:=by grind
 have h6:2*R*F*t≠0:=AHb h4 h2 h3
 grind
theorem AVw{F t d:Rat}(hF:0<F):(2*F*d-t*t)/(2*F)+(t+(-F/2)*(t/F))*(t/F)=d∧t+2*(-F/2*(t/F))=0:=by
 have h1:F≠0:=by grind
 grind
theorem AUu{R t:Rat}(hR:0<R):0+(0+R/2*(t/R-0))*(t/R-0)=t*t/(2*R)∧0+2*(R/2*(t/R-0))=t:=by
 have h1:R≠0:=by grind
 grind
theorem AIv{R F t d k:Rat}(hR:0<R)(hF:0<F)(ht:0<t):Up t [⟨(2*F*(t*t)+k)/(2*R*F*t),(2*F*d-t*t)/(2*F),t,-F/2⟩,⟨(2*F*(t*t)+k+2*R*(t*t))/(2*R*F*t),d,0,0⟩]:=by
 have h1:=AVy (k:=k) hR hF ht;have h2:=Lq ht hF;obtain⟨d1,d2⟩:=AVw (t:=t) (d:=d) hF;have e:(2*F*(t*t)+k+2*R*(t*t))/(2*R*F*t)-(2*F*(t*t)+k)/(2*R*F*t)=t/F:=by grind
 refine Up.go _ _ _ ?_ (Rat.le_of_lt ht) Rat.le_refl ?_ ?_ ?_ ?_ (Up.rest _ rfl rfl (Rat.le_of_lt ht))
 ·show(2*F*(t*t)+k)/(2*R*F*t)<(2*F*(t*t)+k+2*R*(t*t))/(2*R*F*t)
  grind
 ·show 0≤t+2*(-F/2*((2*F*(t*t)+k+2*R*(t*t))/(2*R*F*t)-(2*F*(t*t)+k)/(2*R*F*t)))
  rw[e,d2];exact Rat.le_refl
 ·show t+2*(-F/2*((2*F*(t*t)+k+2*R*(t*t))/(2*R*F*t)-(2*F*(t*t)+k)/(2*R*F*t)))≤t
  rw[e,d2];exact Rat.le_of_lt ht
 ·show(2*F*d-t*t)/(2*F)+(t+-F/2*((2*F*(t*t)+k+2*R*(t*t))/(2*R*F*t)-(2*F*(t*t)+k)/(2*R*F*t)))*((2*F*(t*t)+k+2*R*(t*t))/(2*R*F*t)-(2*F*(t*t)+k)/(2*R*F*t))=d
  rw[e,d1]
 ·show t+2*(-F/2*((2*F*(t*t)+k+2*R*(t*t))/(2*R*F*t)-(2*F*(t*t)+k)/(2*R*F*t)))=0
  rw[e,d2]
theorem AOz{R F t d k:Rat}(hR:0<R)(hF:0<F)(ht:0<t)(hk:k=2*R*F*d-t*t*(R+F))(k0:0<k):Up t (APu d R F t k):=by
 have h2:=Lq ht hR;have tle:=Rat.le_of_lt ht;obtain⟨e1,e2⟩:=AUu (R:=R) (t:=t) hR;have ha:=AVj (k:=k) hR hF ht;have hc:=AVl hR hF ht hk;have hw:0<2*R*F*t:=Rat.mul_pos (Rat.mul_pos (by grind) hF) ht;have h3:=Lq k0 hw;have e:(2*F*(t*t)+k)/(2*R*F*t)-t/R=k/(2*R*F*t):=by grind
 refine Up.go _ _ _ h2 Rat.le_refl tle ?_ ?_ e1 e2 (Up.go _ _ _ ?_ tle Rat.le_refl ?_ ?_ ?_ ?_ (AIv hR hF ht))
 ·show 0≤0+2*(R/2*(t/R-0))
  rw[e2];exact tle
 ·show 0+2*(R/2*(t/R-0))≤t
  rw[e2];exact Rat.le_refl
 ·show t/R<(2*F*(t*t)+k)/(2*R*F*t)
  grind
 ·show 0≤t+2*(0*((2*F*(t*t)+k)/(2*R*F*t)-t/R))
  grind
 ·show t+2*(0*((2*F*(t*t)+k)/(2*R*F*t)-t/R))≤t
  grind
 ·show t*t/(2*R)+(t+0*((2*F*(t*t)+k)/(2*R*F*t)-t/R))*((2*F*(t*t)+k)/(2*R*F*t)-t/R)=(2*F*d-t*t)/(2*F)
  rw[e,←hc];grind
 ·show t+2*(0*((2*F*(t*t)+k)/(2*R*F*t)-t/R))=t
  grind
theorem ANx{R F t d k:Rat}(hR:0<R)(hF:0<F)(ht:0<t)(hk:k=2*R*F*d-t*t*(R+F))(k0:k=0):Up t (AOe d R F t k):=by
 have h2:=Lq ht hR;have tle:=Rat.le_of_lt ht;obtain⟨e1,e2⟩:=AUu (R:=R) (t:=t) hR;have ha:=AVj (k:=k) hR hF ht;have hc:=AVl hR hF ht hk;have z:k/(2*R*F*t)=0:=by rw[k0,Rat.div_def,Rat.zero_mul]
 rw[z]at ha hc;have e:(2*F*(t*t)+k)/(2*R*F*t)=t/R:=by grind
 refine Up.go _ _ _ ?_ Rat.le_refl tle ?_ ?_ ?_ ?_ (AIv hR hF ht)
 ·show 0<(2*F*(t*t)+k)/(2*R*F*t)
  rw[e];exact h2
 ·show 0≤0+2*(R/2*((2*F*(t*t)+k)/(2*R*F*t)-0))
  rw[e,e2];exact tle
 ·show 0+2*(R/2*((2*F*(t*t)+k)/(2*R*F*t)-0))≤t
  rw[e,e2];exact Rat.le_refl
 ·show 0+(0+R/2*((2*F*(t*t)+k)/(2*R*F*t)-0))*((2*F*(t*t)+k)/(2*R*F*t)-0)=(2*F*d-t*t)/(2*F)
  rw[e,e1,←hc];grind
 ·show 0+2*(R/2*((2*F*(t*t)+k)/(2*R*F*t)-0))=t
  rw[e,e2]
theorem ANn{d R F t:Int}(hd:¬d=0)(hR:1≤R)(hF:1≤F)(ht:1≤t):qL (Dg d R F t)=if kP d R F t=0 then AOe d R F t (kP d R F t:Int)else APu d R F t (kP d R F t:Int):=by
 have w0:0<2*R*F*t:=Int.mul_pos (Int.mul_pos (by omega) (by omega)) (by omega);unfold Dg;rw[if_neg hd]
 split
 ·simp[qL,qp,AOe,Nl,Ji _ 2 (by decide),Ji _ (2*R*F*t) w0,Ji _ (2*F) (by omega)]
 ·simp[qL,qp,APu,Nl,Ji _ 2 (by decide),Ji _ (2*R*F*t) w0,Ji _ (2*F) (by omega),Ji _ (2*R) (by omega),Ji _ R (by omega)]
theorem ATd(L:List Pc)(i:Nat)(h:i<(qL L).length):((qL L)[i]).f=fr ((Al L i).f0,(Al L i).f1):=by rw[Ok];rfl
theorem Up.asc{m:Rat}{L:List QP}(h:Up m L):Asc L:=by
 induction h with
 | rest p _ _ _=>exact fun i h=>absurd h (by simp)
 | go p q r hf _ _ _ _ _ _ h ih=>
  intro i hi
  cases i with
  | zero=>exact hf
  | succ i=>exact ih i (by simp only[List.length_cons]at hi⊢;omega)
theorem Vt{L:List Pc}{m:Rat}(h1:1≤L.length)(h2:L.length≤200)(hv:∀i,i<L.length→Oz (Al L i))(up:Up m (qL L)):Fg L:=
 ⟨h1,h2,hv,fun i hi=>by
  have hi':i+1<(qL L).length:=by rw[Lz];exact hi
  have a:=up.asc i hi';rw[ATd,ATd]at a;exact(ABd (a:=((Al L i).f0,(Al L i).f1)) (b:=((Al L (i+1)).f0,(Al L (i+1)).f1)) (Bp (hv i (by omega)).vf) (Bp (hv (i+1) hi).vf)).1 a⟩
structure Rt(L:List Pc)(d t:Int):Prop where
 ok:Fg L
 up:Up (t:Rat) (qL L)
 f0:((Al L 0).f0,(Al L 0).f1)=(0,1)
 a0:((Al L 0).a0,(Al L 0).a1)=(0,1)
 b0:((Al L 0).b0,(Al L 0).b1)=(0,1)
 an:((Al L (L.length-1)).a0,(Al L (L.length-1)).a1)=(d,1)
 bn:((Al L (L.length-1)).b0,(Al L (L.length-1)).b1)=(0,1)
 cn:((Al L (L.length-1)).c0,(Al L (L.length-1)).c1)=(0,1)
 len:L.length≤4
 t0:0≤t
theorem Uj{n:Int}(h1:-1152921504606846976≤n)(h2:n≤1152921504606846976):Cf n 1=true:=(Bj _ _).2 ⟨by decide,by decide,h1,h2,by simp⟩
theorem ANg{d:Int}{m:Mv}{t:Int}(hg:Ck d m=0)(ht:Hd d m.spd m.rise m.fall t):Rt (Dg d m.rise m.fall t) d t:=by
 obtain⟨hv,hd⟩:=Hk hg;obtain⟨V0,V1,R0,R1,F0,F1⟩:=Gb hv;obtain⟨d1,d2⟩:=Fj.1 hd;have tz:=ht.1;have o:=Uj (n:=0) (by decide) (by decide)
 by_cases hz:d=0
 ·have e:Dg d m.rise m.fall t=[⟨0,1,0,1,0,1,0,1⟩]:=by unfold Dg;rw[if_pos hz]
  rw[e];have up:Up (t:Rat) (qL [⟨0,1,0,1,0,1,0,1⟩]):=Up.rest _ Mn Mn (Rat.intCast_nonneg.2 tz)
  have hvv:∀i,i<[(⟨0,1,0,1,0,1,0,1⟩:Pc)].length→Oz (Al [⟨0,1,0,1,0,1,0,1⟩] i):=fun i hi=>by
   obtain rfl:i=0:=by simpa using hi
   exact⟨o,o,o,o⟩
  exact⟨Vt (by simp) (by simp) hvv up,up,rfl,rfl,rfl,by rw[hz];rfl,rfl,rfl,by simp,tz⟩
 ·have t0:=Pw (by omega) R0 F0 V0 ht
  have t1:t≤8192:=by have:=ht.2.1;omega
  obtain⟨T0,T1,k0,k1,rf0,rf1,w0,w1,a0,a1,b0,b1,c0,c1,e0,e1⟩:=AIs (by omega) d2 R0 R1 F0 F1 V0 V1 ht;have hQ:=ANn (d:=d) (R:=m.rise) (F:=m.fall) (t:=t) hz R0 F0 t0;have cR:=Mm (d:=m.rise) (by omega);have cF:=Mm (d:=m.fall) (by omega);have ct:=Mm (d:=t) (by omega)
  have hk:((kP d m.rise m.fall t:Int):Rat)=2*(m.rise:Rat)*(m.fall:Rat)*(d:Rat)-(t:Rat)*(t:Rat)*((m.rise:Rat)+(m.fall:Rat)):=by
   unfold kP;simp
  have vd:=Uj (n:=d) (by omega) (by omega);have vt:=Uj (n:=t) (by omega) (by omega);have p0:Oz ⟨0,1,0,1,0,1,Ay m.rise 2,Ar m.rise 2⟩:=⟨o,o,o,Ey (by decide) (by omega) (by omega) (by decide)⟩;have p1:Oz ⟨Ay t m.rise,Ar t m.rise,Ay (t*t) (2*m.rise),Ar (t*t) (2*m.rise),t,1,0,1⟩:=⟨Ey (by omega) (by omega) (by omega) (by omega),Ey (by omega) (by omega) (by omega) (by omega),vt,o⟩;have p2:Oz ⟨Ay (2*m.fall*(t*t)+kP d m.rise m.fall t) (2*m.rise*m.fall*t),Ar (2*m.fall*(t*t)+kP d m.rise m.fall t) (2*m.rise*m.fall*t),Ay (2*m.fall*d-t*t) (2*m.fall),Ar (2*m.fall*d-t*t) (2*m.fall),t,1,Ay (-m.fall) 2,Ar (-m.fall) 2⟩:=⟨Ey (by omega) (by omega) (by omega) (by omega),Ey (by omega) (by omega) (by omega) (by omega),vt,Ey (by decide) (by omega) (by omega) (by decide)⟩;have p3:Oz ⟨Ay (2*m.fall*(t*t)+kP d m.rise m.fall t+2*m.rise*(t*t)) (2*m.rise*m.fall*t),Ar (2*m.fall*(t*t)+kP d m.rise m.fall t+2*m.rise*(t*t)) (2*m.rise*m.fall*t),d,1,0,1,0,1⟩:=⟨Ey (by omega) (by omega) (by omega) (by omega),vd,o,o⟩
  by_cases kz:kP d m.rise m.fall t=0
  ·rw[if_pos kz]at hQ
   have up:Up (t:Rat) (qL (Dg d m.rise m.fall t)):=by rw[hQ];exact ANx cR cF ct hk (by rw[kz];rfl)
   unfold Dg at up⊢;rw[if_neg hz,if_pos kz]at up⊢;refine⟨Vt (by simp) (by simp) (fun i hi=>?_) up,up,rfl,rfl,rfl,rfl,rfl,rfl,by simp,tz⟩;have hi':i<3:=by simpa using hi
   obtain rfl | rfl | rfl:i=0∨i=1∨i=2:=by omega
   ·exact p0
   ·exact p2
   ·exact p3
  ·rw[if_neg kz]at hQ
   have up:Up (t:Rat) (qL (Dg d m.rise m.fall t)):=by rw[hQ];exact AOz cR cF ct hk (Rat.intCast_pos.2 (by omega))
   unfold Dg at up⊢;rw[if_neg hz,if_neg kz]at up⊢;refine⟨Vt (by simp) (by simp) (fun i hi=>?_) up,up,rfl,rfl,rfl,rfl,rfl,rfl,by simp,tz⟩;have hi':i<4:=by simpa using hi
   obtain rfl | rfl | rfl | rfl:i=0∨i=1∨i=2∨i=3:=by omega
   ·exact p0
   ·exact p1
   ·exact p2
   ·exact p3
theorem Rt.last{L:List Pc}{d t:Int}(h:Rt L d t):Lv (qL L)=(d:Rat)∧Ou (qL L)=fr ((Al L (L.length-1)).f0,(Al L (L.length-1)).f1):=by
 have g:∀(Q:List QP) (h:0<Q.length),Lv Q=(Q[Q.length-1]'(by omega)).a∧Ou Q=(Q[Q.length-1]'(by omega)).f:=by
  intro Q
  induction Q with
  | nil=>intro h;simp at h
  | cons p r ih=>
   intro _
   cases r with
   | nil=>exact⟨rfl,rfl⟩
   | cons q r=>
    obtain⟨a,b⟩:=ih (by simp);have e1:Lv (p::q::r)=Lv (q::r):=rfl;have e2:Ou (p::q::r)=Ou (q::r):=rfl;rw[e1,e2,a,b];exact⟨rfl,rfl⟩
 have hp:=h.ok.pos;obtain⟨a,b⟩:=g (qL L) (by rw[Lz];omega);rw[a,b];have hl:=Lz L
 constructor
 ·rw[Ok]
  have e:(qL L).length-1=L.length-1:=by omega
  rw[e,←Nl d,←h.an]
  rfl
 ·rw[ATd]
  have e:(qL L).length-1=L.length-1:=by omega
  rw[e]
theorem Rt.first{L:List Pc}{d t:Int}(h:Rt L d t):Qp (qL L)=0:=by
 rw[ABz h.ok.pos,h.a0,Mn]
theorem Rt.values{L:List Pc}{d t:Int}(h:Rt L d t){x y:Int×Int}(vx:vF x=true)(vy:vF y=true)(xy:fr x≤fr y)(hx:(Tl L x).2.2=0)(hy:(Tl L y).2.2=0):
  0≤(Tl L x).1∧(Tl L x).1*(Tl L y).2.1≤(Tl L y).1*(Tl L x).2.1∧(Tl L y).1*1≤d*(Tl L y).2.1:=by
 have ex:=AOq h.ok vx hx;have ey:=AOq h.ok vy hy;have wx:=Zu h.ok vx hx;have wy:=Zu h.ok vy hy;obtain⟨r1,r2,_⟩:=h.up.range (fr x);obtain⟨s1,s2,_⟩:=h.up.range (fr y);have mo:=h.up.mono xy;rw[←ex]at r1 mo;rw[←ey]at mo s2;rw[h.first]at r1;rw[h.last.1]at s2;refine⟨?_,?_,?_⟩
 ·rw[←Mn]at r1
  have:=(Ky (a:=(0,1)) (by decide) (Bp wx)).1 r1;have e:0*(Tl L x).2.1≤(Tl L x).1*1:=this;omega
 ·exact(Ky (Bp wx) (Bp wy)).1 mo
 ·rw[←Nl]at s2
  exact(Ky (b:=(d,1)) (Bp wy) (by show(0:Int)<1;decide)).1 s2
theorem Rt.slope{L:List Pc}{d t:Int}(h:Rt L d t){x:Int×Int}(vx:vF x=true)(hx:(Ip L x).2.2=0):0≤(Ip L x).1∧(Ip L x).1*1≤t*(Ip L x).2.1:=by
 have ex:=AKt h.ok vx hx;have wx:=ABq h.ok vx hx;obtain⟨r1,r2⟩:=h.up.slope (fr x);rw[←ex]at r1 r2
 constructor
 ·rw[←Mn]at r1
  have:=(Ky (a:=(0,1)) (by decide) (Bp wx)).1 r1;have e:0*(Ip L x).2.1≤(Ip L x).1*1:=this;omega
 ·rw[←Nl]at r2
  exact(Ky (b:=(t,1)) (Bp wx) (by show(0:Int)<1;decide)).1 r2
end
section
open Go.RowKit Go.Shelf
theorem AQo{M:List Mv}{s:ByteArray}(h:mvB M s=true):∃i,i<M.length∧Oo M s=mg M i:=by
 rcases Jy M (fun y=>decide (y.name=s))with ⟨e,_⟩ | ⟨i,hi,e,_,_⟩
 ·rw[(ASx (M:=M) (s:=s) e).1]at h
  cases h
 ·exact⟨i,hi,(AOs (M:=M) (s:=s) e).2⟩
theorem ATs{h:Ae}{s:Aq}{k n:Nat}{nme:ByteArray}{m:Mv}{z:Int}(hok:Hv h s)(hk:k<h.sets.length)(hn:n<s.cues.length)(hb:mvB (cg s.cues n).moves nme=true)(hm:Oo (cg s.cues n).moves nme=m)(hz:ig (Ez h s.cues n) k=z):
  0≤z∧z≤1048576∧0≤m.to∧m.to≤1048576∧Ck (if z≤m.to then m.to-z else z-m.to) m=0:=by
 obtain⟨i,hi,e⟩:=AQo hb;rw[e]at hm;have hr:=(hok.each n hn).1;have ht:=Ro hok.house (fun j hj=>(hok.each j hj).1) n (by omega);have hmo:=hr.2 i hi;have w:=Lp hok.house ht hmo;have t1:=ht.2 k (by have:=ht.1;omega);have lo:=(Qb hok.house hk).1.low;rw[hz]at t1;rw[hm]at w;have zz:0≤z∧z≤1048576:=by omega
 refine⟨zz.1,zz.2,w.1,w.2.1,?_⟩;unfold Ck;rw[if_pos (by rw[←hm];exact hmo.1),if_pos (Fj.2 ?_)]
 split<;>omega
theorem AVz{h:Ae}{s:Aq}{k n:Nat}{z:Int}(hok:Hv h s)(hk:k<h.sets.length)(hn:n<s.cues.length)(hz:ig (Ez h s.cues n) k=z):0≤z∧z≤1048576:=by
 have ht:=Ro hok.house (fun j hj=>(hok.each j hj).1) n (by omega);have t1:=ht.2 k (by have:=ht.1;omega);have lo:=(Qb hok.house hk).1.low;rw[hz]at t1;omega
theorem ALu{d:Int}{m:Mv}{W:List Pc}(hg:Ck d m=0)(hW:Dg d m.rise m.fall (Lb d m)=W)(w:World):
  Calls Tryz.prog 80 #[.int .i64 d,.agg #[.string m.name,.int .i64 m.to,.int .i64 m.spd,.int .i64 m.rise,.int .i64 m.fall]] w fun e w'=>(∃cb cc:Nat,e=.returned (.tuple #[.slice (some ⟨cb,0,none⟩) W.length cc,.int .i64 0])∧w.heap.size≤cb∧cb<w'.heap.size∧W.length≤cc∧Hid (Yi w'.heap.size w' (some ⟨cb,0,none⟩) W))∧Below w.heap.size w w':=by
 have hL:1≤W.length:=by rw[←hW];exact(ANg hg (Re hg)).ok.pos
 refine(Zp d m (Lb d m) (fun g=>Re g) w).mono ?_;rintro e w' ⟨HV,hb⟩;refine⟨?_,hb⟩;obtain⟨v,rfl,h1,h2⟩:=HV.out;have hr:=h1 hg;rw[hW]at hr;obtain⟨a,c,rfl,hc,_,_,hp⟩:=Ia hr;obtain⟨g,rfl,hb1,hb2⟩:=Ws hr (by omega);exact⟨g,c,by rw[hg],hb1,hb2,hc,lh hp⟩
theorem AMa{d:Int}{m:Mv}{W:List Pc}(hg:Ck d m=0)(hW:Dg d m.rise m.fall (Lb d m)=W){j:Nat}(hj:j<W.length):Oz (Al W j):=by
 subst hW;exact(ANg hg (Re hg)).ok.val j hj
theorem ATa{n d:Int}(h:Cf n d=true):-1152921504606846976≤n∧n≤1152921504606846976:=by
 obtain⟨_,_,a,b,_⟩:=(Bj _ _).1 h;exact⟨by omega,by omega⟩
structure Pe(W w:World)(r:Nat)(v:Value):Prop where
 grown:W.grownBy w (some r)
 lies:v.ownBlock=some r∨∃g,v.ownBlock=some g∧W.heap.size≤g
theorem Pe.start{W:World}{r:Nat}{v:Value}(h:v.ownBlock=some r):Pe W W r v:=⟨World.grownBy.refl _ _,.inl h⟩
theorem Pe.below{W w w':World}{r:Nat}{v:Value}(h:Pe W w r v)(z:Below w.heap.size w w'):Pe W w' r v:=
 ⟨⟨z.os.trans h.grown.os,z.tape.trans h.grown.tape,z.output.trans h.grown.output,nt h.grown.size z.size,fun k hk hne=>(z.block k (Nat.lt_of_lt_of_le hk h.grown.size)).trans (h.grown.block k hk hne)⟩,h.lies⟩
theorem Pe.step{W w w':World}{r:Nat}{v v':Value}(h:Pe W w r v)(g:w.grownBy w' v.ownBlock)(e:v'.ownBlock=v.ownBlock∨v'.ownBlock=some w.heap.size):Pe W w' r v':=by
 refine⟨⟨g.os.trans h.grown.os,g.tape.trans h.grown.tape,g.output.trans h.grown.output,nt h.grown.size g.size,fun k hk hne=>?_⟩,?_⟩
 ·refine(g.block k (Nat.lt_of_lt_of_le hk h.grown.size) (fun e2=>?_)).trans (h.grown.block k hk hne)
  rcases h.lies with l | ⟨j,l,lj⟩
  ·exact hne (e2.trans l)
  ·rw[l]at e2;cases e2;omega
 ·rcases e with e | e
  ·rw[e];exact h.lies
  ·exact .inr ⟨_,e,h.grown.size⟩
theorem Pe.cell{W w:World}{r:Nat}{v:Value}(h:Pe W w r v){p:Addr}(hp:p.block<W.heap.size)(hr:p.block≠r):w.cell? p=W.cell? p:=
 h.grown.cell_far p hp (fun e=>hr (by cases e;rfl))
theorem Pe.under{W0 W w:World}{r n:Nat}{v:Value}(h:Pe W w r v)(hb:Below n W0 W)(hn:n≤W.heap.size)(hr:n≤r):Below n W0 w:=
 hb.grown h.grown hn (fun k e=>by cases e;exact hr)
theorem Pe.pcs{W w:World}{r cb n:Nat}{v:Value}{L:List Pc}(h:Pe W w r v)(hc:cb<W.heap.size)(hr:cb≠r)(hp:Yi n W (some ⟨cb,0,none⟩) L){j:Nat}(hj:j<L.length):
  w.cell? ⟨cb,j*8,none⟩=some (.int .i64 (Al L j).f0)∧w.cell? ⟨cb,j*8+1,none⟩=some (.int .i64 (Al L j).f1)∧w.cell? ⟨cb,j*8+2,none⟩=some (.int .i64 (Al L j).a0)∧w.cell? ⟨cb,j*8+3,none⟩=some (.int .i64 (Al L j).a1)∧w.cell? ⟨cb,j*8+4,none⟩=some (.int .i64 (Al L j).b0)∧w.cell? ⟨cb,j*8+5,none⟩=some (.int .i64 (Al L j).b1)∧w.cell? ⟨cb,j*8+6,none⟩=some (.int .i64 (Al L j).c0)∧w.cell? ⟨cb,j*8+7,none⟩=some (.int .i64 (Al L j).c1):=by
 obtain⟨b,o,e,_,hcc⟩:=hp (by omega)
 cases e
 obtain⟨c0,c1,c2,c3,c4,c5,c6,c7⟩:=hcc j hj;simp only[Nat.zero_add]at c0 c1 c2 c3 c4 c5 c6 c7;exact⟨(h.cell (p:=⟨cb,_,none⟩) hc hr).trans c0,(h.cell (p:=⟨cb,_,none⟩) hc hr).trans c1,(h.cell (p:=⟨cb,_,none⟩) hc hr).trans c2,(h.cell (p:=⟨cb,_,none⟩) hc hr).trans c3,(h.cell (p:=⟨cb,_,none⟩) hc hr).trans c4,(h.cell (p:=⟨cb,_,none⟩) hc hr).trans c5,(h.cell (p:=⟨cb,_,none⟩) hc hr).trans c6,(h.cell (p:=⟨cb,_,none⟩) hc hr).trans c7⟩
theorem AIf(q:Pc){w:World}{b:Nat}{p:Pc}(z:PB w b p):PB (Ak w b 0 [.int .i64 q.f0,.int .i64 q.f1,.int .i64 q.a0,.int .i64 q.a1,.int .i64 q.b0,.int .i64 q.b1,.int .i64 q.c0,.int .i64 q.c1]) b q:=by
 obtain⟨c0,c1,c2,c3,c4,c5,c6,c7⟩:=Qc q z;exact⟨c0,c1,c2,c3,c4,c5,c6,c7,fun i=>by simpa[Ak]using z.free i⟩
theorem ADc{out:List Pc}{n:Nat}(h:out.length=n+1):AIa out=Al out n:=by unfold AIa;rw[h];rfl
theorem AQb{out:List Pc}{n:Nat}{y:Pc}(h:out.length=n+1)(e:(Al out n).f0=y.f0∧(Al out n).f1=y.f1):Rb out y=out.set n y:=by unfold Rb;rw[ADc h,if_pos e,h];rfl
theorem APx{out:List Pc}{n:Nat}{y:Pc}(h:out.length=n+1)(e:¬((Al out n).f0=y.f0∧(Al out n).f1=y.f1)):Rb out y=out++[y]:=by unfold Rb;rw[ADc h,if_neg e]
theorem AAa{w:World}{g:Nat}:∀(vs:List Value) (W:World) (j:Nat),w.grownBy W (some g)→w.grownBy (Ak W g j vs) (some g)
 | [],_,_,h=>h
 | v::vs,W,j,h=>AAa vs _ (j+1) ⟨h.os,h.tape,h.output,by simpa[World.setCell]using h.size,fun k hk hne=>(RowKit.Below.heap_setCell W ⟨g,j,none⟩ v k (fun e=>hne (by rw[e]))).trans (h.block k hk hne)⟩
theorem AOy:Tryz.prog.underlying 49=some (.struct (Tryz.prog.fieldsOf 49)):=by
 unfold Program.fieldsOf;rw[Tryz.underlying49]
theorem ALv:Tryz.prog.stoodInHeld 49=false:=by kernel_rfl
theorem AFb:Tryz.prog.eqGuardType Tryz.prog.depth 49=false:=by kernel_rfl
theorem ANp(w:World)(a b c d:Int):(binOp .eql 49 (.agg #[.int .i64 a,.int .i64 b]) (.agg #[.int .i64 c,.int .i64 d])).run Tryz.prog w=.ok (.bool ((a==c)&&(b==d))) w:=by
 rw[run_eql_struct,show(10000:Nat)=9998+1+1 from rfl,run_equalIn_agg _ _ _ _ _ AOy ALv];unfold Program.fieldsOf;rw[Tryz.underlying49];cases h:a==c
 ·go_simp
 ·go_simp
  by_cases e:b=d
  ·simp[e]
  ·simp[e]
theorem ANz(w:World)(x y:Operand)(xs ys:Array Value):(eqGuard .eql 49 x y (.agg xs) (.agg ys)).run Tryz.prog w=.ok () w:=run_eqGuard_agg _ _ _ _ _ _ _ AFb
theorem AMx(ρ:Operand→Value)(o:Oper)(x y:Operand)(yt:TypeId)(a b c d:Int)(ho:o.op=.binOp .eql 49 x y yt)(hx:ρ x=.agg #[.int .i64 a,.int .i64 b])(hy:ρ y=.agg #[.int .i64 c,.int .i64 d])(w:World):(execOp ρ o).run Tryz.prog w=.ok (.value (.bool ((a==c)&&(b==d)))) w:=by
 unfold execOp;rw[ho];simp only[hx,hy,Sem.run_bind,ANz,Result.andThen_ok,ANp,Sem.run_pure]
end
end Go.Proofs.YtebofaenlhhkaaaGreat
