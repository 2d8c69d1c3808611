/-
  PLAIN: the way of a right sheet's cue is given; its curve in memory; what keeps a row of the call's own and blocks beside it.
-/
import Derived.Test.YtebofaenlhhkaaaGreatU28
namespace Go.Proofs.YtebofaenlhhkaaaGreat
set_option maxRecDepth 100000
set_option maxHeartbeats 80000000
set_option linter.unusedSimpArgs false
section
open Go.RowKit Go.Shelf
theorem mvO_hit{M:List Mv}{s:ByteArray}(h:mvB M s=true):∃i,i<M.length∧mvO M s=mg M i:=by
 rcases mov_first_cases M (fun y=>decide (y.name=s))with ⟨e,_⟩ | ⟨i,hi,e,_,_⟩
 ·rw[(mv_no (M:=M) (s:=s) e).1]at h
  cases h
 ·exact⟨i,hi,(mv_yes (M:=M) (s:=s) e).2⟩
theorem way_ok{h:HouseR}{s:SheetR}{k n:Nat}{nme:ByteArray}{m:Mv}{z:Int}(hok:SheetOK h s)(hk:k<h.sets.length)(hn:n<s.cues.length)(hb:mvB (cg s.cues n).moves nme=true)(hm:mvO (cg s.cues n).moves nme=m)(hz:ig (trimL h s.cues n) k=z):
  0≤z∧z≤1048576∧0≤m.to∧m.to≤1048576∧givenP (if z≤m.to then m.to-z else z-m.to) m=0:=by
 obtain⟨i,hi,e⟩:=mvO_hit hb;rw[e]at hm;have hr:=(hok.each n hn).1;have ht:=trim_ok hok.house (fun j hj=>(hok.each j hj).1) n (by omega);have hmo:=hr.2 i hi;have w:=move_within hok.house ht hmo;have t1:=ht.2 k (by have:=ht.1;omega);have lo:=(house_set hok.house hk).1.low;rw[hz]at t1;rw[hm]at w;have zz:0≤z∧z≤1048576:=by omega
 refine⟨zz.1,zz.2,w.1,w.2.1,?_⟩;unfold givenP;rw[if_pos (by rw[←hm];exact hmo.1),if_pos (inB_iff.2 ?_)]
 split<;>omega
theorem z_ok{h:HouseR}{s:SheetR}{k n:Nat}{z:Int}(hok:SheetOK h s)(hk:k<h.sets.length)(hn:n<s.cues.length)(hz:ig (trimL h s.cues n) k=z):0≤z∧z≤1048576:=by
 have ht:=trim_ok hok.house (fun j hj=>(hok.each j hj).1) n (by omega);have t1:=ht.2 k (by have:=ht.1;omega);have lo:=(house_set hok.house hk).1.low;rw[hz]at t1;omega
theorem way_curve{d:Int}{m:Mv}{W:List Pc}(hg:givenP d m=0)(hW:curveL d m.rise m.fall (topV d m)=W)(w:World):
  Calls Tryz.prog 80 #[.int .i64 d,.agg #[.string m.name,.int .i64 m.to,.int .i64 m.spd,.int .i64 m.rise,.int .i64 m.fall]] w fun e w'=>(∃cb cc:Nat,e=.returned (.tuple #[.slice (some ⟨cb,0,none⟩) W.length cc,.int .i64 0])∧w.heap.size≤cb∧cb<w'.heap.size∧W.length≤cc∧Hid (Pcs w'.heap.size w' (some ⟨cb,0,none⟩) W))∧Below w.heap.size w w':=by
 have hL:1≤W.length:=by rw[←hW];exact(move_c hg (top_is hg)).ok.pos
 refine(Curve_any d m (topV d m) (fun g=>top_is g) w).mono ?_;rintro e w' ⟨HV,hb⟩;refine⟨?_,hb⟩;obtain⟨v,rfl,h1,h2⟩:=HV.out;have hr:=h1 hg;rw[hW]at hr;obtain⟨a,c,rfl,hc,_,_,hp⟩:=pc_of_row hr;obtain⟨g,rfl,hb1,hb2⟩:=row_addr hr (by omega);exact⟨g,c,by rw[hg],hb1,hb2,hc,lh hp⟩
theorem way_piece{d:Int}{m:Mv}{W:List Pc}(hg:givenP d m=0)(hW:curveL d m.rise m.fall (topV d m)=W){j:Nat}(hj:j<W.length):PcOK (pcg W j):=by
 subst hW;exact(move_c hg (top_is hg)).ok.val j hj
theorem vf_bd{n d:Int}(h:validF n d=true):-1152921504606846976≤n∧n≤1152921504606846976:=by
 obtain⟨_,_,a,b,_⟩:=(validF_iff _ _).1 h;exact⟨by omega,by omega⟩
structure Kept(W w:World)(r:Nat)(v:Value):Prop where
 grown:W.grownBy w (some r)
 lies:v.ownBlock=some r∨∃g,v.ownBlock=some g∧W.heap.size≤g
theorem Kept.start{W:World}{r:Nat}{v:Value}(h:v.ownBlock=some r):Kept W W r v:=⟨World.grownBy.refl _ _,.inl h⟩
theorem Kept.below{W w w':World}{r:Nat}{v:Value}(h:Kept W w r v)(z:Below w.heap.size w w'):Kept W w' r v:=
 ⟨⟨z.os.trans h.grown.os,z.tape.trans h.grown.tape,z.output.trans h.grown.output,Nat.le_trans h.grown.size z.size,fun k hk hne=>(z.block k (Nat.lt_of_lt_of_le hk h.grown.size)).trans (h.grown.block k hk hne)⟩,h.lies⟩
theorem Kept.step{W w w':World}{r:Nat}{v v':Value}(h:Kept W w r v)(g:w.grownBy w' v.ownBlock)(e:v'.ownBlock=v.ownBlock∨v'.ownBlock=some w.heap.size):Kept W w' r v':=by
 refine⟨⟨g.os.trans h.grown.os,g.tape.trans h.grown.tape,g.output.trans h.grown.output,Nat.le_trans h.grown.size g.size,fun k hk hne=>?_⟩,?_⟩
 ·refine(g.block k (Nat.lt_of_lt_of_le hk h.grown.size) (fun e2=>?_)).trans (h.grown.block k hk hne)
  rcases h.lies with l | ⟨j,l,lj⟩
  ·exact hne (e2.trans l)
  ·rw[l]at e2;cases e2;omega
 ·rcases e with e | e
  ·rw[e];exact h.lies
  ·exact .inr ⟨_,e,h.grown.size⟩
theorem Kept.cell{W w:World}{r:Nat}{v:Value}(h:Kept W w r v){p:Addr}(hp:p.block<W.heap.size)(hr:p.block≠r):w.cell? p=W.cell? p:=
 h.grown.cell_far p hp (fun e=>hr (by cases e;rfl))
theorem Kept.under{W0 W w:World}{r n:Nat}{v:Value}(h:Kept W w r v)(hb:Below n W0 W)(hn:n≤W.heap.size)(hr:n≤r):Below n W0 w:=
 hb.grown h.grown hn (fun k e=>by cases e;exact hr)
theorem Kept.pcs{W w:World}{r cb n:Nat}{v:Value}{L:List Pc}(h:Kept W w r v)(hc:cb<W.heap.size)(hr:cb≠r)(hp:Pcs n W (some ⟨cb,0,none⟩) L){j:Nat}(hj:j<L.length):
  w.cell? ⟨cb,j*8,none⟩=some (.int .i64 (pcg L j).f0)∧w.cell? ⟨cb,j*8+1,none⟩=some (.int .i64 (pcg L j).f1)∧w.cell? ⟨cb,j*8+2,none⟩=some (.int .i64 (pcg L j).a0)∧w.cell? ⟨cb,j*8+3,none⟩=some (.int .i64 (pcg L j).a1)∧w.cell? ⟨cb,j*8+4,none⟩=some (.int .i64 (pcg L j).b0)∧w.cell? ⟨cb,j*8+5,none⟩=some (.int .i64 (pcg L j).b1)∧w.cell? ⟨cb,j*8+6,none⟩=some (.int .i64 (pcg L j).c0)∧w.cell? ⟨cb,j*8+7,none⟩=some (.int .i64 (pcg L j).c1):=by
 obtain⟨b,o,e,_,hcc⟩:=hp (by omega)
 cases e
 obtain⟨c0,c1,c2,c3,c4,c5,c6,c7⟩:=hcc j hj;simp only[Nat.zero_add]at c0 c1 c2 c3 c4 c5 c6 c7;exact⟨(h.cell (p:=⟨cb,_,none⟩) hc hr).trans c0,(h.cell (p:=⟨cb,_,none⟩) hc hr).trans c1,(h.cell (p:=⟨cb,_,none⟩) hc hr).trans c2,(h.cell (p:=⟨cb,_,none⟩) hc hr).trans c3,(h.cell (p:=⟨cb,_,none⟩) hc hr).trans c4,(h.cell (p:=⟨cb,_,none⟩) hc hr).trans c5,(h.cell (p:=⟨cb,_,none⟩) hc hr).trans c6,(h.cell (p:=⟨cb,_,none⟩) hc hr).trans c7⟩
theorem pb_from(q:Pc){w:World}{b:Nat}{p:Pc}(z:PB w b p):PB (setFrom w b 0 [.int .i64 q.f0,.int .i64 q.f1,.int .i64 q.a0,.int .i64 q.a1,.int .i64 q.b0,.int .i64 q.b1,.int .i64 q.c0,.int .i64 q.c1]) b q:=by
 obtain⟨c0,c1,c2,c3,c4,c5,c6,c7⟩:=pc_from q z;exact⟨c0,c1,c2,c3,c4,c5,c6,c7,fun i=>by simpa[setFrom]using z.free i⟩
theorem lastP_eq{out:List Pc}{n:Nat}(h:out.length=n+1):lastP out=pcg out n:=by unfold lastP;rw[h];rfl
theorem putP_set{out:List Pc}{n:Nat}{y:Pc}(h:out.length=n+1)(e:(pcg out n).f0=y.f0∧(pcg out n).f1=y.f1):putP out y=out.set n y:=by unfold putP;rw[lastP_eq h,if_pos e,h];rfl
theorem putP_app{out:List Pc}{n:Nat}{y:Pc}(h:out.length=n+1)(e:¬((pcg out n).f0=y.f0∧(pcg out n).f1=y.f1)):putP out y=out++[y]:=by unfold putP;rw[lastP_eq h,if_neg e]
theorem grown_set{w:World}{g:Nat}:∀(vs:List Value) (W:World) (j:Nat),w.grownBy W (some g)→w.grownBy (setFrom W g j vs) (some g)
 | [],_,_,h=>h
 | v::vs,W,j,h=>grown_set vs _ (j+1) ⟨h.os,h.tape,h.output,by simpa[World.setCell]using h.size,fun k hk hne=>(RowKit.Below.heap_setCell W ⟨g,j,none⟩ v k (fun e=>hne (by rw[e]))).trans (h.block k hk hne)⟩
def eqF(a b:Int×Int):Bool:=(a.1==b.1)&&(a.2==b.2)
theorem eqF_iff(a b:Int×Int):eqF a b=true↔a=b:=by
 unfold eqF;rw[Bool.and_eq_true,beq_iff_eq,beq_iff_eq];exact⟨fun h=>Prod.ext h.1 h.2,fun h=>by rw[h];exact⟨rfl,rfl⟩⟩
def smU(L:List Pc)(e:Int)(k:Nat):(Int×Int)×Int:=kSub e ((pcg L (k+1)).f0,(pcg L (k+1)).f1) ((pcg L k).f0,(pcg L k).f1)
def smA(L:List Pc)(e:Int)(k:Nat):(Int×Int)×Int:=kVal (smU L e k).2 ((pcg L k).a0,(pcg L k).a1) ((pcg L k).b0,(pcg L k).b1) ((pcg L k).c0,(pcg L k).c1) (smU L e k).1
def smB(L:List Pc)(e:Int)(k:Nat):(Int×Int)×Int:=kSlope (smA L e k).2 ((pcg L k).b0,(pcg L k).b1) ((pcg L k).c0,(pcg L k).c1) (smU L e k).1
def smRun(L:List Pc):Nat→Bool×Int
 | 0=>(((pcg L 0).b0==0)&&((pcg L 0).b1==1),0)
 | k+1=>((smRun L k).1&&eqF (smA L (smRun L k).2 k).1 ((pcg L (k+1)).a0,(pcg L (k+1)).a1)&&eqF (smB L (smRun L k).2 k).1 ((pcg L (k+1)).b0,(pcg L (k+1)).b1),(smB L (smRun L k).2 k).2)
def smoothP(L:List Pc):Bool×Int:=if(smRun L (L.length-1)).2=0 then((smRun L (L.length-1)).1,0)else(false,(smRun L (L.length-1)).2)

theorem smRun_err(L:List Pc)(k:Nat):(smRun L k).2=0∨(smRun L k).2=5:=by
 induction k with
 | zero=>exact .inl rfl
 | succ k ih=>exact kSlope_err (kVal_err (kSub_err ih))
theorem smooth_err(L:List Pc):(smoothP L).2=0∨(smoothP L).2=5:=by
 unfold smoothP;have:=smRun_err L (L.length-1)
 split
 ·exact .inl rfl
 ·exact this
theorem smRun_yes{L:List Pc}(ok:CurveOK L)(hb:(pcg L 0).b0=0∧(pcg L 0).b1=1)(hs:∀k,k+1<L.length→qv (qp (pcg L k)) (fr ((pcg L (k+1)).f0,(pcg L (k+1)).f1))=fr ((pcg L (k+1)).a0,(pcg L (k+1)).a1)∧qs (qp (pcg L k)) (fr ((pcg L (k+1)).f0,(pcg L (k+1)).f1))=fr ((pcg L (k+1)).b0,(pcg L (k+1)).b1))(k:Nat)(hk:k<L.length)(h:(smRun L k).2=0):(smRun L k).1=true:=by
 induction k with
 | zero=>unfold smRun;rw[hb.1,hb.2];rfl
 | succ k ih=>
  have v:=ok.val k (by omega);have v1:=ok.val (k+1) hk;have hu:vF (smU L (smRun L k).2 k).1=true:=kSub_valid v1.vf v.vf;have hB:(smB L (smRun L k).2 k).2=0:=h;obtain⟨hA,eB⟩:=kSlope_ok v.vb v.vc hu hB;obtain⟨hU,eA⟩:=kVal_ok v.va v.vb v.vc hu hA;obtain⟨h0,eU⟩:=kSub_ok (den_pos v1.vf) (den_pos v.vf) hU;obtain⟨j1,j2⟩:=hs k hk;have i:=ih (by omega) h0
  have a1:(smA L (smRun L k).2 k).1=((pcg L (k+1)).a0,(pcg L (k+1)).a1):=frq_inj (kVal_valid v.va v.vb v.vc hu) v1.va (by
   rw[←j1];unfold smA;rw[eA];unfold smU;rw[eU]
   rfl)
  have a2:(smB L (smRun L k).2 k).1=((pcg L (k+1)).b0,(pcg L (k+1)).b1):=frq_inj (kSlope_valid v.vb v.vc hu) v1.vb (by
   rw[←j2];unfold smB;rw[eB];unfold smU;rw[eU]
   rfl)
  show((smRun L k).1&&eqF (smA L (smRun L k).2 k).1 ((pcg L (k+1)).a0,(pcg L (k+1)).a1)&&eqF (smB L (smRun L k).2 k).1 ((pcg L (k+1)).b0,(pcg L (k+1)).b1))=true;rw[i,(eqF_iff _ _).2 a1,(eqF_iff _ _).2 a2]
  rfl
theorem smooth_yes{L:List Pc}(ok:CurveOK L)(hb:(pcg L 0).b0=0∧(pcg L 0).b1=1)(hs:∀k,k+1<L.length→qv (qp (pcg L k)) (fr ((pcg L (k+1)).f0,(pcg L (k+1)).f1))=fr ((pcg L (k+1)).a0,(pcg L (k+1)).a1)∧qs (qp (pcg L k)) (fr ((pcg L (k+1)).f0,(pcg L (k+1)).f1))=fr ((pcg L (k+1)).b0,(pcg L (k+1)).b1))(h:(smoothP L).2=0):(smoothP L).1=true:=by
 have hp:=ok.pos;unfold smoothP at h⊢
 by_cases z:(smRun L (L.length-1)).2=0
 ·rw[if_pos z]
  exact smRun_yes ok hb hs _ (by omega) z
 ·rw[if_neg z]at h
  exact absurd h z
theorem Up.joins{m:Rat}{Q:List QP}(h:Up m Q):∀i (hi:i+1<Q.length),qv Q[i] Q[i+1].f=Q[i+1].a∧qs Q[i] Q[i+1].f=Q[i+1].b:=by
 induction h with
 | rest p _ _ _=>exact fun i h=>absurd h (by simp)
 | go p q r hf _ _ _ _ h4 h5 h ih=>
  intro i hi
  cases i with
  | zero=>exact⟨h4,h5⟩
  | succ i=>exact ih i (by simp only[List.length_cons]at hi⊢;omega)
end
section
def mvQ(s z:Rat)(up:Bool)(p:QP):QP:=⟨s+p.f,if up then z+p.a else z-p.a,if up then p.b else -p.b,if up then p.c else -p.c⟩
def vaQ(z:Rat)(up:Bool)(v:Rat):Rat:=if up then z+v else z-v
theorem mvQ_v(s z t:Rat)(up:Bool)(p:QP):qv (mvQ s z up p) t=vaQ z up (qv p (t-s)):=by
 unfold qv mvQ vaQ
 cases up
 ·simp only[Bool.false_eq_true,if_false];grind
 ·simp only[if_true];grind
theorem mvQ_s(s z t:Rat)(up:Bool)(p:QP):qs (mvQ s z up p) t=if up then qs p (t-s)else -qs p (t-s):=by
 unfold qs mvQ
 cases up
 ·simp only[Bool.false_eq_true,if_false];grind
 ·simp only[if_true];grind
def Good:List QP→Prop
 | []=>False
 | [p]=>p.b=0∧p.c=0
 | p::q::r=>p.f<q.f∧qv p q.f=q.a∧qs p q.f=q.b∧Good (q::r)
theorem Up.good{m:Rat}{L:List QP}(h:Up m L):Good L:=by
 induction h with
 | rest p hb hc _=>exact⟨hb,hc⟩
 | go p q r hf _ _ _ _ h4 h5 h ih=>exact⟨hf,h4,h5,ih⟩
theorem Good.asc:∀{L:List QP},Good L→Asc L
 | [],h=>absurd h id
 | [p],_=>fun i hi=>absurd hi (by simp)
 | p::q::r,h=>fun i hi=>by
  cases i with
  | zero=>exact h.1
  | succ i=>exact h.2.2.2.asc i (by simp only[List.length_cons]at hi⊢;omega)
theorem Good.joins:∀{L:List QP},Good L→∀i (hi:i+1<L.length),qv L[i] L[i+1].f=L[i+1].a∧qs L[i] L[i+1].f=L[i+1].b
 | [],h=>absurd h id
 | [p],_=>fun i hi=>absurd hi (by simp)
 | p::q::r,h=>fun i hi=>by
  cases i with
  | zero=>exact⟨h.2.1,h.2.2.1⟩
  | succ i=>exact h.2.2.2.joins i (by simp only[List.length_cons]at hi⊢;omega)
theorem Good.map{s z:Rat}{up:Bool}:∀{L:List QP},Good L→Good (L.map (mvQ s z up))
 | [],h=>h
 | [p],h=>by
  show(mvQ s z up p).b=0∧(mvQ s z up p).c=0;unfold mvQ;obtain⟨a,b⟩:=h;rw[a,b]
  cases up<;>simp
 | p::q::r,h=>by
  obtain⟨a,b,c,d⟩:=h;have e:∀x:Rat,s+x-s=x:=fun x=>by grind
  refine⟨show s+p.f<s+q.f by grind,?_,?_,d.map⟩
  ·rw[mvQ_v,show(mvQ s z up q).f-s=q.f from e q.f,b];rfl
  ·rw[mvQ_s,show(mvQ s z up q).f-s=q.f from e q.f,c];rfl
theorem atL_map(s z t:Rat)(up:Bool):∀{L:List QP},L≠[]→atL (L.map (mvQ s z up)) t=vaQ z up (atL L (t-s))
 | [],h=>absurd rfl h
 | [p],_=>by
  show(if s+p.f≤t then qv (mvQ s z up p) t else vaQ z up p.a)=vaQ z up (if p.f≤t-s then qv p (t-s)else p.a)
  by_cases c:p.f≤t-s
  ·rw[if_pos c,if_pos (by grind),mvQ_v]
  ·rw[if_neg c,if_neg (by grind)]
 | p::q::r,_=>by
  have ih:=atL_map s z t up (L:=q::r) (by simp);show(if s+q.f≤t then atL ((q::r).map (mvQ s z up)) t else if s+p.f≤t then qv (mvQ s z up p) t else vaQ z up p.a)=vaQ z up (if q.f≤t-s then atL (q::r) (t-s)else if p.f≤t-s then qv p (t-s)else p.a)
  by_cases c:q.f≤t-s
  ·rw[if_pos c,if_pos (by grind),ih]
  ·rw[if_neg c,if_neg (by grind)]
   by_cases d:p.f≤t-s
   ·rw[if_pos d,if_pos (by grind),mvQ_v]
   ·rw[if_neg d,if_neg (by grind)]
theorem good_set{x y:QP}{Q:List QP}(hf:x.f=y.f)(ha:x.a=y.a)(hb:x.b=y.b)(h:Good (y::Q)):∀{P:List QP},Good (P++[x])→Good (P++y::Q)
 | [],_=>h
 | [p],g=>by
  obtain⟨a,b,c,_⟩:=g;rw[hf]at a;rw[hf,ha]at b;rw[hf,hb]at c;exact⟨a,b,c,h⟩
 | p::q::r,g=>⟨g.1,g.2.1,g.2.2.1,good_set hf ha hb h (P:=q::r) g.2.2.2⟩
theorem good_app{x y:QP}{Q:List QP}(hf:x.f<y.f)(ha:x.a=y.a)(xb:x.b=0)(xc:x.c=0)(hb:y.b=0)(h:Good (y::Q)):∀{P:List QP},Good (P++[x])→Good (P++x::y::Q)
 | [],_=>by
  refine⟨hf,?_,?_,h⟩
  ·unfold qv;rw[xb,xc,ha];grind
  ·unfold qs;rw[xb,xc,hb];grind
 | [p],g=>⟨g.1,g.2.1,g.2.2.1,good_app hf ha xb xc hb h (P:=[]) g.2.2.2⟩
 | p::q::r,g=>⟨g.1,g.2.1,g.2.2.1,good_app hf ha xb xc hb h (P:=q::r) g.2.2.2⟩
theorem Good.below{y:QP}{Q:List QP}:∀{p:QP} {P:List QP},Good (p::P++y::Q)→p.f<y.f
 | _,[],h=>h.1
 | p,q::r,h=>by have:=Good.below (p:=q) (P:=r) h.2.2.2;have:=h.1;grind
theorem at_app{y:QP}{Q:List QP}(t:Rat):∀{P:List QP},Good (P++y::Q)→(y.f≤t→atL (P++y::Q) t=atL (y::Q) t)∧(t<y.f→P≠[]→atL (P++y::Q) t=atL P t)
 | [],_=>⟨fun _=>rfl,fun _ n=>absurd rfl n⟩
 | [p],g=>by
  refine⟨fun h=>by rw[List.singleton_append,atL,if_pos h],fun h _=>?_⟩;show(if y.f≤t then atL (y::Q) t else if p.f≤t then qv p t else p.a)=_;rw[if_neg (Rat.not_le.2 h)]
  rfl
 | p::q::r,g=>by
  obtain⟨i1,i2⟩:=at_app t (P:=q::r) g.2.2.2;have lt:=Good.below (p:=q) (P:=r) g.2.2.2;refine⟨fun h=>?_,fun h _=>?_⟩
  ·rw[←i1 h]
   show(if q.f≤t then _ else _)=_;rw[if_pos (by grind)]
   rfl
  ·have e:=i2 h (by simp)
   show(if q.f≤t then atL (q::r++y::Q) t else if p.f≤t then qv p t else p.a)=if q.f≤t then atL (q::r) t else if p.f≤t then qv p t else p.a
   rw[e]
theorem vF_neg{a b:Int}(h:vF (a,b)=true):vF (-a,b)=true:=by
 obtain⟨h1,h2,h3,h4,h5⟩:=(validF_iff _ _).1 h;exact(validF_iff _ _).2 ⟨h1,h2,by omega,by omega,by rw[Int.neg_gcd];exact h5⟩
theorem addP_fr{a b:Int×Int}(va:vF a=true)(vb:vF b=true)(h:(addP a.1 a.2 b.1 b.2).2.2=0):vF ((addP a.1 a.2 b.1 b.2).1,(addP a.1 a.2 b.1 b.2).2.1)=true∧fr ((addP a.1 a.2 b.1 b.2).1,(addP a.1 a.2 b.1 b.2).2.1)=fr a+fr b:=by
 have e:kAdd 0 a b=(((addP a.1 a.2 b.1 b.2).1,(addP a.1 a.2 b.1 b.2).2.1),0):=by unfold kAdd kp;rw[if_pos h]
 have v:=kAdd_valid (e:=0) va vb;have f:=(kAdd_ok (e:=0) (den_pos va) (den_pos vb) (by rw[e])).2;rw[e]at v f;exact⟨v,f⟩
theorem piece_ok{x:Pc}{s z:Int}{up:Bool}(hx:PcOK x)(vs:vF (lowN s 1000,lowD s 1000)=true)(vz:vF (z,1)=true)(h:(pieceP x s z up).2=0):PcOK (pieceP x s z up).1∧qp (pieceP x s z up).1=mvQ ((s:Rat)/1000) (z:Rat) up (qp x):=by
 unfold pieceP at h⊢
 by_cases e:(addP (lowN s 1000) (lowD s 1000) x.f0 x.f1).2.2=0
 case neg=>simp only[if_neg e]at h;exact absurd h e
 obtain⟨v1,f1⟩:=addP_fr (a:=(lowN s 1000,lowD s 1000)) (b:=(x.f0,x.f1)) vs hx.vf e;simp only[if_pos e]at h⊢;rw[frq_low s 1000 (by decide)]at f1;have n1:=frq_neg (x.a0,x.a1);have n2:=frq_neg (x.b0,x.b1);have n3:=frq_neg (x.c0,x.c1)
 dsimp only at n1 n2 n3
 cases up
 ·simp only[Bool.false_eq_true,if_false]at h⊢
  obtain⟨v2,f2⟩:=addP_fr (a:=(z,1)) (b:=(-x.a0,x.a1)) vz (vF_neg hx.va) h;refine⟨⟨v1,v2,vF_neg hx.vb,vF_neg hx.vc⟩,?_⟩;unfold qp mvQ;simp only[Bool.false_eq_true,if_false];rw[QP.mk.injEq];refine⟨f1,?_,n2,n3⟩;rw[f2,frq_one,n1,Rat.sub_eq_add_neg]
 ·simp only[if_true]at h⊢
  obtain⟨v2,f2⟩:=addP_fr (a:=(z,1)) (b:=(x.a0,x.a1)) vz hx.va h;refine⟨⟨v1,v2,hx.vb,hx.vc⟩,?_⟩;unfold qp mvQ;simp only[if_true];rw[QP.mk.injEq];refine⟨f1,?_,rfl,rfl⟩;rw[f2,frq_one]
theorem last_put{out:List Pc}(y:Pc)(h:out≠[]):lastP (putP out y)=y:=by
 have l:0<out.length:=List.length_pos_iff.2 h;unfold putP
 split
 ·unfold lastP pcg
  rw[List.length_set,List.getElem?_set_self (by omega)]
  rfl
 ·unfold lastP pcg
  rw[List.length_append,List.length_singleton,Nat.add_sub_cancel,List.getElem?_append_right (Nat.le_refl _),Nat.sub_self]
  rfl
theorem lastP_mem{out:List Pc}(h:out≠[]):out=out.dropLast++[lastP out]∧lastP out∈out:=by
 have l:0<out.length:=List.length_pos_iff.2 h
 have e:lastP out=out.getLast h:=by
  unfold lastP pcg;rw[List.getElem?_eq_getElem (by omega),List.getLast_eq_getElem]
  rfl
 rw[e];exact⟨(List.dropLast_concat_getLast h).symm,List.getLast_mem h⟩
theorem put_ne{out:List Pc}{y:Pc}(h:out≠[]):putP out y≠[]:=by
 unfold putP
 split
 ·exact fun e=>h (by simpa using e)
 ·simp
theorem put_mem{out:List Pc}{y p:Pc}(h:p∈putP out y):p∈out∨p=y:=by
 unfold putP at h
 split at h
 ·exact List.mem_or_eq_of_mem_set h
 ·simpa using h
theorem put_form{out:List Pc}{y:Pc}(h:out≠[])(v1:PcOK (lastP out))(v2:PcOK y):(((qp (lastP out)).f=(qp y).f→qL (putP out y)=qL out.dropLast++[qp y])∧((qp (lastP out)).f≠(qp y).f→qL (putP out y)=qL out++[qp y])):=by
 have l:0<out.length:=List.length_pos_iff.2 h;refine⟨fun e=>?_,fun e=>?_⟩
 ·have e2:=frq_inj v1.vf v2.vf e
  rw[Prod.mk.injEq]at e2;unfold putP;rw[if_pos e2];unfold qL;rw[List.map_set];obtain⟨m,-⟩:=lastP_mem h
  conv=>lhs;rw[m]
  rw[List.map_append,List.map_cons,List.map_nil,List.set_append_right _ _ (by rw[List.length_map,List.length_dropLast,←m];omega)];rw[List.length_map,List.length_dropLast,←m,Nat.sub_self]
  rfl
 ·unfold putP
  rw[if_neg (fun q=>e (by unfold qp;rw[q.1,q.2]))];unfold qL;rw[List.map_append]
  rfl
theorem pcg_mem{L:List Pc}{k:Nat}(h:k<L.length):pcg L k∈L:=by rw[pcg_eq L k h];exact List.getElem_mem h
theorem way_form{s z:Int}{up:Bool}{out W:List Pc}(ho:out≠[])(oo:∀p∈out,PcOK p)(hW:∀i,i<W.length→PcOK (pcg W i))(asc:Asc (qL W))(vs:vF (lowN s 1000,lowD s 1000)=true)(vz:vF (z,1)=true):
  ∀k,k≤W.length→(wayTo s z up out W k).2=0→(wayTo s z up out W k).1≠[]∧(∀p∈(wayTo s z up out W k).1,PcOK p)∧(0<k→qp (lastP (wayTo s z up out W k).1)=mvQ ((s:Rat)/1000) (z:Rat) up (qp (pcg W (k-1)))∧
   qL (wayTo s z up out W k).1=qL (if(qp (lastP out)).f=(s:Rat)/1000+(qp (pcg W 0)).f then out.dropLast else out)++(qL (W.take k)).map (mvQ ((s:Rat)/1000) (z:Rat) up))
 | 0,_,_=>⟨ho,oo,fun h=>absurd h (by decide)⟩
 | k+1,hk,e=>by
  have kl:k<W.length:=hk
  by_cases a:(wayTo s z up out W k).2=0
  case neg=>rw[wayTo_err a (k+1) (Nat.le_succ k)]at e;exact absurd e a
  by_cases b:(pieceP (pcg W k) s z up).2=0
  case neg=>rw[wayTo_fail a b]at e;exact absurd e b
  obtain⟨n1,o1,fm⟩:=way_form ho oo hW asc vs vz k (by omega) a;obtain⟨py,qy⟩:=piece_ok (hW k kl) vs vz b;rw[wayTo_next a b];obtain⟨L,hL⟩:=nm ((wayTo s z up out W k).1);rw[hL]at n1 o1 fm
  dsimp only
  rw[hL];have pf:=put_form n1 (o1 _ (lastP_mem n1).2) py;refine⟨put_ne n1,fun p hp=>?_,fun _=>⟨by rw[last_put _ n1,qy];rfl,?_⟩⟩
  ·rcases put_mem hp with h | h
   ·exact o1 p h
   ·rw[h];exact py
  ·have tk:qL (W.take (k+1))=qL (W.take k)++[qp (pcg W k)]:=by
    rw[List.take_succ_eq_append_getElem kl,←pcg_eq W k kl];unfold qL;rw[List.map_append]
    rfl
   rw[tk,List.map_append,←List.append_assoc];rcases Nat.eq_zero_or_pos k with z0 | z0
   ·subst z0
    have eL:out=L:=hL;subst eL;have t0:qL (W.take 0)=[]:=rfl;rw[t0,List.map_nil,List.append_nil]
    by_cases c:(qp (lastP out)).f=(s:Rat)/1000+(qp (pcg W 0)).f
    ·rw[if_pos c,pf.1 (by rw[qy];exact c),qy];rfl
    ·rw[if_neg c,pf.2 (by rw[qy];exact c),qy];rfl
   ·obtain⟨fl,ff⟩:=fm z0
    have lt:=asc (k-1) (by rw[qL_len];omega);have e1:k-1+1=k:=by omega
    rw[qL_get,qL_get]at lt;simp only[e1]at lt;rw[←ff,pf.2 (by rw[fl,qy];intro q;have q':(s:Rat)/1000+(qp (pcg W (k-1))).f=(s:Rat)/1000+(qp (pcg W k)).f:=q;grind),qy]
    rfl
structure PInv(L:List Pc)(hi z f:Rat):Prop where
 ok:∀p∈L,PcOK p
 rep:∃P,qL L=P++[⟨f,z,0,0⟩]
 good:Good (qL L)
 head:∃c r,qL L=⟨0,hi,0,c⟩::r
theorem PInv.ne{L:List Pc}{hi z f:Rat}(h:PInv L hi z f):L≠[]:=fun e=>by
 obtain⟨c,r,hh⟩:=h.head;rw[e]at hh
 cases hh
theorem qp_last{L:List Pc}{P:List QP}{x:QP}(h:L≠[])(e:qL L=P++[x]):qL L.dropLast=P∧qp (lastP L)=x:=by
 obtain⟨m,-⟩:=lastP_mem h;rw[m]at e;unfold qL at e;rw[List.map_append]at e;have:=List.append_inj' e rfl;rw[List.map_cons,List.map_nil,List.cons.injEq]at this;exact⟨this.1,this.2.1⟩
theorem MoveC.headQ{W:List Pc}{d t:Int}(h:MoveC W d t):∃c r,qL W=⟨0,0,0,c⟩::r:=by
 have hp:=h.ok.pos;have h1:=h.f0;have h2:=h.a0;have h3:=h.b0
 cases W with
 | nil=>simp at hp
 | cons p r=>
  have e:pcg (p::r) 0=p:=rfl;rw[e]at h1 h2 h3;refine⟨fr (p.c0,p.c1),qL r,?_⟩;show qp p::qL r=_;unfold qp;rw[h1,h2,h3,frq_zero]
theorem MoveC.lastQ{W:List Pc}{d t:Int}(h:MoveC W d t):∃U,qL W=U++[⟨lastF (qL W),d,0,0⟩]:=by
 have hp:=h.ok.pos;have ne:W≠[]:=fun e=>by rw[e]at hp;simp at hp
 obtain⟨m,-⟩:=lastP_mem ne;refine⟨qL W.dropLast,?_⟩;rw[h.last.2]
 have e:qL W=qL W.dropLast++[qp (lastP W)]:=by
  conv=>lhs;rw[m]
  unfold qL;rw[List.map_append]
  rfl
 have e2:qp (lastP W)=⟨fr ((pcg W (W.length-1)).f0,(pcg W (W.length-1)).f1),d,0,0⟩:=by
  show(⟨_,fr ((pcg W (W.length-1)).a0,(pcg W (W.length-1)).a1),fr ((pcg W (W.length-1)).b0,(pcg W (W.length-1)).b1),fr ((pcg W (W.length-1)).c0,(pcg W (W.length-1)).c1)⟩:QP)=_;rw[h.an,h.bn,h.cn,frq_one,frq_zero]
  rfl
 rw[e2]at e;exact e
theorem PInv.go{L W:List Pc}{hi f:Rat}{d t s z:Int}{up:Bool}(h:PInv L hi z f)(hm:MoveC W d t)(fs:f≤(s:Rat)/1000)(s0:0≤s)(vs:vF (lowN s 1000,lowD s 1000)=true)(vz:vF (z,1)=true)(e:(wayTo s z up L W W.length).2=0):
  PInv (wayTo s z up L W W.length).1 hi (vaQ z up d) ((s:Rat)/1000+lastF (qL W))∧∀x:Rat,0≤x→atL (qL (wayTo s z up L W W.length).1) x=if(s:Rat)/1000≤x then vaQ z up (atL (qL W) (x-(s:Rat)/1000))else atL (qL L) x:=by
 obtain⟨_,o1,fm⟩:=way_form h.ne h.ok hm.ok.val hm.ok.asc' vs vz W.length (Nat.le_refl _) e;obtain⟨_,ff⟩:=fm (by have:=hm.ok.pos;omega);clear fm;obtain⟨R,hR⟩:=nm ((wayTo s z up L W W.length).1);rw[hR]at o1 ff⊢;clear hR e;obtain⟨P,hP⟩:=h.rep;obtain⟨dl,lp⟩:=qp_last h.ne hP;obtain⟨c,r,hh⟩:=h.head;obtain⟨c2,r2,hW⟩:=hm.headQ;obtain⟨U,hU⟩:=hm.lastQ
 have p0:(qp (pcg W 0)).f=0:=by
  have g:=qL_get W 0 (by rw[qL_len];have:=hm.ok.pos;omega);rw[←g];simp only[hW]
  rfl
 rw[List.take_length,lp,p0]at ff;have hM:(qL W).map (mvQ ((s:Rat)/1000) z up)=mvQ ((s:Rat)/1000) z up ⟨0,0,0,c2⟩::r2.map (mvQ ((s:Rat)/1000) z up):=by rw[hW];rfl
 have gM:Good ((qL W).map (mvQ ((s:Rat)/1000) z up)):=hm.up.good.map;have aM:=fun x=>atL_map ((s:Rat)/1000) z x up (L:=qL W) (by rw[hW];simp)
 have lM:(qL W).map (mvQ ((s:Rat)/1000) z up)=U.map (mvQ ((s:Rat)/1000) z up)++[⟨(s:Rat)/1000+lastF (qL W),vaQ z up d,0,0⟩]:=by
  conv=>lhs;rw[hU]
  rw[List.map_append,List.map_cons,List.map_nil]
  congr 1
  unfold mvQ vaQ
  cases up<;>simp
 rw[hM]at gM aM ff lM;obtain⟨y,hy⟩:=nm (mvQ ((s:Rat)/1000) z up ⟨0,0,0,c2⟩);obtain⟨Q,hQ⟩:=nm (r2.map (mvQ ((s:Rat)/1000) z up));have yf:y.f=(s:Rat)/1000:=by rw[←hy];show(s:Rat)/1000+0=_;grind
 have ya:y.a=(z:Rat):=by rw[←hy];unfold mvQ;cases up<;>simp<;>grind
 have yb:y.b=0:=by rw[←hy];unfold mvQ;cases up<;>simp
 rw[hy,hQ]at gM aM ff lM;have hg:=h.good;rw[hP]at hg
 have hs0:(0:Rat)≤(s:Rat)/1000:=by
  have:=Rat.intCast_nonneg.2 s0
  grind
 have e0:(s:Rat)/1000+0=(s:Rat)/1000:=by grind
 rw[e0]at ff
 by_cases q:f=(s:Rat)/1000
 ·rw[if_pos q,dl]at ff
  have gd:=good_set (x:=⟨f,z,0,0⟩) (by rw[yf];exact q) ya.symm yb.symm gM hg;rw[←ff]at gd;refine⟨⟨o1,⟨P++U.map (mvQ ((s:Rat)/1000) z up),by rw[ff,lM,List.append_assoc]⟩,gd,?_⟩,fun x hx=>?_⟩
  ·cases P with
   | nil=>
    rw[List.nil_append]at hP;rw[hP]at hh;simp only[List.cons.injEq,QP.mk.injEq]at hh;refine⟨y.c,Q,?_⟩;rw[ff,List.nil_append]
    congr 1
    obtain⟨⟨h1,h2,-,-⟩,-⟩:=hh
    cases y
    dsimp only at yf ya yb
    rw[yf,ya,yb,←q,h1,h2]
   | cons p P=>
    rw[hP]at hh;have hh':p::(P++[⟨f,(z:Rat),0,0⟩])=⟨0,hi,0,c⟩::r:=hh;rw[List.cons.injEq]at hh';exact⟨c,P++y::Q,by rw[ff,hh'.1];rfl⟩
  ·rw[ff]at gd⊢
   obtain⟨i1,i2⟩:=at_app x gd;obtain⟨j1,j2⟩:=at_app x hg;rw[yf]at i1 i2
   by_cases l:(s:Rat)/1000≤x
   ·rw[if_pos l,i1 l,aM]
   ·rw[if_neg l]
    have l':=Rat.not_le.1 l
    have pn:P≠[]:=fun pe=>by
     rw[pe,List.nil_append]at hP;rw[hP]at hh;simp only[List.cons.injEq,QP.mk.injEq]at hh;have:=hh.1.1
     grind
    rw[i2 l' pn,hP,j2 (by show x<f;rw[q];exact l') pn]
 ·rw[if_neg q,hP,List.append_assoc,List.singleton_append]at ff
  have gd:=good_app (x:=⟨f,z,0,0⟩) (y:=y) (by rw[yf];show f<_;grind) ya.symm rfl rfl yb gM hg;rw[←ff]at gd;refine⟨⟨o1,⟨P++⟨f,z,0,0⟩::U.map (mvQ ((s:Rat)/1000) z up),by rw[ff,lM,List.append_assoc];rfl⟩,gd,?_⟩,fun x hx=>?_⟩
  ·cases P with
   | nil=>
    rw[List.nil_append]at hP;rw[hP]at hh;rw[List.cons.injEq]at hh;exact⟨c,y::Q,by rw[ff,←hh.1];rfl⟩
   | cons p P=>
    rw[hP]at hh;have hh':p::(P++[⟨f,(z:Rat),0,0⟩])=⟨0,hi,0,c⟩::r:=hh;rw[List.cons.injEq]at hh';exact⟨c,P++⟨f,z,0,0⟩::y::Q,by rw[ff,hh'.1];rfl⟩
  ·have ff':qL R=(P++[⟨f,(z:Rat),0,0⟩])++y::Q:=by rw[ff,List.append_assoc];rfl
   rw[ff']at gd⊢;obtain⟨i1,i2⟩:=at_app x gd;rw[yf]at i1 i2
   by_cases l:(s:Rat)/1000≤x
   ·rw[if_pos l,i1 l,aM]
   ·rw[if_neg l,i2 (Rat.not_le.1 l) (by simp),hP]
end
section
open Go.RowKit
theorem mv_hits{M:List Mv}{s:ByteArray}(h:mvB M s=true):∃i,i<M.length∧mvI M s=i∧mvO M s=mg M i∧(mg M i).name=s:=by
 rcases mov_first_cases M (fun y=>decide (y.name=s))with ⟨e,_⟩ | ⟨i,hi,e,hn,_⟩
 ·rw[(mv_no (M:=M) (s:=s) e).1]at h
  cases h
 ·exact⟨i,hi,e,(mv_yes (M:=M) (s:=s) e).2,by simpa using hn⟩
theorem find_one{h:HouseR}(hb:houseB h=true){k:Nat}(hk:k<h.sets.length):findS h.sets (hg h.sets k).name=(k:Int):=(find_at hk).2 ((houseB_iff.1 hb).2.2.2.2.2 k hk).2.2
theorem find_nat{h:HouseR}(hb:houseB h=true){k:Nat}(hk:k<h.sets.length){m:Mv}(h0:0≤findS h.sets m.name):(findS h.sets m.name).toNat=k↔m.name=(hg h.sets k).name:=by
 constructor
 ·intro e
  have:=(find_name h0).2;rw[e]at this;exact this.symm
 ·intro e
  rw[e,find_one hb hk]
  rfl
theorem moved_at{h:HouseR}{M:List Mv}{t:List Int}{k:Nat}(hb:houseB h=true)(hk:k<h.sets.length)(hM:∀i,i<M.length→MoveOK h M i)(ht:t.length=h.sets.length):
  ∀n,n≤M.length→ig (movedL h t (M.take n)) k=if mvB M (hg h.sets k).name=true∧mvI M (hg h.sets k).name<(n:Int)then(mvO M (hg h.sets k).name).to else ig t k
 | 0,_=>by
  rw[List.take_zero];rw[if_neg (fun q=>?_)]
  ·rfl
  ·obtain⟨i,_,e,_⟩:=mv_hits q.1
   have:=q.2;omega
 | n+1,hn=>by
  have ih:=moved_at hb hk hM ht n (by omega);have m:=hM n (by omega);rw[movedL_snoc h t M (by omega),ig_set _ _ _ _ (by rw[movedL_len];have:=(find_name m.2.1).1;omega),ih]
  by_cases c:(findS h.sets (mg M n).name).toNat=k
  ·rw[if_pos c]
   have nme:=(find_nat hb hk m.2.1).1 c
   have hit:mvI M (hg h.sets k).name=(n:Int):=mov_first_hit M _ n (by omega) (by simpa using nme) (fun j hj=>by
    have:=m.2.2.2.2 j hj;rw[nme]at this
    simpa using this)
   have y:=mv_yes hit;rw[if_pos ⟨y.1,by rw[hit];omega⟩,y.2]
  ·rw[if_neg c]
   have ne:(mg M n).name≠(hg h.sets k).name:=fun e=>c ((find_nat hb hk m.2.1).2 e)
   by_cases b:mvB M (hg h.sets k).name=true
   ·obtain⟨i,hi,e,_,nme⟩:=mv_hits b
    have:i≠n:=fun q=>ne (by rw[←q];exact nme);rw[e]
    by_cases l:i<n
    ·rw[if_pos ⟨b,by omega⟩,if_pos ⟨b,by omega⟩]
    ·rw[if_neg (fun q=>by omega),if_neg (fun q=>by omega)]
   ·rw[if_neg (fun q=>b q.1),if_neg (fun q=>b q.1)]
theorem trim_next{h:HouseR}{s:SheetR}{k n:Nat}(hok:SheetOK h s)(hk:k<h.sets.length)(hn:n<s.cues.length):ig (trimL h s.cues (n+1)) k=if mvB (cg s.cues n).moves (hg h.sets k).name=true then(mvO (cg s.cues n).moves (hg h.sets k).name).to else ig (trimL h s.cues n) k:=by
 have e:=moved_at (M:=(cg s.cues n).moves) hok.house hk (hok.each n hn).1.2 (trimL_len h s.cues n) _ (Nat.le_refl _);rw[List.take_length]at e;show ig (movedL h (trimL h s.cues n) (cg s.cues n).moves) k=_;rw[e]
 by_cases b:mvB (cg s.cues n).moves (hg h.sets k).name=true
 ·obtain⟨i,hi,q,_⟩:=mv_hits b
  rw[if_pos b,if_pos ⟨b,by rw[q];omega⟩]
 ·rw[if_neg b,if_neg (fun q=>b q.1)]
theorem trim_high{h:HouseR}{C:List CueR}{k:Nat}(hk:k<h.sets.length):ig (trimL h C 0) k=(hg h.sets k).high:=by
 show ig (highsL h) k=_;unfold highsL ig;rw[List.getElem?_map,List.getElem?_eq_getElem hk,hg_eq h.sets k hk]
 rfl
theorem time_last{d:Int}{m:Mv}(hg:givenP d m=0):fr (tmF d m)=lastF (qL (curveL d m.rise m.fall (topV d m))):=by
 have hl:=curveL_len d m.rise m.fall (topV d m);rw[(move_c hg (top_is hg)).last.2];unfold tmF timeP;rw[if_pos hg];unfold knotsL;rw[knTo_len,knTo_at _ _ _ (by omega)]
theorem more_le{a b:Int×Int}(ha:vF a=true)(hb:vF b=true):fr a≤fr (moreF a b)∧fr b≤fr (moreF a b):=by
 have h:=frq_le (a:=a) (b:=b) (den_pos ha) (den_pos hb);have h2:=frq_le (a:=b) (b:=a) (den_pos hb) (den_pos ha);have c:=cmpP_le (x:=a.1*b.2) (y:=b.1*a.2);unfold moreF
 by_cases q:0<cmpP (a.1*b.2) (b.1*a.2)
 ·rw[if_pos q]
  exact⟨Rat.le_refl,h2.2 (by omega)⟩
 ·rw[if_neg q]
  exact⟨h.2 (by omega),Rat.le_refl⟩
theorem len_most{h:HouseR}{t:List Int}{M:List Mv}(hb:houseB h=true)(ht:TrimOK h t)(hM:∀i,i<M.length→MoveOK h M i):∀n,n≤M.length→∀i,i<n→fr (tmF (moveD h t (mg M i)) (mg M i))≤fr (lenTo h t (M.take n))
 | 0,_,i,hi=>absurd hi (Nat.not_lt_zero _)
 | n+1,hn,i,hi=>by
  rw[lenTo_snoc h t M (by omega)];have a:=more_le (a:=tmF (moveD h t (mg M n)) (mg M n)) (b:=lenTo h t (M.take n)) (tm_ok (move_given hb ht (hM n (by omega)))).ok (len_ok hb ht hM n (by omega)).ok;rcases Nat.lt_or_ge i n with l | l
  ·exact Rat.le_trans (len_most hb ht hM n (by omega) i l) a.2
  ·obtain rfl:i=n:=by omega
   exact a.1
theorem ceil_ge{n d:Int}(hd:0<d):n≤ceilI n d*d:=by
 unfold ceilI;have a:=Int.ediv_mul_le (-n) (show d≠0 by omega);rw[Int.neg_mul];omega
theorem ms_ge{x:Int×Int}(ok:TmOK x):fr x≤(msF x:Rat)/1000:=by
 have hd:=den_pos ok.ok;obtain⟨_,_,c,_⟩:=ms_low ok;have a:=ceil_ge (n:=lowN (1000*x.1) x.2) c;have b:=low_cross (1000*x.1) x.2;have e:(msF x:Rat)/1000=fr (msF x,1000):=rfl;rw[e,frq_le (a:=x) (b:=(msF x,1000)) hd (show(0:Int)<1000 by decide)];show x.1*1000≤msF x*x.2;unfold msF;obtain⟨N,hN⟩:=nm (lowN (1000*x.1) x.2);obtain⟨D,hD⟩:=nm (lowD (1000*x.1) x.2);rw[hN,hD]at a b⊢;rw[hD]at c;obtain⟨K,hK⟩:=nm (ceilI N D);rw[hK]at a⊢;have m:=Int.mul_le_mul_of_nonneg_right a (Int.le_of_lt hd);have e2:K*D*x.2=K*x.2*D:=by rw[Int.mul_assoc,Int.mul_comm D,←Int.mul_assoc]
 rw[e2,b,Int.mul_comm 1000]at m;exact Int.le_of_mul_le_mul_right m c
theorem lens_at(h:HouseR)(C:List CueR):∀n j,j<n→ig (lensL h C n) j=msF (lenTo h (trimL h C j) (cg C j).moves)
 | 0,j,hj=>absurd hj (Nat.not_lt_zero _)
 | n+1,j,hj=>by
  rw[lensL_snoc];rcases Nat.lt_or_ge j n with l | l
  ·rw[ig_old _ _ _ (by rw[lensL_len];exact l)]
   exact lens_at h C n j l
  ·obtain rfl:j=n:=by omega
   have:=ig_new (lensL h C j) (msF (lenTo h (trimL h C j) (cg C j).moves));rw[lensL_len]at this;exact this
noncomputable def wayC(h:HouseR)(C:List CueR)(k n:Nat):List Pc:=curveL (wayD h C k n) (mvO (cg C n).moves (hg h.sets k).name).rise (mvO (cg C n).moves (hg h.sets k).name).fall (topV (wayD h C k n) (mvO (cg C n).moves (hg h.sets k).name))
def goesK(h:HouseR)(C:List CueR)(k n:Nat):Prop:=mvB (cg C n).moves (hg h.sets k).name=true∧(mvO (cg C n).moves (hg h.sets k).name).to≠ig (trimL h C n) k
def upK(h:HouseR)(C:List CueR)(k n:Nat):Bool:=decide (ig (trimL h C n) k<(mvO (cg C n).moves (hg h.sets k).name).to)
noncomputable def posTo(h:HouseR)(C:List CueR)(S:List Int)(k:Nat)(x:Rat):Nat→Rat
 | 0=>(hg h.sets k).high
 | n+1=>@ite _ (goesK h C k n∧((ig S n:Int):Rat)/1000≤x) (Classical.propDecidable _) (vaQ (ig (trimL h C n) k) (upK h C k n) (atL (qL (wayC h C k n)) (x-((ig S n:Int):Rat)/1000))) (posTo h C S k x n)
theorem pos_go{h:HouseR}{C:List CueR}{S:List Int}{k n:Nat}{x:Rat}(g:goesK h C k n)(l:((ig S n:Int):Rat)/1000≤x):posTo h C S k x (n+1)=vaQ (ig (trimL h C n) k) (upK h C k n) (atL (qL (wayC h C k n)) (x-((ig S n:Int):Rat)/1000)):=if_pos ⟨g,l⟩
theorem pos_stay{h:HouseR}{C:List CueR}{S:List Int}{k n:Nat}{x:Rat}(g:¬(goesK h C k n∧((ig S n:Int):Rat)/1000≤x)):posTo h C S k x (n+1)=posTo h C S k x n:=if_neg g
theorem way_move{h:HouseR}{s:SheetR}{k n:Nat}(hok:SheetOK h s)(hk:k<h.sets.length)(hn:n<s.cues.length)(g:goesK h s.cues k n):
  MoveC (wayC h s.cues k n) (wayD h s.cues k n) (topV (wayD h s.cues k n) (mvO (cg s.cues n).moves (hg h.sets k).name))∧givenP (wayD h s.cues k n) (mvO (cg s.cues n).moves (hg h.sets k).name)=0:=by
 have gv:=(way_ok hok hk hn g.1 rfl rfl).2.2.2.2;have gv':givenP (wayD h s.cues k n) (mvO (cg s.cues n).moves (hg h.sets k).name)=0:=gv;exact⟨move_c gv' (top_is gv'),gv'⟩
theorem way_end{h:HouseR}{s:SheetR}{k n:Nat}(hn:n<s.cues.length)(hok:SheetOK h s)(hk:k<h.sets.length)(g:goesK h s.cues k n):vaQ (ig (trimL h s.cues n) k) (upK h s.cues k n) (wayD h s.cues k n)=(ig (trimL h s.cues (n+1)) k:Rat):=by
 rw[trim_next hok hk hn,if_pos g.1];unfold vaQ upK wayD;obtain⟨z,hz⟩:=nm (ig (trimL h s.cues n) k);obtain⟨m,hm⟩:=nm ((mvO (cg s.cues n).moves (hg h.sets k).name).to);rw[hz,hm]
 by_cases c:z<m
 ·rw[decide_eq_true c,if_pos rfl,if_pos (by omega),←Rat.intCast_add]
  congr 1
  omega
 ·rw[decide_eq_false c,if_neg (by decide)]
  by_cases d:z≤m
  ·rw[if_pos d,←Rat.intCast_sub]
   congr 1
   omega
  ·rw[if_neg d,←Rat.intCast_sub]
   congr 1
   omega
theorem way_within{h:HouseR}{s:SheetR}{k n:Nat}(hok:SheetOK h s)(hk:k<h.sets.length)(hn:n<s.cues.length)(g:goesK h s.cues k n):lastF (qL (wayC h s.cues k n))≤((ig (planN h s) n:Int):Rat)/1000:=by
 obtain⟨_,gv⟩:=way_move hok hk hn g;have ht:=trim_ok hok.house (fun j hj=>(hok.each j hj).1) n (by omega);obtain⟨i,hi,_,e,nme⟩:=mv_hits g.1;have hm:=(hok.each n hn).1.2;have a:=len_most hok.house ht hm _ (Nat.le_refl _) i hi;rw[List.take_length]at a;have lo:=len_ok hok.house ht hm _ (Nat.le_refl _);rw[List.take_length]at lo;have b:=ms_ge lo
 have q:moveD h (trimL h s.cues n) (mg (cg s.cues n).moves i)=wayD h s.cues k n:=by
  unfold moveD wayD;rw[(find_nat hok.house hk (hm i hi).2.1).2 nme,e]
  split<;>split<;>omega
 rw[q,←e,time_last gv]at a;show _≤((ig (lensL h s.cues s.cues.length) n:Int):Rat)/1000;rw[lens_at h s.cues _ n hn];exact Rat.le_trans a b
theorem sec_vF{x:Int}(h0:0≤x)(h1:x≤1152921504606846976):vF (lowN x 1000,lowD x 1000)=true:=(validF_iff _ _).2 ⟨lowD_pos (by decide),by have:=lowD_le (n:=x) (d:=1000) (by decide);omega,by have:=low_sign (n:=x) (d:=1000) (by decide);omega,by have:=lowN_le x 1000;omega,low_cop (by decide)⟩
theorem rat_div_le{a b:Int}(h:a≤b):(a:Rat)/1000≤(b:Rat)/1000:=(frq_le (a:=(a,1000)) (b:=(b,1000)) (show(0:Int)<1000 by decide) (show(0:Int)<1000 by decide)).2 (by show a*1000≤b*1000;omega)
theorem path_inv{h:HouseR}{s:SheetR}{S G:List Int}{k:Nat}(hok:SheetOK h s)(hp:PlanOK s.cues s.pairs (planN h s) G S)(ho:OrdrOK s.cues S (planN h s))(hk:k<h.sets.length):
  ∀n,n≤s.cues.length→(pathTo h s.cues S k n).2=0→(∃f,PInv (pathTo h s.cues S k n).1 (hg h.sets k).high (ig (trimL h s.cues n) k) f∧(f=0∨∃j,j<n∧goesK h s.cues k j∧f≤((ig S j+ig (planN h s) j:Int):Rat)/1000))∧∀x:Rat,0≤x→atL (qL (pathTo h s.cues S k n).1) x=posTo h s.cues S k x n
 | 0,_,_=>by
  have hs:=house_set hok.house hk
  have hh:0≤(hg h.sets k).high∧(hg h.sets k).high≤1048576:=by
   have t:=(highs_ok hok.house).2 k (by rw[(highs_ok hok.house).1];exact hk);have:=hs.1.low;have:=(houseB_iff.1 hok.house).2.2.1;have:=hs.2;omega
  have o:=valid_one (n:=0) (by decide) (by decide)
  have q:qL (pathTo h s.cues S k 0).1=[⟨0,(hg h.sets k).high,0,0⟩]:=by
   show[qp ⟨0,1,(hg h.sets k).high,1,0,1,0,1⟩]=_;unfold qp;rw[frq_zero,frq_one]
  refine⟨⟨0,⟨fun p hp=>?_,⟨[],?_⟩,?_,?_⟩,.inl rfl⟩,fun x hx=>?_⟩
  ·obtain rfl:p=⟨0,1,(hg h.sets k).high,1,0,1,0,1⟩:=by
    have hp':p∈[(⟨0,1,(hg h.sets k).high,1,0,1,0,1⟩:Pc)]:=hp;exact List.mem_singleton.1 hp'
   exact⟨o,valid_one (n:=(hg h.sets k).high) (by omega) (by omega),o,o⟩
  ·rw[q,trim_high hk];rfl
  ·rw[q];exact⟨rfl,rfl⟩
  ·rw[q];exact⟨0,[],rfl⟩
  ·rw[q]
   show(if(0:Rat)≤x then qv ⟨0,(hg h.sets k).high,0,0⟩ x else _)=_;rw[if_pos hx];show _=((hg h.sets k).high:Rat);unfold qv
   grind
 | n+1,hn,e=>by
  have nl:n<s.cues.length:=hn
  by_cases a:(pathTo h s.cues S k n).2=0
  case neg=>rw[pathTo_err a (n+1) (Nat.le_succ n)]at e;exact absurd e a
  obtain⟨⟨f,pi,hf⟩,hat⟩:=path_inv hok hp ho hk n (by omega) a
  by_cases g:goesK h s.cues k n
  ·obtain⟨mc,gv⟩:=way_move hok hk nl g
   have zz:=z_ok hok hk nl rfl;have st:=hp.starts n nl;have pg:=pathTo_go (S:=S) a g.1 rfl rfl g.2 rfl rfl;rw[pg]at e⊢
   have fs:f≤((ig S n:Int):Rat)/1000:=by
    rcases hf with hf | ⟨j,hj,gj,hf⟩
    ·rw[hf]
     have:=rat_div_le st.1;have e0:((0:Int):Rat)/1000=0:=by grind
     rw[e0]at this;exact this
    ·obtain⟨i,hi,_,_,nme⟩:=mv_hits g.1
     have:=ho n nl j hj i hi (by rw[nme];exact gj.1);exact Rat.le_trans hf (rat_div_le this)
   obtain⟨p2,h2⟩:=pi.go (up:=upK h s.cues k n) mc fs st.1 (sec_vF st.1 (by omega)) (valid_one (by omega) (by omega)) e;rw[way_end nl hok hk g]at p2;refine⟨⟨_,p2,.inr ⟨n,Nat.lt_succ_self n,g,?_⟩⟩,fun x hx=>?_⟩
   ·have w:=way_within hok hk nl g
    rw[Rat.intCast_add]
    grind
   ·refine(h2 x hx).trans ?_
    by_cases l:((ig S n:Int):Rat)/1000≤x
    ·rw[if_pos l,pos_go g l]
    ·rw[if_neg l,pos_stay (fun q=>l q.2),hat x hx]
  ·have stay:pathTo h s.cues S k (n+1)=pathTo h s.cues S k n:=pathTo_stay (by
    by_cases b:mvB (cg s.cues n).moves (hg h.sets k).name=true
    ·exact .inr (Classical.byContradiction fun q=>g ⟨b,q⟩)
    ·exact .inl (Bool.eq_false_iff.2 b))
   rw[stay];refine⟨⟨f,?_,?_⟩,fun x hx=>by rw[hat x hx,pos_stay (fun q=>g q.1)]⟩
   ·have e2:ig (trimL h s.cues (n+1)) k=ig (trimL h s.cues n) k:=by
     rw[trim_next hok hk nl]
     split
     next b=>exact Classical.byContradiction fun q=>g ⟨b,q⟩
     next=>rfl
    rw[e2];exact pi
   ·rcases hf with hf | ⟨j,hj,r⟩
    ·exact .inl hf
    ·exact .inr ⟨j,by omega,r⟩
theorem path_curve{h:HouseR}{s:SheetR}{S G:List Int}{k:Nat}(hok:SheetOK h s)(hp:PlanOK s.cues s.pairs (planN h s) G S)(ho:OrdrOK s.cues S (planN h s))(hk:k<h.sets.length)(e:(pathP h s.cues S k).2=0):CurveOK (pathP h s.cues S k).1:=by
 unfold pathP at e⊢
 by_cases a:(pathTo h s.cues S k s.cues.length).2=0
 case neg=>rw[if_neg a]at e;exact absurd e a
 rw[if_pos a]at e⊢
 by_cases l:200<(pathTo h s.cues S k s.cues.length).1.length
 ·rw[if_pos l]at e;cases e
 rw[if_neg l];obtain⟨⟨f,pi,_⟩,_⟩:=path_inv hok hp ho hk _ (Nat.le_refl _) a;have n1:=(pathTo_len h s.cues S k _ a).1;refine⟨n1,by omega,fun i hi=>pi.ok _ (pcg_mem hi),fun i hi=>?_⟩;have ha:=pi.good.asc i (by rw[qL_len];exact hi);rw[qL_f,qL_f]at ha;exact(frq_lt (a:=((pcg _ i).f0,(pcg _ i).f1)) (b:=((pcg _ (i+1)).f0,(pcg _ (i+1)).f1)) (den_pos (pi.ok _ (pcg_mem (by omega))).vf) (den_pos (pi.ok _ (pcg_mem hi)).vf)).1 ha
end
section
open Go.RowKit Go.Shelf
theorem make_zero(d:Int)(d0:1≤d)(d1:d≤9223372036854775807)(w:World):
  Calls Tryz.prog 53 #[.int .i64 0,.int .i64 d] w fun e w'=>e=.returned (.tuple #[.agg #[.int .i64 0,.int .i64 1],.int .i64 0])∧Below w.heap.size w w':=by
 have Z1:Hid (∀w:World,Calls Tryz.prog 89 #[.int .i64 0] w fun e w'=>e=.returned (.int .u64 0)∧w=w'):=lh fun w=>by have:=size_any 0 (by decide) (by decide) w;simpa using this
 have Z2:Hid (∀w:World,Calls Tryz.prog 89 #[.int .i64 d] w fun e w'=>e=.returned (.int .u64 d)∧w=w'):=lh fun w=>by have:=size_any d (by omega) (by omega) w;rwa [show(d.natAbs:Int)=d by omega]at this
 have HG:Hid (∀w:World,Calls Tryz.prog 90 #[.int .u64 0,.int .u64 d] w fun e w'=>e=.returned (.int .u64 d)∧∃m,w'=w.drewN m):=lh fun w=>by
  have:=gcd_any 0 d (by decide) (by decide) (by omega) (by omega) w
  rwa [show((Int.gcd 0 d:Nat):Int)=d by simp;omega]at this
 have HS:Hid (∀w:World,Calls Tryz.prog 91 #[.bool false,.int .u64 (IntKind.u64.wrap 0),.int .u64 (IntKind.u64.wrap 1)] w fun e w'=>e=.returned (.tuple #[.agg #[.int .i64 0,.int .i64 1],.int .i64 0])∧Below w.heap.size w w'):=lh fun w=>by rw[show IntKind.u64.wrap 0=0 from rfl,show IntKind.u64.wrap 1=1 from rfl];exact signed_any false 0 1 (by decide) (by decide) w
 have z1:(d==0)=false:=by simp;omega
 have z2:¬d=0:=by omega
 have z3:IntKind.u64.wrap (d.tdiv d)=1:=by rw[Int.tdiv_self z2];rfl
 have z4:IntKind.u64.wrap ((0:Int).tdiv d)=0:=by rw[Int.zero_tdiv];rfl
 go_enter Tryz.func53,Tryz.ntmps53
 go_upto_region 5 with (first
  | (go_at_call 89;(with_reducible refine(Z1.out _).mono ?_);rintro e w' ⟨rfl,rfl⟩)
  | (go_at_call 89;(with_reducible refine(Z2.out _).mono ?_);rintro e w' ⟨rfl,rfl⟩)
  | (go_at_call 90;(with_reducible refine(HG.out _).mono ?_);rintro e w' ⟨rfl,m,rfl⟩))
 have HF:FI ((w.alloc (.cells #[.int .i64 0,.int .i64 0] 49)).drewN m) w.heap.size 0 0:=⟨by simp,by simp,by simp,by simp,by simp⟩;have hW:=below_drewN (below_new w (.cells #[.int .i64 0,.int .i64 0] 49)) m;generalize (w.alloc (.cells #[.int .i64 0,.int .i64 0] 49)).drewN m=W0 at *;refine wp_region_held_drew (S:=fun w'=>Below w.heap.size w w') (by kernel_rfl) (hW.drew) (fun hHeld=>?_);refine tkB 0 ?_;simp only[Act.put,s_1,s_2,s_3,s_4,s_6];refine tkB 1 ?_;simp only[Act.put,s_1,s_2,s_3,s_4,s_5,s_6];refine tkB 2 ?_;simp only[Act.put,s_1,s_2,s_3,s_4,s_5,s_6];refine tkS 3 ?_;simp only[Act.put,s_1,s_2,s_3,s_4,s_5,s_6];refine tkS 4 ?_;simp only[Act.put,s_1,s_2,s_3,s_4,s_5,s_6];refine tkS 5 ?_;simp only[Act.put,s_1,s_2,s_3,s_4,s_5,s_6];refine tkS 6 ?_;simp only[Act.put,s_1,s_2,s_3,s_4,s_5,s_6];refine tkS 7 ?_;simp only[Act.put,s_1,s_2,s_3,s_4,s_5,s_6];refine tkB 8 ?_;simp only[Act.put,s_1,s_2,s_3,s_4,s_5,s_6];refine tkB 9 ?_;simp only[Act.put,s_1,s_2,s_3,s_4,s_5,s_6];refine tkB 10 ?_;simp only[Act.put,s_1,s_2,s_3,s_4,s_5,s_6];refine tkB 11 ?_;simp only[Act.put,s_1,s_2,s_3,s_4,s_5,s_6];refine tkB 12 ?_;simp only[Act.put,s_1,s_2,s_3,s_4,s_5,s_6];refine tkB 13 ?_;simp only[Act.put,s_1,s_2,s_3,s_4,s_5,s_6];refine tkB 14 ?_;simp only[Act.put,s_1,s_2,s_3,s_4,s_5,s_6];refine r1 15 (fun K hK=>?_)
 try simp only[s_4,s_5,s_6]
 go_simp
 (go_at_call 91;go_split_ands;(with_reducible refine(HS.out _).mono ?_);rintro e w2 ⟨rfl,hb2⟩;have hB2:=hW.drew.trans (hb2.mono hW.drew.size);obtain⟨q0,q1,q2,q3,q4⟩:=(show FI W0.drew w.heap.size 0 0 from HF).carry hb2)
 go_wp2_with fail
 refine hK.out _ _ (hB2) (fun hHeld=>?_);clear hK K
 try simp only[Act.put,s_1,s_2,s_3,s_4,s_5,s_6]
 refine tkB 16 ?_;simp only[Act.put,s_1,s_2,s_3,s_4,s_5,s_6];refine tkB 17 ?_;simp only[Act.put,s_1,s_2,s_3,s_4,s_5,s_6];refine r1 18 (fun K hK=>?_)
 try simp only[s_4,s_5,s_6]
 go_simp
 refine hK.out _ _ (below_s _ _ (below_s _ _ hB2 (Nat.le_refl _)) (Nat.le_refl _)) (fun hHeld=>?_);clear hK K
 try simp only[Act.put,s_1,s_2,s_3,s_4,s_5,s_6]
 refine tkB 19 ?_;simp only[Act.put,s_1,s_2,s_3,s_4,s_5,s_6];refine wpAnyH_done (by kernel_rfl) ?_ _
 go_wp2_with fail
 have l0:=(two_cells (v0:=.int .i64 0) (v1:=.int .i64 1) q0 q1).1;have l1:=(two_cells (v0:=.int .i64 0) (v1:=.int .i64 1) q0 q1).2;refine bodyPost_ret (v:=.tuple #[.agg #[.int .i64 0,.int .i64 1],.int .i64 0]) (by simp[results,Tryz.results53,go_sem,l0,l1]) rfl ⟨rfl,?_⟩;exact below_s _ _ (below_s _ _ hB2 (Nat.le_refl _)) (Nat.le_refl _)
end
section
section
variable {P:Program} {ops:Array Oper} {Q:Exit→Act→World→Prop} {md:Region.Mode} {S:World→Prop}
theorem ry(rs:List Nat){fuel:Nat}{listed:Array Bool}{a:Act}{w:World}(h:AllReadyH P md ops Q S fuel listed a w rs)(hr:Region.ready md ops listed=rs:=by kernel_rfl)(hne:rs≠[]:=by simp):wpAnyH P md ops Q S (fuel+1) listed a w:=wpAnyH_ready hr hne h
theorem nl{fuel:Nat}{listed:Array Bool}{a:Act}{w:World}:AllReadyH P md ops Q S fuel listed a w []:=AllReadyH.nil
theorem dn{fuel:Nat}{listed:Array Bool}{a:Act}{w:World}(h:Q .normal a w)(hr:Region.ready md ops listed=[]:=by kernel_rfl):wpAnyH P md ops Q S fuel listed a w:=wpAnyH_done hr h fuel
theorem vl_core{i:Nat}{oi:Oper}{n:Next}{v:Value}{fuel:Nat}{listed:Array Bool}{a a':Act}{w w1:World}{rs:List Nat}(hS:S w1)
  (h:S w1→wpAnyH P md ops Q S fuel (listed.setIfInBounds i true) a' w1) (hs:AllReadyH P md ops Q S fuel listed a w rs)
  (hi:ops[i]? =some oi) (hg:Region.wanted oi (yielded ops a.tmps)=true)
  (hx:(execOp a.eval oi).run P w=.ok n w1) (hn:(n=.value v)∨(n=.skip∧v=undef)) (ha:a.put oi.dst v=a'):AllReadyH P md ops Q S fuel listed a w (i::rs):=by
 refine AllReadyH.cons (o:=oi) hi (fun K hK=>?_) hs;rw[if_pos hg];unfold Oper.wp;rw[hx];rcases hn with rfl | ⟨rfl,rfl⟩
 ·rw[Oper.upon_value];exact hK.out _ _ hS (fun hS=>by rw[ha];exact h hS)
 ·rw[Oper.upon_skip];exact hK.out _ _ hS (fun hS=>by rw[ha];exact h hS)
theorem rc_core{i:Nat}{oi:Oper}{f:FuncId}{args:Array Value}{V:Value}{X:World→Prop}{fuel:Nat}{listed:Array Bool}{a a':Act}{w:World}{rs:List Nat}
  (hc:Calls P f args w fun e w'=>e=.returned V∧X w') (hn:∀w',X w'→S w')
  (h:∀w',X w'→S w'→wpAnyH P md ops Q S fuel (listed.setIfInBounds i true) a' w') (hs:AllReadyH P md ops Q S fuel listed a w rs)
  (hi:ops[i]? =some oi) (hg:Region.wanted oi (yielded ops a.tmps)=true)
  (hx:(execOp a.eval oi).run P w=.ok (.enter f args) w) (ha:a.put oi.dst V=a'):AllReadyH P md ops Q S fuel listed a w (i::rs):=by
 refine AllReadyH.cons (o:=oi) hi (fun K hK=>?_) hs;rw[if_pos hg];unfold Oper.wp;rw[hx,Oper.upon_enter];refine hc.mono ?_;rintro e w' ⟨rfl,hX⟩;exact hK.out _ _ (hn w' hX) (fun hS=>by rw[ha];exact h w' hX hS)
theorem rc(i:Nat){oi:Oper}{f:FuncId}{args:Array Value}{V:Value}{X:World→Prop}{fuel:Nat}{listed:Array Bool}{a a':Act}{w:World}{rs:List Nat}
  (hc:Calls P f args w fun e w'=>e=.returned V∧X w') (hn:∀w',X w'→S w')
  (h:∀w',X w'→S w'→wpAnyH P md ops Q S fuel (listed.setIfInBounds i true) a' w') (hs:AllReadyH P md ops Q S fuel listed a w rs)
  (hi:ops[i]? =some oi:=by first | (simp only[List.getElem?_toArray,List.getElem?_cons_zero];rfl) | (simp only[List.getElem?_toArray,List.getElem?_cons_succ,List.getElem?_cons_zero];rfl))
  (hg:Region.wanted oi (yielded ops a.tmps)=true:=by rfl)
  (hx:(execOp a.eval oi).run P w=.ok (.enter f args) w:=by(try simp only[s_4,s_5,s_6]);go_simp)
  (ha:a.put oi.dst V=a':=by simp only[Act.put,List.setIfInBounds_toArray,List.set_cons_zero,List.set_cons_succ,List.getElem_toArray,List.getElem_cons_succ,List.getElem_cons_zero];rfl):AllReadyH P md ops Q S fuel listed a w (i::rs):=
 rc_core hc hn h hs hi hg hx ha
theorem cl(i:Nat){oi:Oper}{f:FuncId}{args:Array Value}{V:Value}{X:World→Prop}{fuel:Nat}{listed:Array Bool}{a a':Act}{w:World}
  (hc:Calls P f args w fun e w'=>e=.returned V∧X w') (hn:∀w',X w'→S w')
  (h:∀w',X w'→S w'→wpAnyH P md ops Q S fuel (listed.setIfInBounds i true) a' w')
  (hi:ops[i]? =some oi:=by first | (simp only[List.getElem?_toArray,List.getElem?_cons_zero];rfl) | (simp only[List.getElem?_toArray,List.getElem?_cons_succ,List.getElem?_cons_zero];rfl))
  (hr:Region.ready md ops listed=[i]:=by kernel_rfl) (hg:Region.wanted oi (yielded ops a.tmps)=true:=by rfl)
  (hx:(execOp a.eval oi).run P w=.ok (.enter f args) w:=by(try simp only[s_4,s_5,s_6]);go_simp)
  (ha:a.put oi.dst V=a':=by simp only[Act.put,List.setIfInBounds_toArray,List.set_cons_zero,List.set_cons_succ,List.getElem_toArray,List.getElem_cons_succ,List.getElem_cons_zero];rfl):wpAnyH P md ops Q S (fuel+1) listed a w:=
 wpAnyH_ready hr (by simp) (rc_core hc hn h AllReadyH.nil hi hg hx ha)
theorem al(i:Nat)(o:Obj){oi:Oper}{fuel:Nat}{listed:Array Bool}{a:Act}{a':Nat→Act}{w:World}{rs:List Nat}(hS:S (w.alloc o))
  (h:∀B w1,w.heap.size=B→w.alloc o=w1→S w1→wpAnyH P md ops Q S fuel (listed.setIfInBounds i true) (a' B) w1) (hs:AllReadyH P md ops Q S fuel listed a w rs)
  (hi:ops[i]? =some oi:=by first | (simp only[List.getElem?_toArray,List.getElem?_cons_zero];rfl) | (simp only[List.getElem?_toArray,List.getElem?_cons_succ,List.getElem?_cons_zero];rfl))
  (hg:Region.wanted oi (yielded ops a.tmps)=true:=by rfl)
  (hx:(execOp a.eval oi).run P w=.ok (.value (.pointer (some ⟨w.heap.size,0,none⟩))) (w.alloc o):=by(try simp only[s_4,s_5,s_6]);go_simp)
  (ha:∀B,a.put oi.dst (.pointer (some ⟨B,0,none⟩))=a' B:=by intro B;simp only[Act.put,s_1,s_2,s_3,s_4,s_5,s_6];rfl):AllReadyH P md ops Q S fuel listed a w (i::rs):=
 vl_core hS (fun z=>h _ _ rfl rfl z) hs hi hg hx (.inl rfl) (ha _)
theorem vl(i:Nat){oi:Oper}{n:Next}{v:Value}{fuel:Nat}{listed:Array Bool}{a a':Act}{w w1:World}{rs:List Nat}(hS:S w1)
  (h:S w1→wpAnyH P md ops Q S fuel (listed.setIfInBounds i true) a' w1) (hs:AllReadyH P md ops Q S fuel listed a w rs)
  (hi:ops[i]? =some oi:=by first | (simp only[List.getElem?_toArray,List.getElem?_cons_zero];rfl) | (simp only[List.getElem?_toArray,List.getElem?_cons_succ,List.getElem?_cons_zero];rfl))
  (hg:Region.wanted oi (yielded ops a.tmps)=true:=by rfl)
  (hx:(execOp a.eval oi).run P w=.ok n w1:=by(try simp only[s_4,s_5,s_6]);go_simp;(try with_reducible rfl);(try exact⟨rfl,rfl⟩))
  (hn:(n=.value v)∨(n=.skip∧v=undef):=by first | exact .inr ⟨rfl,rfl⟩ | exact .inl rfl)
  (ha:a.put oi.dst v=a':=by simp only[Act.put,List.setIfInBounds_toArray,List.set_cons_zero,List.set_cons_succ,List.getElem_toArray,List.getElem_cons_succ,List.getElem_cons_zero];rfl):AllReadyH P md ops Q S fuel listed a w (i::rs):=
 vl_core hS h hs hi hg hx hn ha
end
end
section
open Go.RowKit Go.Shelf
attribute [local go_sem] Oper.semAt_some
theorem tsec_any(s:Int)(s0:0≤s)(s1:s≤1099511627776)(w:World):Calls Tryz.prog 53 #[.int .i64 s,.int .i64 1000] w fun e w'=>e=.returned (.tuple #[.agg #[.int .i64 (lowN s 1000),.int .i64 (lowD s 1000)],.int .i64 0])∧Below w.heap.size w w':=by
 by_cases c:s=0
 ·subst c
  have:=make_zero 1000 (by decide) (by decide) w
  rwa [←(low_zero (d:=1000) (by decide)).1,←(low_zero (d:=1000) (by decide)).2]at this
 ·have:=make_any s 1000 c (by omega) (by omega) (by decide) (by decide) w
  rwa [make_low (by decide),fit_low (by decide) (by omega) (by omega) (by decide)]at this
theorem sec_valid{s:Int}(s0:0≤s)(s1:s≤1099511627776):validF (lowN s 1000) (lowD s 1000)=true:=by
 have a:=lowN_le s 1000;have b:=lowD_le (n:=s) (d:=1000) (by decide);have c:=lowD_pos (n:=s) (d:=1000) (by decide);exact(validF_iff _ _).2 ⟨by omega,by omega,by omega,by omega,low_cop (by decide)⟩
theorem tpiece_any(x:Pc)(s z:Int)(up:Bool)(s0:0≤s)(s1:s≤1099511627776)(z0:0≤z)(z1:z≤1048576)(vf:validF x.f0 x.f1=true)(va:validF x.a0 x.a1=true)(vb:-1152921504606846976≤x.b0∧x.b0≤1152921504606846976)(vc:-1152921504606846976≤x.c0∧x.c0≤1152921504606846976)(w:World):
  Calls Tryz.prog 81 #[.agg #[.int .i64 x.f0,.int .i64 x.f1,.int .i64 x.a0,.int .i64 x.a1,.int .i64 x.b0,.int .i64 x.b1,.int .i64 x.c0,.int .i64 x.c1],.int .i64 s,.int .i64 z,.bool up] w fun e w'=>e=.returned (.tuple #[.agg #[.int .i64 (pieceP x s z up).1.f0,.int .i64 (pieceP x s z up).1.f1,.int .i64 (pieceP x s z up).1.a0,.int .i64 (pieceP x s z up).1.a1,.int .i64 (pieceP x s z up).1.b0,.int .i64 (pieceP x s z up).1.b1,.int .i64 (pieceP x s z up).1.c0,.int .i64 (pieceP x s z up).1.c1],.int .i64 (pieceP x s z up).2])∧Below w.heap.size w w':=by
 have HMK:=lh fun w'=>tsec_any s s0 s1 w';have HAF:=lh fun w'=>add_all (lowN s 1000) (lowD s 1000) x.f0 x.f1 (sec_valid s0 s1) vf w';have vz:validF z 1=true:=(validF_iff _ _).2 ⟨by decide,by decide,by omega,by omega,by simp⟩;have HAU:=lh fun w'=>add_all z 1 x.a0 x.a1 vz va w';have HAD:=lh fun w'=>sub_all z 1 x.a0 x.a1 vz va w';have HP0:Hid (pieceP x s z up=if(addP (lowN s 1000) (lowD s 1000) x.f0 x.f1).2.2=0 then(⟨(addP (lowN s 1000) (lowD s 1000) x.f0 x.f1).1,(addP (lowN s 1000) (lowD s 1000) x.f0 x.f1).2.1,(addP z 1 (if up then x.a0 else -x.a0) x.a1).1,(addP z 1 (if up then x.a0 else -x.a0) x.a1).2.1,if up then x.b0 else -x.b0,x.b1,if up then x.c0 else -x.c0,x.c1⟩,(addP z 1 (if up then x.a0 else -x.a0) x.a1).2.2)else(zPc,(addP (lowN s 1000) (lowD s 1000) x.f0 x.f1).2.2)):=lh (by unfold pieceP;split<;>rfl);generalize lowN s 1000=sn at *;generalize lowD s 1000=sd at *;obtain⟨Y,hY⟩:=nm (addP sn sd x.f0 x.f1);rw[hY]at HAF HP0;obtain⟨R,hR⟩:=nm (pieceP x s z up);rw[hR]at HP0⊢;clear hY hR;have hb:Below w.heap.size w ((w.alloc (.cells #[.int .i64 x.f0,.int .i64 x.f1,.int .i64 x.a0,.int .i64 x.a1,.int .i64 x.b0,.int .i64 x.b1,.int .i64 x.c0,.int .i64 x.c1] 122)).alloc (.cells #[.int .i64 0,.int .i64 0,.int .i64 0,.int .i64 0,.int .i64 0,.int .i64 0,.int .i64 0,.int .i64 0] 122)):=(below_new w _).alloc (by simp) _;have hx:=(PB.new w x 122).carry (below_new _ (.cells #[.int .i64 0,.int .i64 0,.int .i64 0,.int .i64 0,.int .i64 0,.int .i64 0,.int .i64 0,.int .i64 0] 122));have hr:=PB.new (w.alloc (.cells #[.int .i64 x.f0,.int .i64 x.f1,.int .i64 x.a0,.int .i64 x.a1,.int .i64 x.b0,.int .i64 x.b1,.int .i64 x.c0,.int .i64 x.c1] 122)) zPc 122;rw[show(w.alloc (.cells #[.int .i64 x.f0,.int .i64 x.f1,.int .i64 x.a0,.int .i64 x.a1,.int .i64 x.b0,.int .i64 x.b1,.int .i64 x.c0,.int .i64 x.c1] 122)).heap.size=w.heap.size+1 by simp]at hr
 change PB ((w.alloc (.cells #[.int .i64 x.f0,.int .i64 x.f1,.int .i64 x.a0,.int .i64 x.a1,.int .i64 x.b0,.int .i64 x.b1,.int .i64 x.c0,.int .i64 x.c1] 122)).alloc (.cells #[.int .i64 0,.int .i64 0,.int .i64 0,.int .i64 0,.int .i64 0,.int .i64 0,.int .i64 0,.int .i64 0] 122)) (w.heap.size+1) zPc at hr
 obtain⟨W0,hW0⟩:=nm (((w.alloc (.cells #[.int .i64 x.f0,.int .i64 x.f1,.int .i64 x.a0,.int .i64 x.a1,.int .i64 x.b0,.int .i64 x.b1,.int .i64 x.c0,.int .i64 x.c1] 122)).alloc (.cells #[.int .i64 0,.int .i64 0,.int .i64 0,.int .i64 0,.int .i64 0,.int .i64 0,.int .i64 0,.int .i64 0] 122)));rw[hW0]at hb hx hr;obtain⟨B,hB⟩:=nm (w.heap.size);obtain⟨C,hC⟩:=nm (B+1);have hne:C≠B:=by omega
 have HCB:Hid (w.heap.size≤C):=lh (by omega);rw[hB,hC]at hr;have HH:Hid (HP w.heap.size w B C W0):=lh ⟨⟨hb,⟨x,by rw[←hB];exact hx⟩,by omega⟩,⟨zPc,hr⟩,hne⟩;rw[hB]at hx;have HBB:=lh hb;have HX:=lh hx;have HR:=lh hr;have HB:=lh hB;clear hb hx hr
 go_enter Tryz.func81,Tryz.ntmps81
 go_upto_region 1 with (fail)
 try simp only[hW0]
 clear hW0
 try simp only[hB]
 try simp only[hC]
 clear hC hB
 go_upto_region 4 with (go_at_call 53;(with_reducible refine(HMK.out _).mono ?_);rintro e w1 ⟨rfl,hb1⟩)
 have hbn:=hb1.trans ((below_new w1 (.cells #[.int .i64 sn,.int .i64 sd] 49)).mono hb1.size);have hfi:=FI.put w1 sn sd 49;have HH1:=lh (HH.out.next hbn);have HX1:=lh (HX.out.carry hbn);have HR1:=lh (HR.out.carry hbn);clear hbn hb1 HX HR HBB HH;obtain⟨Bs,hBs⟩:=nm (w1.heap.size);simp only[hBs]at hfi⊢;clear hBs;generalize w1.alloc (.cells #[.int .i64 sn,.int .i64 sd] 49)=W1 at *;obtain⟨s0',s1',-,-,-⟩:=hfi;obtain⟨x0,x1,x2,x3,x4,x5,x6,x7,xf⟩:=HX1.out
 go_upto_region 5 with (go_at_call 124;(with_reducible refine(HAF.out _).mono ?_);rintro e w2 ⟨rfl,hb2⟩;clear x0 x1 x2 x3 x4 x5 x6 x7 xf;obtain⟨x0,x1,x2,x3,x4,x5,x6,x7,xf⟩:=HX1.out.carry hb2)
 have hx2:=(HX1.out.carry hb2).putF Y.1 Y.2.1;have hh2:=(HH1.out.next hb2).putAt hx2;have hr2:=((HR1.out.carry hb2).far HH1.out.ne (j:=0) (.int .i64 Y.1)).far HH1.out.ne (j:=1) (.int .i64 Y.2.1);clear x0 x1 x2 x3 x4 x5 x6 x7 xf HX1 HR1 HH1 hb2 s0' s1';obtain⟨W2,hW2⟩:=nm ((w2.setCell ⟨B,0,none⟩ (.int .i64 Y.1)).setCell ⟨B,1,none⟩ (.int .i64 Y.2.1));rw[hW2]at hx2 hh2 hr2;simp only[hW2];clear hW2
 by_cases ye:Y.2.2=0
 case neg=>
  have HRR:Hid (R=(zPc,Y.2.2)):=lh (by rw[HP0.out,if_neg ye]);have g:(Y.2.2 !=0)=true:=by simpa using ye
  have HBW:=lh hh2.h.old;have HR2:=lh hr2;obtain⟨r0,r1,r2,r3,r4,r5,r6,r7,rf⟩:=hr2;clear ye hx2 HP0
  go_wp2_with fail
  have hlo:=HCB.out;show bodyPost _ _ _ Exit.ret _ (setFrom W2 C 0 [.int .i64 0,.int .i64 0,.int .i64 0,.int .i64 0,.int .i64 0,.int .i64 0,.int .i64 0,.int .i64 0]);have hq:(setFrom W2 C 0 [.int .i64 0,.int .i64 0,.int .i64 0,.int .i64 0,.int .i64 0,.int .i64 0,.int .i64 0,.int .i64 0]).cell? ⟨C,0,none⟩=some (.int .i64 0)∧(setFrom W2 C 0 [.int .i64 0,.int .i64 0,.int .i64 0,.int .i64 0,.int .i64 0,.int .i64 0,.int .i64 0,.int .i64 0]).cell? ⟨C,1,none⟩=some (.int .i64 0)∧(setFrom W2 C 0 [.int .i64 0,.int .i64 0,.int .i64 0,.int .i64 0,.int .i64 0,.int .i64 0,.int .i64 0,.int .i64 0]).cell? ⟨C,2,none⟩=some (.int .i64 0)∧(setFrom W2 C 0 [.int .i64 0,.int .i64 0,.int .i64 0,.int .i64 0,.int .i64 0,.int .i64 0,.int .i64 0,.int .i64 0]).cell? ⟨C,3,none⟩=some (.int .i64 0)∧(setFrom W2 C 0 [.int .i64 0,.int .i64 0,.int .i64 0,.int .i64 0,.int .i64 0,.int .i64 0,.int .i64 0,.int .i64 0]).cell? ⟨C,4,none⟩=some (.int .i64 0)∧(setFrom W2 C 0 [.int .i64 0,.int .i64 0,.int .i64 0,.int .i64 0,.int .i64 0,.int .i64 0,.int .i64 0,.int .i64 0]).cell? ⟨C,5,none⟩=some (.int .i64 0)∧(setFrom W2 C 0 [.int .i64 0,.int .i64 0,.int .i64 0,.int .i64 0,.int .i64 0,.int .i64 0,.int .i64 0,.int .i64 0]).cell? ⟨C,6,none⟩=some (.int .i64 0)∧(setFrom W2 C 0 [.int .i64 0,.int .i64 0,.int .i64 0,.int .i64 0,.int .i64 0,.int .i64 0,.int .i64 0,.int .i64 0]).cell? ⟨C,7,none⟩=some (.int .i64 0):=pc_from zPc HR2.out;have hbb:=below_from (m:=w.heap.size) (b:=C) (W:=w) [.int .i64 0,.int .i64 0,.int .i64 0,.int .i64 0,.int .i64 0,.int .i64 0,.int .i64 0,.int .i64 0] W2 0 HBW.out (by have:=hlo;omega);generalize setFrom W2 C 0 [.int .i64 0,.int .i64 0,.int .i64 0,.int .i64 0,.int .i64 0,.int .i64 0,.int .i64 0,.int .i64 0]=WF at *;obtain⟨g0,g1,g2,g3,g4,g5,g6,g7⟩:=hq;refine bodyPost_ret (v:=.tuple #[.agg #[.int .i64 0,.int .i64 0,.int .i64 0,.int .i64 0,.int .i64 0,.int .i64 0,.int .i64 0,.int .i64 0],.int .i64 Y.2.2]) (by simp[results,Tryz.results81,go_sem,g0,g1,g2,g3,g4,g5,g6,g7]) rfl ⟨by first | (rw[HRR.out];done) | (rw[HRR.out];rfl),hbb⟩
 have g:(Y.2.2 !=0)=false:=by simp[ye]
 have HX2:=lh hx2;have HH2:=lh hh2;have HR2:=lh hr2;clear hx2 hh2 hr2
 cases up
 ·obtain⟨X,hX⟩:=nm (addP z 1 (-x.a0) x.a1)
  rw[hX]at HAD;have HRR:Hid (R=(⟨Y.1,Y.2.1,X.1,X.2.1,-x.b0,x.b1,-x.c0,x.c1⟩,X.2.2)):=lh (by rw[HP0.out,if_pos ye,←hX];rfl);clear hX ye HP0;obtain⟨x0,x1,x2,x3,x4,x5,x6,x7,xf⟩:=HX2.out;have wb:IntKind.i64.wrap (-x.b0)=-x.b0:=IntWalk.i64_in _ (by omega);have wc:IntKind.i64.wrap (-x.c0)=-x.c0:=IntWalk.i64_in _ (by omega)
  go_upto_region 11 with (fail)
  clear x0 x1 x2 x3 x4 x5 x6 x7 xf;have hx3:=(HX2.out.putB0 (-x.b0)).putC0 (-x.c0);have hh3:HP w.heap.size w B C ((W2.setCell ⟨B,4,none⟩ (.int .i64 (-x.b0))).setCell ⟨B,6,none⟩ (.int .i64 (-x.c0))):=HH2.out.putAt hx3;have hr3:=(HR2.out.far HH2.out.ne (j:=4) (.int .i64 (-x.b0))).far HH2.out.ne (j:=6) (.int .i64 (-x.c0));obtain⟨W3,hW3⟩:=nm ((W2.setCell ⟨B,4,none⟩ (.int .i64 (-x.b0))).setCell ⟨B,6,none⟩ (.int .i64 (-x.c0)));rw[hW3]at hx3 hh3 hr3;simp only[hW3];clear hW3 wb wc;clear HX2 HH2 HR2;have hxd:=hx3.carry (below_drewR W3);have hrd:=hr3.carry (below_drewR W3);have hhd:=hh3.next (below_drewR W3);clear hx3 hh3 hr3;refine wp_region_held_drew (S:=HP w.heap.size w B C) (by kernel_rfl) hhd (fun hHeld=>?_);refine tk 0 ?_;refine tk 2 ?_;obtain⟨q0,q1,q2,q3,q4,q5,q6,q7,qf⟩:=id hxd;refine ry [1,3] (rc 1 (twhole_any z _) (fun _ hb=>hHeld.next hb) (fun y1 hb hH1=>?_) (vl 3 hHeld (fun hH1=>?_) nl))
  ·have hp1:=hxd.carry hb
   have hr1:=hrd.carry hb;clear q0 q1 q2 q3 q4 q5 q6 q7 qf hxd hrd;obtain⟨q0,q1,q2,q3,q4,q5,q6,q7,qf⟩:=id hp1;refine ry [3] (vl 3 hH1 (fun hH2=>?_) nl);refine cl 4 (HAD.out _) (fun _ hb=>hH2.next hb) (fun y2 hb2 hH3=>?_);have hp2:=hp1.carry hb2;have hr2:=hr1.carry hb2
   (try clear q0 q1 q2 q3 q4 q5 q6 q7 qf)
   obtain⟨q0,q1,q2,q3,q4,q5,q6,q7,qf⟩:=id hp2;refine tk 5 ?_;refine tk 6 ?_;refine tk 7 ?_;refine tk 8 ?_;have hp3:=hp2.putA X.1 X.2.1;refine ry [9] (vl 9 (hH3.putAt hp3) (fun hH4=>?_) nl);refine tk 10 ?_;refine dn ?_;have HR4:=lh ((hr2.far hH3.ne (j:=2) (.int .i64 X.1)).far hH3.ne (j:=3) (.int .i64 X.2.1));have HBW:=lh hH4.h.old;clear q0 q1 q2 q3 q4 q5 q6 q7 qf hp2 hr2 hH3 hH2 hH1 hHeld hp1 hr1;obtain⟨W5,hW5⟩:=nm ((y2.setCell ⟨B,2,none⟩ (.int .i64 X.1)).setCell ⟨B,3,none⟩ (.int .i64 X.2.1));rw[hW5]at HR4 HBW hp3;simp only[hW5];clear hW5 hH4;obtain⟨q0,q1,q2,q3,q4,q5,q6,q7,qf⟩:=hp3;obtain⟨r0,r1,r2,r3,r4,r5,r6,r7,rf⟩:=HR4.out
   go_wp2_with fail
   have hlo:=HCB.out;show bodyPost _ _ _ Exit.ret _ (setFrom W5 C 0 [.int .i64 Y.1,.int .i64 Y.2.1,.int .i64 X.1,.int .i64 X.2.1,.int .i64 (-x.b0),.int .i64 x.b1,.int .i64 (-x.c0),.int .i64 x.c1]);have hq:(setFrom W5 C 0 [.int .i64 Y.1,.int .i64 Y.2.1,.int .i64 X.1,.int .i64 X.2.1,.int .i64 (-x.b0),.int .i64 x.b1,.int .i64 (-x.c0),.int .i64 x.c1]).cell? ⟨C,0,none⟩=some (.int .i64 Y.1)∧(setFrom W5 C 0 [.int .i64 Y.1,.int .i64 Y.2.1,.int .i64 X.1,.int .i64 X.2.1,.int .i64 (-x.b0),.int .i64 x.b1,.int .i64 (-x.c0),.int .i64 x.c1]).cell? ⟨C,1,none⟩=some (.int .i64 Y.2.1)∧(setFrom W5 C 0 [.int .i64 Y.1,.int .i64 Y.2.1,.int .i64 X.1,.int .i64 X.2.1,.int .i64 (-x.b0),.int .i64 x.b1,.int .i64 (-x.c0),.int .i64 x.c1]).cell? ⟨C,2,none⟩=some (.int .i64 X.1)∧(setFrom W5 C 0 [.int .i64 Y.1,.int .i64 Y.2.1,.int .i64 X.1,.int .i64 X.2.1,.int .i64 (-x.b0),.int .i64 x.b1,.int .i64 (-x.c0),.int .i64 x.c1]).cell? ⟨C,3,none⟩=some (.int .i64 X.2.1)∧(setFrom W5 C 0 [.int .i64 Y.1,.int .i64 Y.2.1,.int .i64 X.1,.int .i64 X.2.1,.int .i64 (-x.b0),.int .i64 x.b1,.int .i64 (-x.c0),.int .i64 x.c1]).cell? ⟨C,4,none⟩=some (.int .i64 (-x.b0))∧(setFrom W5 C 0 [.int .i64 Y.1,.int .i64 Y.2.1,.int .i64 X.1,.int .i64 X.2.1,.int .i64 (-x.b0),.int .i64 x.b1,.int .i64 (-x.c0),.int .i64 x.c1]).cell? ⟨C,5,none⟩=some (.int .i64 x.b1)∧(setFrom W5 C 0 [.int .i64 Y.1,.int .i64 Y.2.1,.int .i64 X.1,.int .i64 X.2.1,.int .i64 (-x.b0),.int .i64 x.b1,.int .i64 (-x.c0),.int .i64 x.c1]).cell? ⟨C,6,none⟩=some (.int .i64 (-x.c0))∧(setFrom W5 C 0 [.int .i64 Y.1,.int .i64 Y.2.1,.int .i64 X.1,.int .i64 X.2.1,.int .i64 (-x.b0),.int .i64 x.b1,.int .i64 (-x.c0),.int .i64 x.c1]).cell? ⟨C,7,none⟩=some (.int .i64 x.c1):=pc_from ⟨Y.1,Y.2.1,X.1,X.2.1,-x.b0,x.b1,-x.c0,x.c1⟩ HR4.out;have hbb:=below_from (m:=w.heap.size) (b:=C) (W:=w) [.int .i64 Y.1,.int .i64 Y.2.1,.int .i64 X.1,.int .i64 X.2.1,.int .i64 (-x.b0),.int .i64 x.b1,.int .i64 (-x.c0),.int .i64 x.c1] W5 0 HBW.out (by have:=hlo;omega);generalize setFrom W5 C 0 [.int .i64 Y.1,.int .i64 Y.2.1,.int .i64 X.1,.int .i64 X.2.1,.int .i64 (-x.b0),.int .i64 x.b1,.int .i64 (-x.c0),.int .i64 x.c1]=WF at *;obtain⟨g0,g1,g2,g3,g4,g5,g6,g7⟩:=hq;refine bodyPost_ret (v:=.tuple #[.agg #[.int .i64 Y.1,.int .i64 Y.2.1,.int .i64 X.1,.int .i64 X.2.1,.int .i64 (-x.b0),.int .i64 x.b1,.int .i64 (-x.c0),.int .i64 x.c1],.int .i64 X.2.2]) (by simp[results,Tryz.results81,go_sem,g0,g1,g2,g3,g4,g5,g6,g7]) rfl ⟨by first | (rw[HRR.out];done) | (rw[HRR.out];rfl),hbb⟩
  ·clear q0 q1 q2 q3 q4 q5 q6 q7 qf
   refine ry [1] (rc 1 (twhole_any z _) (fun _ hb=>hH1.next hb) (fun y1 hb hH2=>?_) nl);have hp1:=hxd.carry hb;have hr1:=hrd.carry hb;refine cl 4 (HAD.out _) (fun _ hb=>hH2.next hb) (fun y2 hb2 hH3=>?_);have hp2:=hp1.carry hb2;have hr2:=hr1.carry hb2
   (try clear q0 q1 q2 q3 q4 q5 q6 q7 qf)
   obtain⟨q0,q1,q2,q3,q4,q5,q6,q7,qf⟩:=id hp2;refine tk 5 ?_;refine tk 6 ?_;refine tk 7 ?_;refine tk 8 ?_;have hp3:=hp2.putA X.1 X.2.1;refine ry [9] (vl 9 (hH3.putAt hp3) (fun hH4=>?_) nl);refine tk 10 ?_;refine dn ?_;have HR4:=lh ((hr2.far hH3.ne (j:=2) (.int .i64 X.1)).far hH3.ne (j:=3) (.int .i64 X.2.1));have HBW:=lh hH4.h.old;clear q0 q1 q2 q3 q4 q5 q6 q7 qf hp2 hr2 hH3 hH2 hH1 hHeld hp1 hr1;obtain⟨W5,hW5⟩:=nm ((y2.setCell ⟨B,2,none⟩ (.int .i64 X.1)).setCell ⟨B,3,none⟩ (.int .i64 X.2.1));rw[hW5]at HR4 HBW hp3;simp only[hW5];clear hW5 hH4;obtain⟨q0,q1,q2,q3,q4,q5,q6,q7,qf⟩:=hp3;obtain⟨r0,r1,r2,r3,r4,r5,r6,r7,rf⟩:=HR4.out
   go_wp2_with fail
   have hlo:=HCB.out;show bodyPost _ _ _ Exit.ret _ (setFrom W5 C 0 [.int .i64 Y.1,.int .i64 Y.2.1,.int .i64 X.1,.int .i64 X.2.1,.int .i64 (-x.b0),.int .i64 x.b1,.int .i64 (-x.c0),.int .i64 x.c1]);have hq:(setFrom W5 C 0 [.int .i64 Y.1,.int .i64 Y.2.1,.int .i64 X.1,.int .i64 X.2.1,.int .i64 (-x.b0),.int .i64 x.b1,.int .i64 (-x.c0),.int .i64 x.c1]).cell? ⟨C,0,none⟩=some (.int .i64 Y.1)∧(setFrom W5 C 0 [.int .i64 Y.1,.int .i64 Y.2.1,.int .i64 X.1,.int .i64 X.2.1,.int .i64 (-x.b0),.int .i64 x.b1,.int .i64 (-x.c0),.int .i64 x.c1]).cell? ⟨C,1,none⟩=some (.int .i64 Y.2.1)∧(setFrom W5 C 0 [.int .i64 Y.1,.int .i64 Y.2.1,.int .i64 X.1,.int .i64 X.2.1,.int .i64 (-x.b0),.int .i64 x.b1,.int .i64 (-x.c0),.int .i64 x.c1]).cell? ⟨C,2,none⟩=some (.int .i64 X.1)∧(setFrom W5 C 0 [.int .i64 Y.1,.int .i64 Y.2.1,.int .i64 X.1,.int .i64 X.2.1,.int .i64 (-x.b0),.int .i64 x.b1,.int .i64 (-x.c0),.int .i64 x.c1]).cell? ⟨C,3,none⟩=some (.int .i64 X.2.1)∧(setFrom W5 C 0 [.int .i64 Y.1,.int .i64 Y.2.1,.int .i64 X.1,.int .i64 X.2.1,.int .i64 (-x.b0),.int .i64 x.b1,.int .i64 (-x.c0),.int .i64 x.c1]).cell? ⟨C,4,none⟩=some (.int .i64 (-x.b0))∧(setFrom W5 C 0 [.int .i64 Y.1,.int .i64 Y.2.1,.int .i64 X.1,.int .i64 X.2.1,.int .i64 (-x.b0),.int .i64 x.b1,.int .i64 (-x.c0),.int .i64 x.c1]).cell? ⟨C,5,none⟩=some (.int .i64 x.b1)∧(setFrom W5 C 0 [.int .i64 Y.1,.int .i64 Y.2.1,.int .i64 X.1,.int .i64 X.2.1,.int .i64 (-x.b0),.int .i64 x.b1,.int .i64 (-x.c0),.int .i64 x.c1]).cell? ⟨C,6,none⟩=some (.int .i64 (-x.c0))∧(setFrom W5 C 0 [.int .i64 Y.1,.int .i64 Y.2.1,.int .i64 X.1,.int .i64 X.2.1,.int .i64 (-x.b0),.int .i64 x.b1,.int .i64 (-x.c0),.int .i64 x.c1]).cell? ⟨C,7,none⟩=some (.int .i64 x.c1):=pc_from ⟨Y.1,Y.2.1,X.1,X.2.1,-x.b0,x.b1,-x.c0,x.c1⟩ HR4.out;have hbb:=below_from (m:=w.heap.size) (b:=C) (W:=w) [.int .i64 Y.1,.int .i64 Y.2.1,.int .i64 X.1,.int .i64 X.2.1,.int .i64 (-x.b0),.int .i64 x.b1,.int .i64 (-x.c0),.int .i64 x.c1] W5 0 HBW.out (by have:=hlo;omega);generalize setFrom W5 C 0 [.int .i64 Y.1,.int .i64 Y.2.1,.int .i64 X.1,.int .i64 X.2.1,.int .i64 (-x.b0),.int .i64 x.b1,.int .i64 (-x.c0),.int .i64 x.c1]=WF at *;obtain⟨g0,g1,g2,g3,g4,g5,g6,g7⟩:=hq;refine bodyPost_ret (v:=.tuple #[.agg #[.int .i64 Y.1,.int .i64 Y.2.1,.int .i64 X.1,.int .i64 X.2.1,.int .i64 (-x.b0),.int .i64 x.b1,.int .i64 (-x.c0),.int .i64 x.c1],.int .i64 X.2.2]) (by simp[results,Tryz.results81,go_sem,g0,g1,g2,g3,g4,g5,g6,g7]) rfl ⟨by first | (rw[HRR.out];done) | (rw[HRR.out];rfl),hbb⟩
 ·obtain⟨X,hX⟩:=nm (addP z 1 (x.a0) x.a1)
  rw[hX]at HAU;have HRR:Hid (R=(⟨Y.1,Y.2.1,X.1,X.2.1,x.b0,x.b1,x.c0,x.c1⟩,X.2.2)):=lh (by rw[HP0.out,if_pos ye,←hX];rfl);clear hX ye HP0;obtain⟨x0,x1,x2,x3,x4,x5,x6,x7,xf⟩:=HX2.out
  go_upto_region 8 with (fail)
  clear x0 x1 x2 x3 x4 x5 x6 x7 xf;have hx3:=HX2.out;have hh3:=HH2.out;have hr3:=HR2.out;clear HX2 HH2 HR2;have hxd:=hx3.carry (below_drewR W2);have hrd:=hr3.carry (below_drewR W2);have hhd:=hh3.next (below_drewR W2);clear hx3 hh3 hr3;refine wp_region_held_drew (S:=HP w.heap.size w B C) (by kernel_rfl) hhd (fun hHeld=>?_);refine tk 0 ?_;refine tk 2 ?_;obtain⟨q0,q1,q2,q3,q4,q5,q6,q7,qf⟩:=id hxd;refine ry [1,3] (rc 1 (twhole_any z _) (fun _ hb=>hHeld.next hb) (fun y1 hb hH1=>?_) (vl 3 hHeld (fun hH1=>?_) nl))
  ·have hp1:=hxd.carry hb
   have hr1:=hrd.carry hb;clear q0 q1 q2 q3 q4 q5 q6 q7 qf hxd hrd;obtain⟨q0,q1,q2,q3,q4,q5,q6,q7,qf⟩:=id hp1;refine ry [3] (vl 3 hH1 (fun hH2=>?_) nl);refine cl 4 (HAU.out _) (fun _ hb=>hH2.next hb) (fun y2 hb2 hH3=>?_);have hp2:=hp1.carry hb2;have hr2:=hr1.carry hb2
   (try clear q0 q1 q2 q3 q4 q5 q6 q7 qf)
   obtain⟨q0,q1,q2,q3,q4,q5,q6,q7,qf⟩:=id hp2;refine tk 5 ?_;refine tk 6 ?_;refine tk 7 ?_;refine tk 8 ?_;have hp3:=hp2.putA X.1 X.2.1;refine ry [9] (vl 9 (hH3.putAt hp3) (fun hH4=>?_) nl);refine tk 10 ?_;refine dn ?_;have HR4:=lh ((hr2.far hH3.ne (j:=2) (.int .i64 X.1)).far hH3.ne (j:=3) (.int .i64 X.2.1));have HBW:=lh hH4.h.old;clear q0 q1 q2 q3 q4 q5 q6 q7 qf hp2 hr2 hH3 hH2 hH1 hHeld hp1 hr1;obtain⟨W5,hW5⟩:=nm ((y2.setCell ⟨B,2,none⟩ (.int .i64 X.1)).setCell ⟨B,3,none⟩ (.int .i64 X.2.1));rw[hW5]at HR4 HBW hp3;simp only[hW5];clear hW5 hH4;obtain⟨q0,q1,q2,q3,q4,q5,q6,q7,qf⟩:=hp3;obtain⟨r0,r1,r2,r3,r4,r5,r6,r7,rf⟩:=HR4.out
   go_wp2_with fail
   have hlo:=HCB.out;show bodyPost _ _ _ Exit.ret _ (setFrom W5 C 0 [.int .i64 Y.1,.int .i64 Y.2.1,.int .i64 X.1,.int .i64 X.2.1,.int .i64 x.b0,.int .i64 x.b1,.int .i64 x.c0,.int .i64 x.c1]);have hq:(setFrom W5 C 0 [.int .i64 Y.1,.int .i64 Y.2.1,.int .i64 X.1,.int .i64 X.2.1,.int .i64 x.b0,.int .i64 x.b1,.int .i64 x.c0,.int .i64 x.c1]).cell? ⟨C,0,none⟩=some (.int .i64 Y.1)∧(setFrom W5 C 0 [.int .i64 Y.1,.int .i64 Y.2.1,.int .i64 X.1,.int .i64 X.2.1,.int .i64 x.b0,.int .i64 x.b1,.int .i64 x.c0,.int .i64 x.c1]).cell? ⟨C,1,none⟩=some (.int .i64 Y.2.1)∧(setFrom W5 C 0 [.int .i64 Y.1,.int .i64 Y.2.1,.int .i64 X.1,.int .i64 X.2.1,.int .i64 x.b0,.int .i64 x.b1,.int .i64 x.c0,.int .i64 x.c1]).cell? ⟨C,2,none⟩=some (.int .i64 X.1)∧(setFrom W5 C 0 [.int .i64 Y.1,.int .i64 Y.2.1,.int .i64 X.1,.int .i64 X.2.1,.int .i64 x.b0,.int .i64 x.b1,.int .i64 x.c0,.int .i64 x.c1]).cell? ⟨C,3,none⟩=some (.int .i64 X.2.1)∧(setFrom W5 C 0 [.int .i64 Y.1,.int .i64 Y.2.1,.int .i64 X.1,.int .i64 X.2.1,.int .i64 x.b0,.int .i64 x.b1,.int .i64 x.c0,.int .i64 x.c1]).cell? ⟨C,4,none⟩=some (.int .i64 x.b0)∧(setFrom W5 C 0 [.int .i64 Y.1,.int .i64 Y.2.1,.int .i64 X.1,.int .i64 X.2.1,.int .i64 x.b0,.int .i64 x.b1,.int .i64 x.c0,.int .i64 x.c1]).cell? ⟨C,5,none⟩=some (.int .i64 x.b1)∧(setFrom W5 C 0 [.int .i64 Y.1,.int .i64 Y.2.1,.int .i64 X.1,.int .i64 X.2.1,.int .i64 x.b0,.int .i64 x.b1,.int .i64 x.c0,.int .i64 x.c1]).cell? ⟨C,6,none⟩=some (.int .i64 x.c0)∧(setFrom W5 C 0 [.int .i64 Y.1,.int .i64 Y.2.1,.int .i64 X.1,.int .i64 X.2.1,.int .i64 x.b0,.int .i64 x.b1,.int .i64 x.c0,.int .i64 x.c1]).cell? ⟨C,7,none⟩=some (.int .i64 x.c1):=pc_from ⟨Y.1,Y.2.1,X.1,X.2.1,x.b0,x.b1,x.c0,x.c1⟩ HR4.out;have hbb:=below_from (m:=w.heap.size) (b:=C) (W:=w) [.int .i64 Y.1,.int .i64 Y.2.1,.int .i64 X.1,.int .i64 X.2.1,.int .i64 x.b0,.int .i64 x.b1,.int .i64 x.c0,.int .i64 x.c1] W5 0 HBW.out (by have:=hlo;omega);generalize setFrom W5 C 0 [.int .i64 Y.1,.int .i64 Y.2.1,.int .i64 X.1,.int .i64 X.2.1,.int .i64 x.b0,.int .i64 x.b1,.int .i64 x.c0,.int .i64 x.c1]=WF at *;obtain⟨g0,g1,g2,g3,g4,g5,g6,g7⟩:=hq;refine bodyPost_ret (v:=.tuple #[.agg #[.int .i64 Y.1,.int .i64 Y.2.1,.int .i64 X.1,.int .i64 X.2.1,.int .i64 x.b0,.int .i64 x.b1,.int .i64 x.c0,.int .i64 x.c1],.int .i64 X.2.2]) (by simp[results,Tryz.results81,go_sem,g0,g1,g2,g3,g4,g5,g6,g7]) rfl ⟨by first | (rw[HRR.out];done) | (rw[HRR.out];rfl),hbb⟩
  ·clear q0 q1 q2 q3 q4 q5 q6 q7 qf
   refine ry [1] (rc 1 (twhole_any z _) (fun _ hb=>hH1.next hb) (fun y1 hb hH2=>?_) nl);have hp1:=hxd.carry hb;have hr1:=hrd.carry hb;refine cl 4 (HAU.out _) (fun _ hb=>hH2.next hb) (fun y2 hb2 hH3=>?_);have hp2:=hp1.carry hb2;have hr2:=hr1.carry hb2
   (try clear q0 q1 q2 q3 q4 q5 q6 q7 qf)
   obtain⟨q0,q1,q2,q3,q4,q5,q6,q7,qf⟩:=id hp2;refine tk 5 ?_;refine tk 6 ?_;refine tk 7 ?_;refine tk 8 ?_;have hp3:=hp2.putA X.1 X.2.1;refine ry [9] (vl 9 (hH3.putAt hp3) (fun hH4=>?_) nl);refine tk 10 ?_;refine dn ?_;have HR4:=lh ((hr2.far hH3.ne (j:=2) (.int .i64 X.1)).far hH3.ne (j:=3) (.int .i64 X.2.1));have HBW:=lh hH4.h.old;clear q0 q1 q2 q3 q4 q5 q6 q7 qf hp2 hr2 hH3 hH2 hH1 hHeld hp1 hr1;obtain⟨W5,hW5⟩:=nm ((y2.setCell ⟨B,2,none⟩ (.int .i64 X.1)).setCell ⟨B,3,none⟩ (.int .i64 X.2.1));rw[hW5]at HR4 HBW hp3;simp only[hW5];clear hW5 hH4;obtain⟨q0,q1,q2,q3,q4,q5,q6,q7,qf⟩:=hp3;obtain⟨r0,r1,r2,r3,r4,r5,r6,r7,rf⟩:=HR4.out
   go_wp2_with fail
   have hlo:=HCB.out;show bodyPost _ _ _ Exit.ret _ (setFrom W5 C 0 [.int .i64 Y.1,.int .i64 Y.2.1,.int .i64 X.1,.int .i64 X.2.1,.int .i64 x.b0,.int .i64 x.b1,.int .i64 x.c0,.int .i64 x.c1]);have hq:(setFrom W5 C 0 [.int .i64 Y.1,.int .i64 Y.2.1,.int .i64 X.1,.int .i64 X.2.1,.int .i64 x.b0,.int .i64 x.b1,.int .i64 x.c0,.int .i64 x.c1]).cell? ⟨C,0,none⟩=some (.int .i64 Y.1)∧(setFrom W5 C 0 [.int .i64 Y.1,.int .i64 Y.2.1,.int .i64 X.1,.int .i64 X.2.1,.int .i64 x.b0,.int .i64 x.b1,.int .i64 x.c0,.int .i64 x.c1]).cell? ⟨C,1,none⟩=some (.int .i64 Y.2.1)∧(setFrom W5 C 0 [.int .i64 Y.1,.int .i64 Y.2.1,.int .i64 X.1,.int .i64 X.2.1,.int .i64 x.b0,.int .i64 x.b1,.int .i64 x.c0,.int .i64 x.c1]).cell? ⟨C,2,none⟩=some (.int .i64 X.1)∧(setFrom W5 C 0 [.int .i64 Y.1,.int .i64 Y.2.1,.int .i64 X.1,.int .i64 X.2.1,.int .i64 x.b0,.int .i64 x.b1,.int .i64 x.c0,.int .i64 x.c1]).cell? ⟨C,3,none⟩=some (.int .i64 X.2.1)∧(setFrom W5 C 0 [.int .i64 Y.1,.int .i64 Y.2.1,.int .i64 X.1,.int .i64 X.2.1,.int .i64 x.b0,.int .i64 x.b1,.int .i64 x.c0,.int .i64 x.c1]).cell? ⟨C,4,none⟩=some (.int .i64 x.b0)∧(setFrom W5 C 0 [.int .i64 Y.1,.int .i64 Y.2.1,.int .i64 X.1,.int .i64 X.2.1,.int .i64 x.b0,.int .i64 x.b1,.int .i64 x.c0,.int .i64 x.c1]).cell? ⟨C,5,none⟩=some (.int .i64 x.b1)∧(setFrom W5 C 0 [.int .i64 Y.1,.int .i64 Y.2.1,.int .i64 X.1,.int .i64 X.2.1,.int .i64 x.b0,.int .i64 x.b1,.int .i64 x.c0,.int .i64 x.c1]).cell? ⟨C,6,none⟩=some (.int .i64 x.c0)∧(setFrom W5 C 0 [.int .i64 Y.1,.int .i64 Y.2.1,.int .i64 X.1,.int .i64 X.2.1,.int .i64 x.b0,.int .i64 x.b1,.int .i64 x.c0,.int .i64 x.c1]).cell? ⟨C,7,none⟩=some (.int .i64 x.c1):=pc_from ⟨Y.1,Y.2.1,X.1,X.2.1,x.b0,x.b1,x.c0,x.c1⟩ HR4.out;have hbb:=below_from (m:=w.heap.size) (b:=C) (W:=w) [.int .i64 Y.1,.int .i64 Y.2.1,.int .i64 X.1,.int .i64 X.2.1,.int .i64 x.b0,.int .i64 x.b1,.int .i64 x.c0,.int .i64 x.c1] W5 0 HBW.out (by have:=hlo;omega);generalize setFrom W5 C 0 [.int .i64 Y.1,.int .i64 Y.2.1,.int .i64 X.1,.int .i64 X.2.1,.int .i64 x.b0,.int .i64 x.b1,.int .i64 x.c0,.int .i64 x.c1]=WF at *;obtain⟨g0,g1,g2,g3,g4,g5,g6,g7⟩:=hq;refine bodyPost_ret (v:=.tuple #[.agg #[.int .i64 Y.1,.int .i64 Y.2.1,.int .i64 X.1,.int .i64 X.2.1,.int .i64 x.b0,.int .i64 x.b1,.int .i64 x.c0,.int .i64 x.c1],.int .i64 X.2.2]) (by simp[results,Tryz.results81,go_sem,g0,g1,g2,g3,g4,g5,g6,g7]) rfl ⟨by first | (rw[HRR.out];done) | (rw[HRR.out];rfl),hbb⟩
end
end Go.Proofs.YtebofaenlhhkaaaGreat
