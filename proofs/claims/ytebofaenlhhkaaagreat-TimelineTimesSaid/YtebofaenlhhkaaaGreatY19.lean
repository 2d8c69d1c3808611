import Derived.Laws.AppendOwnNone
import Derived.Test.YtebofaenlhhkaaaGreatY18
namespace Go.Proofs.YtebofaenlhhkaaaGreat
set_option maxRecDepth 100000
set_option maxHeartbeats 80000000
set_option linter.unusedSimpArgs false
section
open Go.RowKit Go.Shelf
attribute [local go_sem] Oper.semAt_some
noncomputable def Yh(h:Ae)(s:Aq)(G:List Int):Bool:=Kj h 5&&(Kn s 6&&decide (G.length≤100))
theorem AGq{h:Ae}{s:Aq}{G:List Int}(e:Yh h s G=true):Uk h 5∧Td s 6∧G.length≤100:=by
 unfold Yh at e;simp only[Bool.and_eq_true,decide_eq_true_eq]at e;exact⟨Rc.1 e.1,Qt.1 e.2.1,e.2.2⟩
theorem Rs(h:Ae)(s:Aq)(ga:Option Addr)(G:List Int)(gc:Nat)(w:World)(hh:HouseIn0 w h)(hs:SheetIn0 w s)(hG:Bl w.heap.size w ga G):
  Calls Tryz.prog 11 #[.agg #[.string h.name,.int .i64 h.height,.slice h.sa h.sets.length h.sc,.slice h.ra h.roofs.length h.rc],.agg #[.slice s.ca s.cues.length s.cc,.slice s.pa s.pairs.length s.pc],.slice ga G.length gc] w fun e w'=>e=.returned (.bool (Yh h s G))∧Below w.heap.size w w':=by
 obtain⟨hb0,HX,HW⟩:=o3 hh hs hG;clear hh hs hG hb0;have HC1:=lh fun (w':World) (z:HouseIn0 w' h)=>AFa h 5 (by omega) (by omega) w' z;have HC2:=lh fun (w':World) (z:SheetIn0 w' s)=>AEd s 6 (by omega) (by omega) w' z;have HZ:Hid (Yh h s G=(Kj h 5&&(Kn s 6&&decide (G.length≤100)))):=lh rfl;obtain⟨p,hp⟩:=nm (Kj h 5);obtain⟨q,hq⟩:=nm (Kn s 6);obtain⟨r,hr⟩:=nm (decide (G.length≤100));have g1:decide ((G.length:Int)≤100)=r:=by rw[←hr];exact decide_eq_decide.2 (by omega)
 rw[hp,hq,hr]at HZ;rw[hp]at HC1;rw[hq]at HC2;clear hp hq hr
 cases p
 ·go_enter Tryz.func11,Tryz.ntmps11
  go_upto_region 1 with (fail)
  obtain⟨W0,hW0⟩:=nm ((Fo w h s):World);simp only[hW0]at HX HW⊢;clear hW0;obtain⟨B1,hB1⟩:=nm (w.heap.size);obtain⟨B2,hB2⟩:=nm (w.heap.size+1);rw[hB2]at HX⊢;rw[hB1]at HX⊢;clear hB1 hB2;obtain⟨⟨a0,a1,a2,a3⟩,⟨s0,s1⟩,-,-,-⟩:=HX.out _ br
  go_wp2_with (go_at_call 42;go_fit (HC1.out _ (HX.out _ br).2.2.1);rintro e w1 ⟨rfl,hb1⟩)
  go_ret;exact⟨Ab (by rw[HZ.out];rfl),HW.out _ hb1⟩
 ·cases q
  ·go_enter Tryz.func11,Tryz.ntmps11
   go_upto_region 1 with (fail)
   obtain⟨W0,hW0⟩:=nm ((Fo w h s):World);simp only[hW0]at HX HW⊢;clear hW0;obtain⟨B1,hB1⟩:=nm (w.heap.size);obtain⟨B2,hB2⟩:=nm (w.heap.size+1);rw[hB2]at HX⊢;rw[hB1]at HX⊢;clear hB1 hB2;obtain⟨⟨a0,a1,a2,a3⟩,⟨s0,s1⟩,-,-,-⟩:=HX.out _ br
   go_wp2_with (first
    | (go_at_call 42;go_fit (HC1.out _ (HX.out _ br).2.2.1);rintro e w1 ⟨rfl,hb1⟩;obtain⟨-,⟨t0,t1⟩,-,-,-⟩:=HX.out _ hb1)
    | (go_at_call 43;go_fit (HC2.out _ (HX.out _ hb1).2.2.2.1);rintro e w2 ⟨rfl,hb2⟩;have hb3:=hb1.trans (hb2.mono hb1.size)))
   go_ret;exact⟨Ab (by rw[HZ.out];rfl),HW.out _ hb3⟩
  ·go_enter Tryz.func11,Tryz.ntmps11
   go_upto_region 1 with (fail)
   obtain⟨W0,hW0⟩:=nm ((Fo w h s):World);simp only[hW0]at HX HW⊢;clear hW0;obtain⟨B1,hB1⟩:=nm (w.heap.size);obtain⟨B2,hB2⟩:=nm (w.heap.size+1);rw[hB2]at HX⊢;rw[hB1]at HX⊢;clear hB1 hB2;obtain⟨⟨a0,a1,a2,a3⟩,⟨s0,s1⟩,-,-,-⟩:=HX.out _ br
   go_wp2_with (first
    | (go_at_call 42;go_fit (HC1.out _ (HX.out _ br).2.2.1);rintro e w1 ⟨rfl,hb1⟩;obtain⟨-,⟨t0,t1⟩,-,-,-⟩:=HX.out _ hb1)
    | (go_at_call 43;go_fit (HC2.out _ (HX.out _ hb1).2.2.2.1);rintro e w2 ⟨rfl,hb2⟩;have hb3:=hb1.trans (hb2.mono hb1.size)))
   go_ret;exact⟨Ab (by rw[HZ.out];rfl),HW.out _ hb3⟩
end
section
open Go.RowKit Go.Shelf
/-! ### Slices of []int -/
structure Ew where
 a:Option Addr
 xs:List Int
 c:Nat

def lg(L:List (Ew))(i:Nat):Ew:=(L[i]?).getD ⟨none,[],0⟩
theorem ANa(L:List (Ew))(x:Ew)(i:Nat)(h:i<L.length):lg (L++[x]) i=lg L i:=by unfold lg;rw[List.getElem?_append_left h]
theorem ABh(L:List (Ew))(x:Ew):lg (L++[x]) L.length=x:=by unfold lg;simp
def AKq(r:Ew):Value:=.slice r.a r.xs.length r.c
def Hm(L:List (Ew)):List Value:=L.flatMap fun r=>[.slice r.a r.xs.length r.c]
theorem AEs(L:List (Ew))(i:Nat)(hi:i<L.length):(Hm L)[i]? =some (.slice (lg L i).a (lg L i).xs.length (lg L i).c):=by
 induction L generalizing i with
 | nil=>simp at hi
 | cons x r ih=>
  match i with
  | 0=>exact rfl
  | i+1=>
   have:=ih i (by simpa using hi);have e:Hm (x::r)=.slice x.a x.xs.length x.c::Hm r:=rfl;rw[e,show(i+1)=i+1 by omega]
   simpa[lg]using this
theorem Vu(L:List (Ew))(r:Ew):Hm (L++[r])=Hm L++[.slice r.a r.xs.length r.c]:=by simp[Hm]
def Qe(n₀:Nat)(w:World)(a:Option Addr)(L:List (Ew)):Prop:=
 0<L.length→∃b off,a=some ⟨b,off,none⟩∧b<n₀∧∀i,i<L.length→w.cell? ⟨b,off+i,none⟩=some (.slice (lg L i).a (lg L i).xs.length (lg L i).c)
theorem Qe.below{n₀:Nat}{w w':World}{a:Option Addr}{L:List (Ew)}(h:Qe n₀ w a L)(hb:Below n₀ w w'):Qe n₀ w' a L:=fun hl=>by
 obtain⟨b,off,rfl,hlt,hc⟩:=h hl;refine⟨b,off,rfl,hlt,fun i hi=>?_⟩;have c0:=hc i hi;exact(ct hb c0 hlt)
theorem Qe.mono{n₀ n₁:Nat}{w:World}{a:Option Addr}{L:List (Ew)}(h:Qe n₀ w a L)(hn:n₀≤n₁):Qe n₁ w a L:=fun hl=>by
 obtain⟨b,off,rfl,hlt,hc⟩:=h hl;exact⟨b,off,rfl,by omega,hc⟩
theorem Qe.grow{w w':World}{a:Option Addr}{L:List (Ew)}(h:Qe w.heap.size w a L)(hb:Below w.heap.size w w'):Qe w'.heap.size w' a L:=(h.below hb).mono hb.size
theorem Qe.nil{n₀:Nat}{w:World}{a:Option Addr}:Qe n₀ w a []:=fun h=>absurd h (Nat.not_lt_zero _)
theorem Qe.take{n₀:Nat}{w:World}{a:Option Addr}{L:List (Ew)}(h:Qe n₀ w a L)(n:Nat):Qe n₀ w a (L.take n):=fun hl=>by
 have hl':0<L.length:=by rw[List.length_take]at hl;omega
 obtain⟨b,off,rfl,hlt,hc⟩:=h hl';refine⟨b,off,rfl,hlt,fun i hi=>?_⟩;rw[List.length_take]at hi;have e:lg (L.take n) i=lg L i:=by unfold lg;rw[List.getElem?_take,if_pos (by omega)]
 rw[e];exact hc i (by omega)
theorem AFc{w:World}{base:Nat}{v:Value}{L:List (Ew)}(h:w.ownsRow base 30 1 v L.length (Hm L)):∃a cap,v=.slice a L.length cap∧L.length≤cap∧cap≤maxLen∧(a=none→cap=0)∧Qe w.heap.size w a L:=by
 rcases h.2 with ⟨rfl,h0⟩ | ⟨g,cap,cur,rfl,hb,hg,h1,h2,_⟩
 ·exact⟨none,0,by rw[h0],by omega,by unfold maxLen;omega,fun _=>rfl,fun hl=>by omega⟩
 ·refine⟨_,cap,rfl,h1,h2,(fun e=>by cases e),fun _=>⟨g,0,rfl,(Array.getElem?_eq_some_iff.1 hg).1,fun i hi=>?_⟩⟩
  have f0:=AEs L i hi;have c0:=h.cellAt (i) (by omega);rw[f0]at c0;rw[Nat.zero_add];exact c0
theorem AEq:(Tryz.prog.info? 30).map (fun i=>(i.zero,i.size,i.bytes))=some (some (.slice none 0 0),1,24):=by kernel_rfl

theorem AGl{ops:Array Oper}{rest:List Oper}{o:Oper}{a:Act}{w:World}{Q:Exit→Act→World→Prop}(hgd:o.guard=none)(s x:Operand)
  (ho:o.op=.call {callee:=.builtin .append,args:=#[s,x],argTypes:=#[53,53]})
  (base:Nat) (v:Value) (L:List (Ew)) (hs:a.eval s=v) (hown:w.ownsRow base 30 1 v L.length (Hm L))
  (bl:Nat) (y:Ew) (hx:a.eval x=.slice (some ⟨bl,0,none⟩) 1 1) (hc:w.cell? ⟨bl,0,none⟩=some (.slice y.a y.xs.length y.c)) (hl:L.length≤1000000) (hbase:base≤w.heap.size)
  (h:∀v' w',w'.ownsRow base 30 1 v' (L++[y]).length (Hm (L++[y]))→w.grownBy w' v.ownBlock→wpList Tryz.prog ops Q rest (a.put o.dst v') w'):wpList Tryz.prog ops Q (o::rest) a w:=by
 obtain⟨i0,hi,hz0,hz1,hz2⟩:=info_parts AEq;refine wpList_append_own _ hgd s x 53 ho base 30 i0 _ 1 24 Tryz.underlying53 hi hz0 hz1 hz2 rfl (by decide) v L.length (Hm L) hs hown ⟨bl,0,none⟩ 1 1 [.slice y.a y.xs.length y.c] hx rfl ?_ (by simp[Value.oneCell']) (by unfold maxLen;omega) (by omega) hbase ?_
 ·have c0:=hc
  intro j u hj;rw[Go.WideShapes.add_plain,Nat.zero_add]
  match j,hj with
  | 0,hj=>simp at hj;subst hj;exact c0
 ·intro v' w' h1 h2 _
  refine h v' w' ?_ h2;rw[Vu,List.length_append];exact h1

theorem AJu{w:World}{base base' size size' n n':Nat}{e e':TypeId}{v v':Value}{xs xs':List Value}(h:w.ownsRow base e size v n xs)(h':w.ownsRow base' e' size' v' n' xs')(ne:e≠e'):v.ownBlock=none∨v.ownBlock≠v'.ownBlock:=by
 rcases h.2 with ⟨rfl,_⟩ | ⟨g,cap,cur,rfl,_,hg,_⟩
 ·exact .inl rfl
 ·refine .inr fun q=>?_
  rcases h'.2 with ⟨rfl,_⟩ | ⟨g',cap',cur',rfl,_,hg',_⟩
  ·simp[Value.ownBlock]at q
  ·simp only[Value.ownBlock,Option.some.injEq]at q
   subst q;rw[hg]at hg';simp only[Option.some.injEq,Obj.cells.injEq]at hg';exact ne hg'.2.1
def Gd(w:World)(base:Nat)(P:List Ew):Prop:=∀i,i<P.length→w.ownsRow base 3 1 (AKq (lg P i)) (lg P i).xs.length (Ap (lg P i).xs)
theorem Gd.below{w w':World}{base:Nat}{P:List Ew}(h:Gd w base P)(hb:Below w.heap.size w w'):Gd w' base P:=fun i hi=>Ac (h i hi) hb
theorem Gd.kept{w w':World}{base base' n:Nat}{P:List Ew}{v:Value}{xs:List Value}(h:Gd w base P)(hv:w.ownsRow base' 30 1 v n xs)(hg:w.grownBy w' v.ownBlock):Gd w' base P:=
 fun i hi=>(h i hi).kept hg (AJu (h i hi) hv (by decide))
theorem Gd.snoc{w:World}{base:Nat}{P:List Ew}{y:Ew}(h:Gd w base P)(hy:w.ownsRow base 3 1 (AKq y) y.xs.length (Ap y.xs)):Gd w base (P++[y]):=fun i hi=>by
 rw[List.length_append,List.length_singleton]at hi;rcases Nat.lt_or_ge i P.length with l | l
 ·rw[ANa P y i l];exact h i l
 ·obtain rfl:i=P.length:=by omega
  rw[ABh];exact hy
theorem Gd.base{w:World}{base base':Nat}{P:List Ew}(h:Gd w base P)(hb:base'≤base):Gd w base' P:=fun i hi=>Bn (h i hi) hb
theorem Gd.nums{w:World}{base:Nat}{P:List Ew}(h:Gd w base P){i:Nat}(hi:i<P.length):Bl w.heap.size w (lg P i).a (lg P i).xs:=by
 obtain⟨a,cap,e,_,_,_,hn⟩:=Be (h i hi);unfold AKq at e
 cases e
 exact hn
end
section
open Go.RowKit Go.Shelf
attribute [local go_sem] Oper.semAt_some
theorem Rh:∀(X:List Int) (i:Nat) (v:Int),Ap (X.set i v)=(Ap X).set i (.int .i64 v)
 | [],_,_=>rfl
 | x::X,0,v=>rfl
 | x::X,i+1,v=>by
  have e:∀(y:Int) (Q:List Int),Ap (y::Q)=.int .i64 y::Ap Q:=fun _ _=>rfl;rw[List.set_cons_succ,e,e,List.set_cons_succ,Rh X i v]
structure Gq(n₀:Nat)(W0:World)(B:Nat)(x:Mv)(w:World):Prop where
 old:Below n₀ W0 w
 mv:Jx w B x
theorem AFs{w:World}{B g o:Nat}{x:Mv}(h:Jx w B x)(hg:g<B)(v:Value):Jx (w.setCell ⟨g,o,none⟩ v) B x:=by
 have ne:∀k,(⟨g,o,none⟩:Addr)≠⟨B,k,none⟩:=fun k e=>by cases e;omega
 obtain⟨a0,a1,a2,a3,a4⟩:=h;exact⟨(World.cell?_setCell_other _ _ _ _ (ne 0)).trans a0,(World.cell?_setCell_other _ _ _ _ (ne 1)).trans a1,(World.cell?_setCell_other _ _ _ _ (ne 2)).trans a2,(World.cell?_setCell_other _ _ _ _ (ne 3)).trans a3,(World.cell?_setCell_other _ _ _ _ (ne 4)).trans a4⟩
theorem AKn(h:Ae)(q:An)(ta:Option Addr)(t:List Int)(tc:Nat)(w:World)(hh:HouseIn0 w h)(hl:h.sets.length≤1000)(hm:Ei w.heap.size w q.ma q.moves)(hml:q.moves.length≤1000)
  (ht:Bl w.heap.size w ta t) (htl:t.length=h.sets.length) (htn:ta=none→tc=0) (hok:∀i,i<q.moves.length→0≤Cv h.sets (mg q.moves i).name):
  Calls Tryz.prog 57 #[.agg #[.string h.name,.int .i64 h.height,.slice h.sa h.sets.length h.sc,.slice h.ra h.roofs.length h.rc],.slice ta t.length tc,.agg #[.string q.name,.string q.after,.int .i64 q.link,.int .i64 q.delay,.slice q.ma q.moves.length q.mc,.int .i64 q.crew,.int .i64 q.power]] w fun e w'=>Hid (∃v,e=.returned v∧w'.ownsRow w.heap.size 3 1 v (Dq h t q.moves).length (Ap (Dq h t q.moves)))∧Below w.heap.size w w':=by
 have hb0:Below w.heap.size w ((w.alloc (Ex h)).alloc (Eu q)):=(Aa w _).alloc (by simp) _
 have HX:Hid (∀w',Below ((w.alloc (Ex h)).alloc (Eu q)).heap.size ((w.alloc (Ex h)).alloc (Eu q)) w'→Au w' w.heap.size h∧Cx w' (w.heap.size+1) q∧HouseIn0 w' h∧Ei w'.heap.size w' q.ma q.moves):=lh fun w' z=>
  ⟨((Au.new w h _).carry (Aa _ _)).carry z,(Cx.new (w.alloc _) q _ _ (by simp)).carry z,(hh.grow hb0).grow z,(hm.grow hb0).grow z⟩
 have HT:=lh (ht.grow hb0);have HW:Hid (∀w',Below ((w.alloc (Ex h)).alloc (Eu q)).heap.size ((w.alloc (Ex h)).alloc (Eu q)) w'→Below w.heap.size w w'):=lh fun w' z=>hb0.trans (z.mono hb0.size);have hsz:=hb0.size;have hml2:(Dq h t q.moves).length=t.length:=Jc h q.moves t;have HOK:=lh hok;have HTN:=lh htn;have HML2:=lh hml2;have HTLL:=lh htl;have HCL:=lh fun (W0:World) (z:Bl W0.heap.size W0 ta t)=>AJh ta t tc W0 (by omega) htn z;clear hh hb0 hm ht hok htn hml2 htl
 go_enter Tryz.func57,Tryz.ntmps57
 go_upto_region 1 with (fail)
 obtain⟨W0,hW0⟩:=nm (((w.alloc (Ex h)).alloc (Eu q)):World);simp only[hW0]at HX HW HT hsz⊢;clear hW0;obtain⟨B1,hB1⟩:=nm (w.heap.size);obtain⟨B2,hB2⟩:=nm (w.heap.size+1);have HSB:Hid (B1=w.heap.size):=lh hB1.symm;rw[hB2]at HX⊢;rw[hB1]at HX hsz⊢;clear hB1 hB2;obtain⟨qa,hqa⟩:=nm (q.ma);have HQA:=lh hqa;rw[hqa]at HX⊢;clear hqa;obtain⟨n₀,hn0⟩:=nm (W0.heap.size);have HCL2:=lh (HCL.out W0 HT.out);rw[hn0]at HCL2
 go_upto_region 3 with (go_at_call 23;go_fit HCL2.out;rintro e w1 hx1;obtain⟨v1,rfl,hr1,hb1⟩:=hx1.out;have HR1:=lh hr1;obtain⟨-,⟨c0,c1,c2,c3,c4,c5,c6⟩,-,-⟩:=HX.out _ (by rw[hn0];exact hb1);rw[HQA.out]at c4;clear hx1 hr1)
 have HXX:Hid (∀w',Below n₀ W0 w'→Au w' B1 h∧Cx w' B2 q∧HouseIn0 w' h∧Ei w'.heap.size w' qa q.moves):=lh fun w' z=>by rw[←hn0]at z;exact HX.out w' z
 have HWW:Hid (∀w',Below n₀ W0 w'→Below w.heap.size w w'):=lh fun w' z=>by rw[←hn0]at z;exact HW.out w' z
 have hn1:n₀≤w1.heap.size:=by have:=hb1.size;omega
 have hsz2:B1≤n₀:=by rw[←hn0];exact hsz
 clear c0 c1 c2 c3 c4 c5 c6 HX HW HCL HCL2 hn0 HT hsz;rw[HTLL.out]at HR1
 go_loopw [9,15] (fun _ iv wr=>∃k:Nat,iv=.int .i64 k∧k≤q.moves.length∧Below n₀ W0 wr∧n₀≤wr.heap.size∧Hid (wr.ownsRow n₀ 3 1 v1 h.sets.length (Ap (Dq h t (q.moves.take k))))) (fun _ iv _=>q.moves.length-(intOf iv).toNat)
 case atStart=>exact⟨0,rfl,nz,hb1,hn1,lh (by rw[List.take_zero];exact HR1.out)⟩
 case round=>
  clear HR1 hb1 hn1;obtain⟨k,rfl,hk,hB,hnw,HR⟩:=hrel
  by_cases hlt:k<q.moves.length
  ·obtain⟨⟨a0,a1,a2,a3⟩,-,-,hmv⟩:=HXX.out _ hB
   obtain⟨mb,mo,hma,hmb,hmx⟩:=hmv (by omega);subst hma;obtain⟨d0,d1,d2,d3,d4⟩:=hmx k hlt;have HSN:=lh (Oe h t q.moves hlt);have hf0:=HOK.out k hlt;have hf1:=(Jb hf0).1;have HTL:Hid ((Dq h t (q.moves.take k)).length=h.sets.length):=lh (by rw[Jc,HTLL.out]);obtain⟨x,hx⟩:=nm (mg q.moves k);rw[hx]at d0 d1 d2 d3 d4 HSN hf0 hf1;obtain⟨f,hf⟩:=nm (Cv h.sets x.name);have HF:=lh hf;rw[hf]at hf0 hf1 HSN;have hf2:f<(h.sets.length:Int):=by omega
   obtain⟨T,hT⟩:=nm (Dq h t (q.moves.take k));rw[hT]at HR HSN HTL;clear hx hf hmx hmv hT
   have hvv:∃g cap,v1=.slice (some ⟨g,0,none⟩) h.sets.length cap∧n₀≤g:=by
    rcases HR.out.2 with ⟨_,e0⟩ | ⟨g,cap,cur,e,hb,_⟩
    ·omega
    ·exact⟨g,cap,e,hb⟩
   obtain⟨g,cap,hv1,hgn⟩:=hvv;subst hv1;have hgw:g<wr.heap.size:=(HR.out.lt _ rfl).2;have HSETC:=lh fun (w':World) (z:HouseIn0 w' h)=>Xs h x.name w' z hl;have hBX:=(hB.alloc hnw (.cells #[.string x.name,.int .i64 x.to,.int .i64 x.spd,.int .i64 x.rise,.int .i64 x.fall] 94));have HAX:Hid (Jx (wr.alloc (.cells #[.string x.name,.int .i64 x.to,.int .i64 x.spd,.int .i64 x.rise,.int .i64 x.fall] 94)) wr.heap.size x):=lh (Jx.new wr x _);have HRX:=lh (HR.out.alloc (.cells #[.string x.name,.int .i64 x.to,.int .i64 x.spd,.int .i64 x.rise,.int .i64 x.fall] 94));have hnx:n₀≤(wr.alloc (.cells #[.string x.name,.int .i64 x.to,.int .i64 x.spd,.int .i64 x.rise,.int .i64 x.fall] 94)).heap.size:=by simp;omega
   clear HR hB
   go_upto_region 5 with (fail)
   generalize wr.alloc (.cells #[.string x.name,.int .i64 x.to,.int .i64 x.spd,.int .i64 x.rise,.int .i64 x.fall] 94)=W3 at *;obtain⟨B4,hB4⟩:=nm (wr.heap.size);rw[hB4]at HAX⊢;have hB4n:n₀≤B4:=by omega
   have hgB:g<B4:=by have:=hgw;omega
   clear hB4 d0 d1 d2 d3 d4 a0 a1 a2 a3 hnw;have HRD:=lh (show W3.drew.ownsRow n₀ 3 1 (.slice (some ⟨g,0,none⟩) h.sets.length cap) h.sets.length (Ap T)from HRX.out);have hn6:n₀≤W3.drew.heap.size:=hnx;have x0:∀w',Gq n₀ W0 B4 x w'→w'.cell? ⟨B1,0,none⟩=some (.string h.name):=fun w' z=>(HXX.out w' z.old).1.1;have x1:∀w',Gq n₀ W0 B4 x w'→w'.cell? ⟨B1,1,none⟩=some (.int .i64 h.height):=fun w' z=>(HXX.out w' z.old).1.2.1;have x2:∀w',Gq n₀ W0 B4 x w'→w'.cell? ⟨B1,2,none⟩=some (.slice h.sa h.sets.length h.sc):=fun w' z=>(HXX.out w' z.old).1.2.2.1;have x3:∀w',Gq n₀ W0 B4 x w'→w'.cell? ⟨B1,3,none⟩=some (.slice h.ra h.roofs.length h.rc):=fun w' z=>(HXX.out w' z.old).1.2.2.2;have y0:∀w',Gq n₀ W0 B4 x w'→w'.cell? ⟨B4,0,none⟩=some (.string x.name):=fun w' z=>z.mv.1;have y1:∀w',Gq n₀ W0 B4 x w'→w'.cell? ⟨B4,1,none⟩=some (.int .i64 x.to):=fun w' z=>z.mv.2.1;refine wp_region_held_drew (S:=(Gq n₀ W0 B4 x)) (by kernel_rfl) (⟨hBX.drew,HAX.out.carry (br).drew⟩) (fun hHeld=>?_);refine tk 0 ?_;refine tk 1 ?_;refine tk 2 ?_;refine tk 3 ?_;refine tk 5 ?_;refine tk 6 ?_;refine r1 4 (fun K hK=>?_)
   try simp only[Ba,Bc,Az]
   go_simp
   (go_at_call 98;go_split_ands;go_fit (HSETC.out _ (HXX.out _ hHeld.old).2.2.1);rintro e w6 ⟨rfl,hb6⟩;rw[HF.out];have HR6:=lh (Ac HRD.out hb6);have how:n₀≤w6.heap.size:=nt hn6 hb6.size;have hHeld6:=hHeld.old.trans (hb6.mono hn6);have hMv6:=hHeld.mv.carry hb6)
   go_wp2_with fail
   refine hK.out _ _ (⟨hHeld6,hMv6⟩) (fun hHeld=>?_);clear hK K
   try simp only[Act.put,Co,Cp,Cn,Ba,Bc,Az]
   refine tk 7 ?_;have o2:w6.cell? ⟨g,f.toNat,none⟩=some (.int .i64 (ig T f.toNat)):=by rw[HR6.out.cellAt f.toNat (by omega),Eb _ _ (by rw[HTL.out];exact hf1)]
   have o3:=HR6.out.frozenAt f.toNat;have o4:g<w6.heap.size:=(HR6.out.lt _ rfl).2;refine r1 8 (fun K hK=>?_);rw[if_pos (by rfl)]
   try simp only[Ba,Bc,Az]
   go_wp2_with fail
   refine hK.out _ _ ⟨hHeld6.setCell (show n₀≤(⟨g,f.toNat,none⟩:Addr).block from hgn) _,AFs hMv6 hgB _⟩ (fun hHeld7=>?_);clear hK K
   try simp only[Act.put,Co,Cp,Cn,Ba,Bc,Az]
   refine wpAnyH_done (by kernel_rfl) ?_ _;have HST:=lh (show(w6.setCell ⟨g,f.toNat,none⟩ (.int .i64 x.to)).ownsRow n₀ 3 1 (.slice (some ⟨g,0,none⟩) h.sets.length cap) h.sets.length (Ap (Dq h t (q.moves.take (k+1))))by rw[HSN.out,Rh];exact(HR6.out.stored f.toNat _).1);have hsz7:n₀≤(w6.setCell ⟨g,f.toNat,none⟩ (.int .i64 x.to)).heap.size:=by simp;omega
   go_wp2_with fail
   go_roundw
   case rel=>exact⟨k+1,by go_num,by omega,hHeld7.old,hsz7,HST⟩
   case measure=>simp[intOf];omega
  ·obtain rfl:k=q.moves.length:=by omega
   rw[List.take_length]at HR
   go_wp2_with fail
   go_ret;exact⟨lh ⟨_,rfl,by rw[HML2.out,HTLL.out,←HSB.out];exact Bn HR.out hsz2⟩,HWW.out _ hB⟩
end
section
open Go.RowKit Go.Shelf
theorem AKz(L t:List Int):Ap (L++t)=Ap L++Ap t:=by simp[Ap]
theorem Xd{ops:Array Oper}{rest:List Oper}{o:Oper}{a:Act}{w:World}{Q:Exit→Act→World→Prop}(hgd:o.guard=none)(s x:Operand)
  (ho:o.op=.call {callee:=.builtin .append,args:=#[s,x],argTypes:=#[30,30]})
  (base:Nat) (v:Value) (L:List Int) (hs:a.eval s=v) (hown:w.ownsRow base 3 1 v L.length (Ap L))
  (ta:Option Addr) (t:List Int) (tc:Nat) (hx:a.eval x=.slice ta t.length tc) (ht:Bl w.heap.size w ta t) (htn:ta=none→tc=0) (hl:L.length≤1000000) (htl:t.length≤1000000) (hbase:base≤w.heap.size)
  (h:∀v' w',w'.ownsRow base 3 1 v' (L++t).length (Ap (L++t))→w.grownBy w' v.ownBlock→wpList Tryz.prog ops Q rest (a.put o.dst v') w'):wpList Tryz.prog ops Q (o::rest) a w:=by
 obtain⟨i0,hi,hz0,hz1,hz2⟩:=info_parts Mi
 cases ta with
 | none=>
  have e:t=[]:=by
   cases t with
   | nil=>rfl
   | cons y t=>obtain⟨b,off,e,_⟩:=ht (by simp);cases e
  subst e;rw[htn rfl]at hx;refine wpList_append_own_none hgd s x 30 ho base 3 i0 1 Tryz.underlying30 hi v L.length (Ap L) hs hown hx (h v w ?_ ⟨rfl,rfl,rfl,nr,fun _ _ _=>rfl⟩);rw[List.append_nil];exact hown
 | some ad=>
  refine wpList_append_own _ hgd s x 30 ho base 3 i0 _ 1 8 Tryz.underlying30 hi hz0 hz1 hz2 rfl (by decide) v L.length (Ap L) hs hown ad t.length tc (Ap t) hx (by rw[Pz,Nat.mul_one]) ?_ (AIy t) (by unfold maxLen;omega) (by omega) hbase ?_
  ·intro j u hj
   have hlt:j<t.length:=by
    have:=(List.getElem?_eq_some_iff.1 hj).1;rw[Pz]at this;exact this
   obtain⟨b,off,e,_,hc⟩:=ht (by omega)
   cases e
   exact AAi (n₀:=w.heap.size) ht j u hj
  ·intro v' w' h1 h2 _
   refine h v' w' ?_ h2;rw[AKz,List.length_append];exact h1
end
section
def tN(d R F t:Int):Int:=2*R*F*d+t*t*(R+F)
def tD(R F t:Int):Int:=2*R*F*t
theorem ATt{R F:Int}(hR:1≤R)(hF:1≤F):0<2*R*F:=Int.mul_pos (Int.mul_pos (by decide) (by omega)) (by omega)
end
end Go.Proofs.YtebofaenlhhkaaaGreat
