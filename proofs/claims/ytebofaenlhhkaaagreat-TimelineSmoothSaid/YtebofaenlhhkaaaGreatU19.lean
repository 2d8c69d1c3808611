/-
  HOW ROWS OF ROWS OF NUMBERS LIE IN MEMORY; those that the call has made itself.
-/
import Derived.Test.YtebofaenlhhkaaaGreatU18
namespace Go.Proofs.YtebofaenlhhkaaaGreat
set_option maxRecDepth 100000
set_option maxHeartbeats 80000000
set_option linter.unusedSimpArgs false
section
open Go.RowKit Go.Shelf
/-! ### Slices of []int -/
structure LstR where
 a:Option Addr
 xs:List Int
 c:Nat

def lg(L:List (LstR))(i:Nat):LstR:=(L[i]?).getD ⟨none,[],0⟩
theorem lg_old(L:List (LstR))(x:LstR)(i:Nat)(h:i<L.length):lg (L++[x]) i=lg L i:=by unfold lg;rw[List.getElem?_append_left h]
theorem lg_new(L:List (LstR))(x:LstR):lg (L++[x]) L.length=x:=by unfold lg;simp
def lstV(r:LstR):Value:=.slice r.a r.xs.length r.c
def lflat(L:List (LstR)):List Value:=L.flatMap fun r=>[.slice r.a r.xs.length r.c]
theorem lflat_at(L:List (LstR))(i:Nat)(hi:i<L.length):(lflat L)[i]? =some (.slice (lg L i).a (lg L i).xs.length (lg L i).c):=by
 induction L generalizing i with
 | nil=>simp at hi
 | cons x r ih=>
  match i with
  | 0=>exact rfl
  | i+1=>
   have:=ih i (by simpa using hi);have e:lflat (x::r)=.slice x.a x.xs.length x.c::lflat r:=rfl;rw[e,show(i+1)=i+1 by omega]
   simpa[lg]using this
theorem lflat_snoc(L:List (LstR))(r:LstR):lflat (L++[r])=lflat L++[.slice r.a r.xs.length r.c]:=by simp[lflat]
def Lsts(n₀:Nat)(w:World)(a:Option Addr)(L:List (LstR)):Prop:=
 0<L.length→∃b off,a=some ⟨b,off,none⟩∧b<n₀∧∀i,i<L.length→w.cell? ⟨b,off+i,none⟩=some (.slice (lg L i).a (lg L i).xs.length (lg L i).c)
theorem Lsts.below{n₀:Nat}{w w':World}{a:Option Addr}{L:List (LstR)}(h:Lsts n₀ w a L)(hb:Below n₀ w w'):Lsts n₀ w' a L:=fun hl=>by
 obtain⟨b,off,rfl,hlt,hc⟩:=h hl;refine⟨b,off,rfl,hlt,fun i hi=>?_⟩;have c0:=hc i hi;exact(hb.cell (p:=⟨b,_,none⟩) hlt).trans c0
theorem Lsts.mono{n₀ n₁:Nat}{w:World}{a:Option Addr}{L:List (LstR)}(h:Lsts n₀ w a L)(hn:n₀≤n₁):Lsts n₁ w a L:=fun hl=>by
 obtain⟨b,off,rfl,hlt,hc⟩:=h hl;exact⟨b,off,rfl,by omega,hc⟩
theorem Lsts.grow{w w':World}{a:Option Addr}{L:List (LstR)}(h:Lsts w.heap.size w a L)(hb:Below w.heap.size w w'):Lsts w'.heap.size w' a L:=(h.below hb).mono hb.size
theorem Lsts.nil{n₀:Nat}{w:World}{a:Option Addr}:Lsts n₀ w a []:=fun h=>absurd h (Nat.not_lt_zero _)
theorem Lsts.take{n₀:Nat}{w:World}{a:Option Addr}{L:List (LstR)}(h:Lsts n₀ w a L)(n:Nat):Lsts n₀ w a (L.take n):=fun hl=>by
 have hl':0<L.length:=by rw[List.length_take]at hl;omega
 obtain⟨b,off,rfl,hlt,hc⟩:=h hl';refine⟨b,off,rfl,hlt,fun i hi=>?_⟩;rw[List.length_take]at hi;have e:lg (L.take n) i=lg L i:=by unfold lg;rw[List.getElem?_take,if_pos (by omega)]
 rw[e];exact hc i (by omega)
theorem lst_of_row{w:World}{base:Nat}{v:Value}{L:List (LstR)}(h:w.ownsRow base 30 1 v L.length (lflat L)):∃a cap,v=.slice a L.length cap∧L.length≤cap∧cap≤maxLen∧(a=none→cap=0)∧Lsts w.heap.size w a L:=by
 rcases h.2 with ⟨rfl,h0⟩ | ⟨g,cap,cur,rfl,hb,hg,h1,h2,_⟩
 ·exact⟨none,0,by rw[h0],by omega,by unfold maxLen;omega,fun _=>rfl,fun hl=>by omega⟩
 ·refine⟨_,cap,rfl,h1,h2,(fun e=>by cases e),fun _=>⟨g,0,rfl,(Array.getElem?_eq_some_iff.1 hg).1,fun i hi=>?_⟩⟩
  have f0:=lflat_at L i hi;have c0:=h.cellAt (i) (by omega);rw[f0]at c0;rw[Nat.zero_add];exact c0
theorem lst_info:(Tryz.prog.info? 30).map (fun i=>(i.zero,i.size,i.bytes))=some (some (.slice none 0 0),1,24):=by kernel_rfl

theorem lst_append{ops:Array Oper}{rest:List Oper}{o:Oper}{a:Act}{w:World}{Q:Exit→Act→World→Prop}(hgd:o.guard=none)(s x:Operand)
  (ho:o.op=.call {callee:=.builtin .append,args:=#[s,x],argTypes:=#[53,53]})
  (base:Nat) (v:Value) (L:List (LstR)) (hs:a.eval s=v) (hown:w.ownsRow base 30 1 v L.length (lflat L))
  (bl:Nat) (y:LstR) (hx:a.eval x=.slice (some ⟨bl,0,none⟩) 1 1) (hc:w.cell? ⟨bl,0,none⟩=some (.slice y.a y.xs.length y.c)) (hl:L.length≤1000000) (hbase:base≤w.heap.size)
  (h:∀v' w',w'.ownsRow base 30 1 v' (L++[y]).length (lflat (L++[y]))→w.grownBy w' v.ownBlock→wpList Tryz.prog ops Q rest (a.put o.dst v') w'):wpList Tryz.prog ops Q (o::rest) a w:=by
 obtain⟨i0,hi,hz0,hz1,hz2⟩:=info_parts lst_info;refine wpList_append_own _ hgd s x 53 ho base 30 i0 _ 1 24 Tryz.underlying53 hi hz0 hz1 hz2 rfl (by decide) v L.length (lflat L) hs hown ⟨bl,0,none⟩ 1 1 [.slice y.a y.xs.length y.c] hx rfl ?_ (by simp[Value.oneCell']) (by unfold maxLen;omega) (by omega) hbase ?_
 ·have c0:=hc
  intro j u hj;rw[Go.WideShapes.add_plain,Nat.zero_add]
  match j,hj with
  | 0,hj=>simp at hj;subst hj;exact c0
 ·intro v' w' h1 h2 _
  refine h v' w' ?_ h2;rw[lflat_snoc,List.length_append];exact h1

theorem num_types{w:World}{base base' size size' n n':Nat}{e e':TypeId}{v v':Value}{xs xs':List Value}(h:w.ownsRow base e size v n xs)(h':w.ownsRow base' e' size' v' n' xs')(ne:e≠e'):v.ownBlock=none∨v.ownBlock≠v'.ownBlock:=by
 rcases h.2 with ⟨rfl,_⟩ | ⟨g,cap,cur,rfl,_,hg,_⟩
 ·exact .inl rfl
 ·refine .inr fun q=>?_
  rcases h'.2 with ⟨rfl,_⟩ | ⟨g',cap',cur',rfl,_,hg',_⟩
  ·simp[Value.ownBlock]at q
  ·simp only[Value.ownBlock,Option.some.injEq]at q
   subst q;rw[hg]at hg';simp only[Option.some.injEq,Obj.cells.injEq]at hg';exact ne hg'.2.1
def OwnLs(w:World)(base:Nat)(P:List LstR):Prop:=∀i,i<P.length→w.ownsRow base 3 1 (lstV (lg P i)) (lg P i).xs.length (nflat (lg P i).xs)
theorem OwnLs.below{w w':World}{base:Nat}{P:List LstR}(h:OwnLs w base P)(hb:Below w.heap.size w w'):OwnLs w' base P:=fun i hi=>ownsRow_below (h i hi) hb
theorem OwnLs.kept{w w':World}{base base' n:Nat}{P:List LstR}{v:Value}{xs:List Value}(h:OwnLs w base P)(hv:w.ownsRow base' 30 1 v n xs)(hg:w.grownBy w' v.ownBlock):OwnLs w' base P:=
 fun i hi=>(h i hi).kept hg (num_types (h i hi) hv (by decide))
theorem OwnLs.snoc{w:World}{base:Nat}{P:List LstR}{y:LstR}(h:OwnLs w base P)(hy:w.ownsRow base 3 1 (lstV y) y.xs.length (nflat y.xs)):OwnLs w base (P++[y]):=fun i hi=>by
 rw[List.length_append,List.length_singleton]at hi;rcases Nat.lt_or_ge i P.length with l | l
 ·rw[lg_old P y i l];exact h i l
 ·obtain rfl:i=P.length:=by omega
  rw[lg_new];exact hy
theorem OwnLs.base{w:World}{base base':Nat}{P:List LstR}(h:OwnLs w base P)(hb:base'≤base):OwnLs w base' P:=fun i hi=>ownsRow_base (h i hi) hb
theorem OwnLs.nums{w:World}{base:Nat}{P:List LstR}(h:OwnLs w base P){i:Nat}(hi:i<P.length):Nums w.heap.size w (lg P i).a (lg P i).xs:=by
 obtain⟨a,cap,e,_,_,_,hn⟩:=num_of_row (h i hi);unfold lstV at e
 cases e
 exact hn
end
section
open Go.RowKit Go.Shelf
attribute [local go_sem] Oper.semAt_some
theorem nflat_setL:∀(X:List Int) (i:Nat) (v:Int),nflat (X.set i v)=(nflat X).set i (.int .i64 v)
 | [],_,_=>rfl
 | x::X,0,v=>rfl
 | x::X,i+1,v=>by
  have e:∀(y:Int) (Q:List Int),nflat (y::Q)=.int .i64 y::nflat Q:=fun _ _=>rfl;rw[List.set_cons_succ,e,e,List.set_cons_succ,nflat_setL X i v]
structure HeldM(n₀:Nat)(W0:World)(B:Nat)(x:Mv)(w:World):Prop where
 old:Below n₀ W0 w
 mv:MvAt w B x
theorem mvAt_other{w:World}{B g o:Nat}{x:Mv}(h:MvAt w B x)(hg:g<B)(v:Value):MvAt (w.setCell ⟨g,o,none⟩ v) B x:=by
 have ne:∀k,(⟨g,o,none⟩:Addr)≠⟨B,k,none⟩:=fun k e=>by cases e;omega
 obtain⟨a0,a1,a2,a3,a4⟩:=h;exact⟨(World.cell?_setCell_other _ _ _ _ (ne 0)).trans a0,(World.cell?_setCell_other _ _ _ _ (ne 1)).trans a1,(World.cell?_setCell_other _ _ _ _ (ne 2)).trans a2,(World.cell?_setCell_other _ _ _ _ (ne 3)).trans a3,(World.cell?_setCell_other _ _ _ _ (ne 4)).trans a4⟩
theorem moved_any(h:HouseR)(q:CueR)(ta:Option Addr)(t:List Int)(tc:Nat)(w:World)(hh:HouseIn0 w h)(hl:h.sets.length≤1000)(hm:Movs w.heap.size w q.ma q.moves)(hml:q.moves.length≤1000)
  (ht:Nums w.heap.size w ta t) (htl:t.length=h.sets.length) (htn:ta=none→tc=0) (hok:∀i,i<q.moves.length→0≤findS h.sets (mg q.moves i).name):
  Calls Tryz.prog 57 #[.agg #[.string h.name,.int .i64 h.height,.slice h.sa h.sets.length h.sc,.slice h.ra h.roofs.length h.rc],.slice ta t.length tc,.agg #[.string q.name,.string q.after,.int .i64 q.link,.int .i64 q.delay,.slice q.ma q.moves.length q.mc,.int .i64 q.crew,.int .i64 q.power]] w fun e w'=>Hid (∃v,e=.returned v∧w'.ownsRow w.heap.size 3 1 v (movedL h t q.moves).length (nflat (movedL h t q.moves)))∧Below w.heap.size w w':=by
 have hb0:Below w.heap.size w ((w.alloc (LHo h)).alloc (LCu q)):=(below_new w _).alloc (by simp) _
 have HX:Hid (∀w',Below ((w.alloc (LHo h)).alloc (LCu q)).heap.size ((w.alloc (LHo h)).alloc (LCu q)) w'→HouseAt w' w.heap.size h∧CueAt w' (w.heap.size+1) q∧HouseIn0 w' h∧Movs w'.heap.size w' q.ma q.moves):=lh fun w' z=>
  ⟨((HouseAt.new w h _).carry (below_new _ _)).carry z,(CueAt.new (w.alloc _) q _ _ (by simp)).carry z,(hh.grow hb0).grow z,(hm.grow hb0).grow z⟩
 have HT:=lh (ht.grow hb0);have HW:Hid (∀w',Below ((w.alloc (LHo h)).alloc (LCu q)).heap.size ((w.alloc (LHo h)).alloc (LCu q)) w'→Below w.heap.size w w'):=lh fun w' z=>hb0.trans (z.mono hb0.size);have hsz:=hb0.size;have hml2:(movedL h t q.moves).length=t.length:=movedL_len h q.moves t;have HOK:=lh hok;have HTN:=lh htn;have HML2:=lh hml2;have HTLL:=lh htl;have HCL:=lh fun (W0:World) (z:Nums W0.heap.size W0 ta t)=>num_clone ta t tc W0 (by omega) htn z;clear hh hb0 hm ht hok htn hml2 htl
 go_enter Tryz.func57,Tryz.ntmps57
 go_upto_region 1 with (fail)
 obtain⟨W0,hW0⟩:=nm (((w.alloc (LHo h)).alloc (LCu q)):World);simp only[hW0]at HX HW HT hsz⊢;clear hW0;obtain⟨B1,hB1⟩:=nm (w.heap.size);obtain⟨B2,hB2⟩:=nm (w.heap.size+1);have HSB:Hid (B1=w.heap.size):=lh hB1.symm;rw[hB2]at HX⊢;rw[hB1]at HX hsz⊢;clear hB1 hB2;obtain⟨qa,hqa⟩:=nm (q.ma);have HQA:=lh hqa;rw[hqa]at HX⊢;clear hqa;obtain⟨n₀,hn0⟩:=nm (W0.heap.size);have HCL2:=lh (HCL.out W0 HT.out);rw[hn0]at HCL2
 go_upto_region 3 with (go_at_call 23;(with_reducible refine HCL2.out.mono ?_);rintro e w1 hx1;obtain⟨v1,rfl,hr1,hb1⟩:=hx1.out;have HR1:=lh hr1;obtain⟨-,⟨c0,c1,c2,c3,c4,c5,c6⟩,-,-⟩:=HX.out _ (by rw[hn0];exact hb1);rw[HQA.out]at c4;clear hx1 hr1)
 have HXX:Hid (∀w',Below n₀ W0 w'→HouseAt w' B1 h∧CueAt w' B2 q∧HouseIn0 w' h∧Movs w'.heap.size w' qa q.moves):=lh fun w' z=>by rw[←hn0]at z;exact HX.out w' z
 have HWW:Hid (∀w',Below n₀ W0 w'→Below w.heap.size w w'):=lh fun w' z=>by rw[←hn0]at z;exact HW.out w' z
 have hn1:n₀≤w1.heap.size:=by have:=hb1.size;omega
 have hsz2:B1≤n₀:=by rw[←hn0];exact hsz
 clear c0 c1 c2 c3 c4 c5 c6 HX HW HCL HCL2 hn0 HT hsz;rw[HTLL.out]at HR1
 go_loopw [9,15] (fun _ iv wr=>∃k:Nat,iv=.int .i64 k∧k≤q.moves.length∧Below n₀ W0 wr∧n₀≤wr.heap.size∧Hid (wr.ownsRow n₀ 3 1 v1 h.sets.length (nflat (movedL h t (q.moves.take k))))) (fun _ iv _=>q.moves.length-(intOf iv).toNat)
 case atStart=>exact⟨0,rfl,Nat.zero_le _,hb1,hn1,lh (by rw[List.take_zero];exact HR1.out)⟩
 case round=>
  clear HR1 hb1 hn1;obtain⟨k,rfl,hk,hB,hnw,HR⟩:=hrel
  by_cases hlt:k<q.moves.length
  ·obtain⟨⟨a0,a1,a2,a3⟩,-,-,hmv⟩:=HXX.out _ hB
   obtain⟨mb,mo,hma,hmb,hmx⟩:=hmv (by omega);subst hma;obtain⟨d0,d1,d2,d3,d4⟩:=hmx k hlt;have HSN:=lh (movedL_snoc h t q.moves hlt);have hf0:=HOK.out k hlt;have hf1:=(find_name hf0).1;have HTL:Hid ((movedL h t (q.moves.take k)).length=h.sets.length):=lh (by rw[movedL_len,HTLL.out]);obtain⟨x,hx⟩:=nm (mg q.moves k);rw[hx]at d0 d1 d2 d3 d4 HSN hf0 hf1;obtain⟨f,hf⟩:=nm (findS h.sets x.name);have HF:=lh hf;rw[hf]at hf0 hf1 HSN;have hf2:f<(h.sets.length:Int):=by omega
   obtain⟨T,hT⟩:=nm (movedL h t (q.moves.take k));rw[hT]at HR HSN HTL;clear hx hf hmx hmv hT
   have hvv:∃g cap,v1=.slice (some ⟨g,0,none⟩) h.sets.length cap∧n₀≤g:=by
    rcases HR.out.2 with ⟨_,e0⟩ | ⟨g,cap,cur,e,hb,_⟩
    ·omega
    ·exact⟨g,cap,e,hb⟩
   obtain⟨g,cap,hv1,hgn⟩:=hvv;subst hv1;have hgw:g<wr.heap.size:=(HR.out.lt _ rfl).2;have HSETC:=lh fun (w':World) (z:HouseIn0 w' h)=>cset_any h x.name w' z hl;have hBX:=(hB.alloc hnw (.cells #[.string x.name,.int .i64 x.to,.int .i64 x.spd,.int .i64 x.rise,.int .i64 x.fall] 94));have HAX:Hid (MvAt (wr.alloc (.cells #[.string x.name,.int .i64 x.to,.int .i64 x.spd,.int .i64 x.rise,.int .i64 x.fall] 94)) wr.heap.size x):=lh (MvAt.new wr x _);have HRX:=lh (HR.out.alloc (.cells #[.string x.name,.int .i64 x.to,.int .i64 x.spd,.int .i64 x.rise,.int .i64 x.fall] 94));have hnx:n₀≤(wr.alloc (.cells #[.string x.name,.int .i64 x.to,.int .i64 x.spd,.int .i64 x.rise,.int .i64 x.fall] 94)).heap.size:=by simp;omega
   clear HR hB
   go_upto_region 5 with (fail)
   generalize wr.alloc (.cells #[.string x.name,.int .i64 x.to,.int .i64 x.spd,.int .i64 x.rise,.int .i64 x.fall] 94)=W3 at *;obtain⟨B4,hB4⟩:=nm (wr.heap.size);rw[hB4]at HAX⊢;have hB4n:n₀≤B4:=by omega
   have hgB:g<B4:=by have:=hgw;omega
   clear hB4 d0 d1 d2 d3 d4 a0 a1 a2 a3 hnw;have HRD:=lh (show W3.drew.ownsRow n₀ 3 1 (.slice (some ⟨g,0,none⟩) h.sets.length cap) h.sets.length (nflat T)from HRX.out);have hn6:n₀≤W3.drew.heap.size:=hnx;have x0:∀w',HeldM n₀ W0 B4 x w'→w'.cell? ⟨B1,0,none⟩=some (.string h.name):=fun w' z=>(HXX.out w' z.old).1.1;have x1:∀w',HeldM n₀ W0 B4 x w'→w'.cell? ⟨B1,1,none⟩=some (.int .i64 h.height):=fun w' z=>(HXX.out w' z.old).1.2.1;have x2:∀w',HeldM n₀ W0 B4 x w'→w'.cell? ⟨B1,2,none⟩=some (.slice h.sa h.sets.length h.sc):=fun w' z=>(HXX.out w' z.old).1.2.2.1;have x3:∀w',HeldM n₀ W0 B4 x w'→w'.cell? ⟨B1,3,none⟩=some (.slice h.ra h.roofs.length h.rc):=fun w' z=>(HXX.out w' z.old).1.2.2.2;have y0:∀w',HeldM n₀ W0 B4 x w'→w'.cell? ⟨B4,0,none⟩=some (.string x.name):=fun w' z=>z.mv.1;have y1:∀w',HeldM n₀ W0 B4 x w'→w'.cell? ⟨B4,1,none⟩=some (.int .i64 x.to):=fun w' z=>z.mv.2.1;refine wp_region_held_drew (S:=(HeldM n₀ W0 B4 x)) (by kernel_rfl) (⟨hBX.drew,HAX.out.carry (br).drew⟩) (fun hHeld=>?_);refine tk 0 ?_;refine tk 1 ?_;refine tk 2 ?_;refine tk 3 ?_;refine tk 5 ?_;refine tk 6 ?_;refine r1 4 (fun K hK=>?_)
   try simp only[s_4,s_5,s_6]
   go_simp
   (go_at_call 98;go_split_ands;(with_reducible refine(HSETC.out _ (HXX.out _ hHeld.old).2.2.1).mono ?_);rintro e w6 ⟨rfl,hb6⟩;rw[HF.out];have HR6:=lh (ownsRow_below HRD.out hb6);have how:n₀≤w6.heap.size:=Nat.le_trans hn6 hb6.size;have hHeld6:=hHeld.old.trans (hb6.mono hn6);have hMv6:=hHeld.mv.carry hb6)
   go_wp2_with fail
   refine hK.out _ _ (⟨hHeld6,hMv6⟩) (fun hHeld=>?_);clear hK K
   try simp only[Act.put,s_1,s_2,s_3,s_4,s_5,s_6]
   refine tk 7 ?_;have o2:w6.cell? ⟨g,f.toNat,none⟩=some (.int .i64 (ig T f.toNat)):=by rw[HR6.out.cellAt f.toNat (by omega),nflat_at _ _ (by rw[HTL.out];exact hf1)]
   have o3:=HR6.out.frozenAt f.toNat;have o4:g<w6.heap.size:=(HR6.out.lt _ rfl).2;refine r1 8 (fun K hK=>?_);rw[if_pos (by rfl)]
   try simp only[s_4,s_5,s_6]
   go_wp2_with fail
   refine hK.out _ _ ⟨hHeld6.setCell (show n₀≤(⟨g,f.toNat,none⟩:Addr).block from hgn) _,mvAt_other hMv6 hgB _⟩ (fun hHeld7=>?_);clear hK K
   try simp only[Act.put,s_1,s_2,s_3,s_4,s_5,s_6]
   refine wpAnyH_done (by kernel_rfl) ?_ _;have HST:=lh (show(w6.setCell ⟨g,f.toNat,none⟩ (.int .i64 x.to)).ownsRow n₀ 3 1 (.slice (some ⟨g,0,none⟩) h.sets.length cap) h.sets.length (nflat (movedL h t (q.moves.take (k+1))))by rw[HSN.out,nflat_setL];exact(HR6.out.stored f.toNat _).1);have hsz7:n₀≤(w6.setCell ⟨g,f.toNat,none⟩ (.int .i64 x.to)).heap.size:=by simp;omega
   go_wp2_with fail
   go_roundw
   case rel=>exact⟨k+1,by go_num,by omega,hHeld7.old,hsz7,HST⟩
   case measure=>simp[intOf];omega
  ·obtain rfl:k=q.moves.length:=by omega
   rw[List.take_length]at HR
   go_wp2_with fail
   go_ret;exact⟨lh ⟨_,rfl,by rw[HML2.out,HTLL.out,←HSB.out];exact ownsRow_base HR.out hsz2⟩,HWW.out _ hB⟩
structure TrimRows(h:HouseR)(C:List CueR)(P:List LstR)(n:Nat):Prop where
 len:P.length=n+1
 eq:∀i,i≤n→(lg P i).xs=trimL h C i
theorem TrimRows.snoc{h:HouseR}{C:List CueR}{P:List LstR}{n:Nat}{y:LstR}(t:TrimRows h C P n)(hy:y.xs=trimL h C (n+1)):TrimRows h C (P++[y]) (n+1):=by
 refine⟨by rw[List.length_append,t.len];rfl,fun i hi=>?_⟩;rcases Nat.lt_or_ge i P.length with l | l
 ·rw[lg_old P y i l];exact t.eq i (by have:=t.len;omega)
 ·obtain rfl:i=P.length:=by have:=t.len;omega
  rw[lg_new,hy,t.len]
structure TrimsIn(w:World)(a:Option Addr)(h:HouseR)(C:List CueR)(P:List LstR):Prop where
 rows:TrimRows h C P C.length
 lies:Lsts w.heap.size w a P
 each:∀i,i<P.length→Nums w.heap.size w (lg P i).a (lg P i).xs
 none:∀i,i<P.length→(lg P i).a=none→(lg P i).c=0
theorem TrimsIn.grow{w w':World}{a:Option Addr}{h:HouseR}{C:List CueR}{P:List LstR}(t:TrimsIn w a h C P)(hb:Below w.heap.size w w'):TrimsIn w' a h C P:=
 ⟨t.rows,t.lies.grow hb,fun i hi=>(t.each i hi).grow hb,t.none⟩
theorem trims_in{w:World}{base base':Nat}{v:Value}{h:HouseR}{C:List CueR}{P:List LstR}(hr:w.ownsRow base 30 1 v P.length (lflat P))(ho:OwnLs w base' P)(t:TrimRows h C P C.length):∃a c,v=.slice a P.length c∧TrimsIn w a h C P:=by
 obtain⟨a,c,e,_,_,_,hl⟩:=lst_of_row hr;refine⟨a,c,e,t,hl,fun i hi=>ho.nums hi,fun i hi=>?_⟩;obtain⟨a',c',e',_,_,hn,_⟩:=num_of_row (ho i hi);unfold lstV at e'
 cases e'
 exact hn
theorem trims_no(h:HouseR)(s:SheetR)(w:World)(hh:HouseIn w h)(hs:SheetIn w s)(hv:sheetB h s=false):
  Calls Tryz.prog 19 #[.agg #[.string h.name,.int .i64 h.height,.slice h.sa h.sets.length h.sc,.slice h.ra h.roofs.length h.rc],.agg #[.slice s.ca s.cues.length s.cc,.slice s.pa s.pairs.length s.pc]] w fun e w'=>e=.returned (.tuple #[.slice none 0 0,.int .i64 1])∧Below w.heap.size w w':=by
 have hb0:Below w.heap.size w (LTw w h s):=(below_new w _).alloc (by simp) _;have hat:HouseAt (LTw w h s) w.heap.size h:=(HouseAt.new w h _).carry (below_new _ _);have sat:SheetAt (LTw w h s) (w.heap.size+1) s:=by unfold SheetAt;simp
 have HH:=lh (hh.grow hb0);have HS:=lh (hs.grow hb0);have HV:=lh hv;clear hh hs hv
 go_enter Tryz.func19,Tryz.ntmps19
 go_upto_region 1 with (fail)
 obtain⟨W0,hW0⟩:=nm ((LTw w h s):World);simp only[hW0]at hb0 hat sat HH HS⊢;clear hW0;obtain⟨a0,a1,a2,a3⟩:=hat;obtain⟨s0,s1⟩:=sat
 go_wp2_with (go_at_call 56;(with_reducible refine(cuevalid_any h s _ HH.out HS.out).mono ?_);rintro e w1 ⟨rfl,hb1⟩;rw[HV.out])
 go_ret2
 exact⟨rfl,hb0.trans (hb1.mono hb0.size)⟩
theorem trims_yes(h:HouseR)(s:SheetR)(w:World)(hh:HouseIn w h)(hs:SheetIn w s)(hv:sheetB h s=true):
  Calls Tryz.prog 19 #[.agg #[.string h.name,.int .i64 h.height,.slice h.sa h.sets.length h.sc,.slice h.ra h.roofs.length h.rc],.agg #[.slice s.ca s.cues.length s.cc,.slice s.pa s.pairs.length s.pc]] w fun e w'=>Hid (∃a c P,e=.returned (.tuple #[.slice a (s.cues.length+1) c,.int .i64 0])∧TrimsIn w' a h s.cues P)∧Below w.heap.size w w':=by
 obtain⟨hb0,HX,HW⟩:=o2 hh hs;have hsl:=hh.slen;have hcl:=hs.clen;have HML:=lh hs.mlen;have HV:=lh hv;have HOK:=lh (sheetB_iff.1 hv);clear hh hs hb0 hv
 go_enter Tryz.func19,Tryz.ntmps19
 go_upto_region 1 with (fail)
 obtain⟨W0,hW0⟩:=nm ((LTw w h s):World);simp only[hW0]at HX HW⊢;clear hW0;obtain⟨B1,hB1⟩:=nm (w.heap.size);obtain⟨B2,hB2⟩:=nm (w.heap.size+1);rw[hB2]at HX⊢;rw[hB1]at HX⊢;clear hB1 hB2;obtain⟨⟨a0,a1,a2,a3⟩,⟨s0,s1⟩,hin,sin⟩:=HX.out _ br;obtain⟨sa,hsa⟩:=nm (h.sa);have HSA:=lh hsa;obtain⟨ca,hca⟩:=nm (s.ca);have HCA:=lh hca;have HCV:=lh (cuevalid_any h s _ hin sin);rw[hsa,hca]at HCV;rw[hsa]at a2⊢;rw[hca]at s0⊢;clear hsa hca hin sin;obtain⟨n₀,hn0⟩:=nm (W0.heap.size);have HXX:Hid (∀w',Below n₀ W0 w'→HouseAt w' B1 h∧SheetAt w' B2 s∧HouseIn w' h∧SheetIn w' s):=lh fun w' z=>by rw[←hn0]at z;exact HX.out w' z
 have HWW:Hid (∀w',Below n₀ W0 w'→Below w.heap.size w w'):=lh fun w' z=>by rw[←hn0]at z;exact HW.out w' z
 go_upto_region 5 with (go_at_call 56;(with_reducible refine HCV.out.mono ?_);rintro e w1 ⟨rfl,hb1⟩;rw[HV.out];rw[hn0]at hb1;obtain⟨⟨u0,u1,u2,u3⟩,-,-,-⟩:=HXX.out _ hb1;rw[HSA.out]at u2)
 have hn1:n₀≤w1.heap.size:=by have:=hb1.size;omega
 clear a0 a1 a2 a3 s0 s1 u0 u1 u2 u3 HX HW HCV;obtain⟨N1,hN1⟩:=nm (w1.heap.size);have hb1':=hb1
 go_loopw [6,8,19] (fun v _ iv wr=>∃k:Nat,iv=.int .i64 k∧k≤h.sets.length∧Below n₀ W0 wr∧n₀≤wr.heap.size∧Hid (wr.ownsRow n₀ 3 1 v k (nflat ((h.sets.take k).map (·.high))))) (fun _ _ iv _=>h.sets.length-(intOf iv).toNat)
 case atStart=>exact⟨0,rfl,Nat.zero_le _,hb1,hn1,lh (World.ownsRow_nil _ _ _ _)⟩
 case round=>
  clear hb1 hn1 hb1' hN1;obtain⟨k,rfl,hk,hB,hnw,HR⟩:=hrel
  by_cases hlt:k<h.sets.length
  ·obtain⟨b,off,ha,hb,hc⟩:=(HXX.out _ hB).2.2.1.sets (by omega)
   rw[HSA.out]at ha;subst ha;obtain⟨d0,d1,d2,d3,d4,d5,d6,d7,d8,d9,d10,d11,d12⟩:=hc k hlt;have HHT:=lh (highs_take h hlt);have HKL:Hid (((h.sets.take k).map (·.high)).length=k):=lh (by rw[List.length_map,List.length_take];omega);obtain⟨x,hx⟩:=nm (hg h.sets k);rw[hx]at d0 d1 d2 d3 d4 d5 d6 d7 d8 d9 d10 d11 d12 HHT;obtain⟨T,hT⟩:=nm ((h.sets.take k).map (·.high));rw[hT]at HR HHT HKL;clear hx hc hT
   go_upto_region 7 with (fail)
   have hB3:=hB.alloc hnw (LSe x);have HR3:=lh (HR.out.alloc (LSe x));have hn3:n₀≤(wr.alloc (LSe x)).heap.size:=by simp;omega
   have hx3:(wr.alloc (LSe x)).cell? ⟨wr.heap.size,3,none⟩=some (.int .i64 x.high):=by simp
   have hl3:wr.heap.size<(wr.alloc (LSe x)).heap.size:=by simp
   clear d0 d1 d2 d3 d4 d5 d6 d7 d8 d9 d10 d11 d12 HR hB;generalize wr.alloc (LSe x)=W3 at *;have HR4:=lh (HR3.out.alloc (.cells #[.int .i64 x.high] 3));have hB4:=hB3.alloc hn3 (.cells #[.int .i64 x.high] 3);have hn4:n₀≤(W3.alloc (.cells #[.int .i64 x.high] 3)).heap.size:=by simp;omega
   have HKL2:=lh HKL.out.symm;rw[HKL2.out]at HR4
   go_wp2_with (at_builtin;refine num_append rfl _ _ rfl n₀ _ T rfl HR4.out _ x.high rfl (by simp) (by rw[HKL.out];omega) hn4 ?_;intro v2 w2 hown2 hg2;have hB2:=grown_own HR4.out hg2 hB4 hn4 (Nat.le_refl _);rw[←HHT.out]at hown2;have HO2:=lh hown2;have hs2:=Nat.le_trans hn4 hg2.size;clear hown2 hg2)
   go_roundw
   case rel=>exact⟨k+1,by go_num,by omega,hB2,hs2,lh (by have:=HO2.out;rw[show((h.sets.take (k+1)).map (·.high)).length=k+1 by rw[List.length_map,List.length_take];omega]at this;exact this)⟩
   case measure=>simp[intOf];omega
  ·obtain rfl:k=h.sets.length:=by omega
   rw[List.take_length]at HR;clear hlt hk;have hhl:(highsL h).length=h.sets.length:=by unfold highsL;rw[List.length_map]
   have hr0:wr.ownsRow n₀ 3 1 u6 (highsL h).length (nflat (highsL h)):=by rw[hhl];exact HR.out
   obtain⟨ya,yc,hy,-,-,yn,-⟩:=num_of_row hr0;subst hy;obtain⟨y,hy⟩:∃y:LstR,y=⟨ya,highsL h,yc⟩:=⟨_,rfl⟩;have HYX:Hid (y.xs=trimL h s.cues 0):=lh (by rw[hy];rfl);have HYN:Hid (y.a=none→y.c=0):=lh (by rw[hy];exact yn);have HY0:Hid (wr.ownsRow n₀ 3 1 (.slice y.a y.xs.length y.c) y.xs.length (nflat y.xs)):=lh (by rw[hy];exact hr0);rw[show(Value.slice ya (highsL h).length yc)=.slice y.a y.xs.length y.c by rw[hy]];have hlx:wr.heap.size<(wr.alloc (.cells #[.slice y.a y.xs.length y.c] 30)).heap.size:=by simp
   have HO0:Hid ((wr.alloc (.cells #[.slice y.a y.xs.length y.c] 30)).ownsRow n₀ 30 1 (.slice (some ⟨wr.heap.size,0,none⟩) 1 1) 1 (lflat [y])):=lh (World.ownsRow_lit wr #[.slice y.a y.xs.length y.c] 1 hnw (by unfold maxLen;omega) rfl)
   have HL0:Hid (OwnLs (wr.alloc (.cells #[.slice y.a y.xs.length y.c] 30)) n₀ [y]):=lh fun i hi=>by
    obtain rfl:i=0:=(by simp at hi;exact hi);exact HY0.out.alloc _
   have HT0:Hid (TrimRows h s.cues [y] 0):=lh ⟨rfl,fun i hi=>by
    obtain rfl:i=0:=(by omega);exact HYX.out⟩
   have hB0:=hB.alloc hnw (.cells #[.slice y.a y.xs.length y.c] 30);obtain⟨-,⟨s0,s1⟩,-,-⟩:=HXX.out _ hB;rw[HCA.out]at s0;have hb2l:B2<wr.heap.size:=wl s0;clear hy yn hr0 HR hhl hB
   go_upto_region 11 with (fail)
   clear s0 s1 hb2l;generalize wr.alloc (.cells #[.slice y.a y.xs.length y.c] 30)=W5 at *;obtain⟨wo,rfl⟩:∃wo:World,wo=wr:=⟨_,rfl⟩;obtain⟨bo,hbo⟩:=nm (wo.heap.size);rw[hbo]at HO0 hnw hlx⊢;clear hbo HY0
   go_loopw [6,9,11,34] (fun v6 v9 _ iv wr=>∃(k:Nat) (y:LstR) (P:List LstR),v6=.slice y.a y.xs.length y.c∧iv=.int .i64 k∧k≤s.cues.length∧Below n₀ W0 wr∧n₀≤wr.heap.size∧Hid (wr.ownsRow n₀ 30 1 v9 (k+1) (lflat P)∧OwnLs wr n₀ P∧TrimRows h s.cues P k∧lg P k=y∧(y.a=none→y.c=0))) (fun _ _ _ iv _=>s.cues.length-(intOf iv).toNat)
   case atStart=>exact⟨0,y,[y],rfl,rfl,Nat.zero_le _,hB0,by omega,lh ⟨HO0.out,HL0.out,HT0.out,rfl,HYN.out⟩⟩
   case round=>
    clear HO0 HL0 HT0 hB0 hlx hnw HYX HYN;obtain⟨k,y,P,rfl,rfl,hk,hB,hnw,HR⟩:=hrel
    by_cases hlt:k<s.cues.length
    ·obtain⟨b,off,ha,hb,hc⟩:=(HXX.out _ hB).2.2.2.lies (by omega)
     rw[HCA.out]at ha;subst ha;obtain⟨d0,d1,d2,d3,d4,d5,d6⟩:=hc k hlt;obtain⟨⟨a0,a1,a2,a3⟩,-,-,-⟩:=HXX.out _ hB;rw[HSA.out]at a2;have hb1l:B1<wr.heap.size:=wl a0;have HMK:=lh (HML.out k hlt);have HRG:=lh (HOK.out.each k hlt).1.2;have HYT:=lh (HR.out.2.2.1.eq k (Nat.le_refl _));rw[HR.out.2.2.2.1]at HYT;have HYL:Hid (y.xs.length=h.sets.length):=lh (by rw[HYT.out,trimL_len]);obtain⟨q,hq⟩:=nm (cg s.cues k);have HQ:=lh hq;rw[hq]at d0 d1 d2 d3 d4 d5 d6 HMK HRG;clear hq hc;have hB3:=hB.alloc hnw (LCu q);have hbn:=below_new wr (LCu q);have hn3:n₀≤(wr.alloc (LCu q)).heap.size:=by simp;omega
     have HR3:Hid ((wr.alloc (LCu q)).ownsRow n₀ 30 1 u9 (k+1) (lflat P)∧OwnLs (wr.alloc (LCu q)) n₀ P∧TrimRows h s.cues P k∧lg P k=y∧(y.a=none→y.c=0)):=lh ⟨ownsRow_below HR.out.1 hbn,HR.out.2.1.below hbn,HR.out.2.2⟩;have HMO:Hid (Calls Tryz.prog 57 _ (wr.alloc (LCu q)) _):=lh (moved_any h q y.a y.xs y.c _ (HXX.out _ hB3).2.2.1.toHouseIn0 hsl (by have:=(HXX.out _ hB3).2.2.2.each k hlt;rw[HQ.out]at this;exact this) HMK.out (by have:=HR3.out.2.1.nums (i:=k) (by rw[HR3.out.2.2.1.len];omega);rw[HR3.out.2.2.2.1]at this;exact this) HYL.out HR3.out.2.2.2.2 (fun i hi=>(HRG.out i hi).2.1));rw[HSA.out]at HMO;have HNX:Hid (movedL h y.xs q.moves=trimL h s.cues (k+1)):=lh (by rw[HYT.out,←HQ.out];rfl);clear HR hbn hB
     go_upto_region 14 with (go_at_call 57;(with_reducible refine HMO.out.mono ?_);rintro e w4 ⟨hx4,hb4⟩;obtain⟨v4,rfl,hr4⟩:=hx4.out;obtain⟨a4,c4,rfl,-,-,n4,-⟩:=num_of_row hr4;have HR4:=lh hr4;have HN4:=lh n4;clear hx4 hr4 n4)
     have hB4:=hB3.trans (hb4.mono hn3);have hn4:=Nat.le_trans hn3 hb4.size;obtain⟨z,hz⟩:∃z:LstR,z=⟨a4,movedL h y.xs q.moves,c4⟩:=⟨_,rfl⟩;rw[show(Value.slice a4 (movedL h y.xs q.moves).length c4)=.slice z.a z.xs.length z.c by rw[hz]];have HZX:Hid (z.xs=trimL h s.cues (k+1)):=lh (by rw[hz];exact HNX.out);have HZN:Hid (z.a=none→z.c=0):=lh (by rw[hz];exact HN4.out);have HZO:Hid (w4.ownsRow n₀ 3 1 (lstV z) z.xs.length (nflat z.xs)):=lh (by rw[hz];exact ownsRow_base HR4.out hn3);have HR5:Hid (w4.ownsRow n₀ 30 1 u9 (k+1) (lflat P)∧OwnLs w4 n₀ P):=lh ⟨ownsRow_below HR3.out.1 hb4,HR3.out.2.1.below hb4⟩;have HTR:=lh HR3.out.2.2.1;clear hz HR4 HN4 HR3 hb4 d0 d1 d2 d3 d4 d5 d6 a0 a1 a2 a3;have hbx:=below_new w4 (.cells #[.slice z.a z.xs.length z.c] 30);have HRX:Hid ((w4.alloc (.cells #[.slice z.a z.xs.length z.c] 30)).ownsRow n₀ 30 1 u9 P.length (lflat P)):=lh (by rw[HTR.out.len];exact ownsRow_below HR5.out.1 hbx);have HLX:Hid (OwnLs (w4.alloc (.cells #[.slice z.a z.xs.length z.c] 30)) n₀ (P++[z])):=lh ((HR5.out.2.snoc HZO.out).below hbx);have hBx:=hB4.alloc hn4 (.cells #[.slice z.a z.xs.length z.c] 30);have hnx:n₀≤(w4.alloc (.cells #[.slice z.a z.xs.length z.c] 30)).heap.size:=by simp;omega
     have hPl:P.length≤1000000:=by have:=HTR.out.len;omega
     clear hbx
     go_wp2_with (at_builtin;refine lst_append rfl _ _ rfl n₀ _ P rfl HRX.out _ z rfl (by simp) hPl hnx ?_;intro v6 w6 hown6 hg6;have hB6:=grown_own HRX.out hg6 hBx hnx (Nat.le_refl _);have HO6:=lh hown6;have HL6:=lh (HLX.out.kept HRX.out hg6);have hs6:=Nat.le_trans hnx hg6.size;clear hown6 hg6)
     go_roundw
     case rel=>exact⟨k+1,z,P++[z],rfl,by go_num,by omega,hB6,hs6,lh ⟨by have:=HO6.out;rw[List.length_append,HTR.out.len]at this;exact this,HL6.out,HTR.out.snoc HZX.out,by rw[←HTR.out.len,lg_new],HZN.out⟩⟩
     case measure=>simp[intOf];omega
    ·obtain rfl:k=s.cues.length:=by omega
     go_wp2_with fail
     go_ret2
     obtain⟨a,c,e1,ht⟩:=trims_in (P:=P) (by rw[HR.out.2.2.1.len];exact HR.out.1) HR.out.2.1 HR.out.2.2.1;rw[HR.out.2.2.1.len]at e1;exact⟨lh ⟨a,c,P,by rw[←e1];rfl,ht⟩,HWW.out _ hB⟩
theorem cgiven_yes(h:HouseR)(q:CueR)(ta:Option Addr)(t:List Int)(tc:Nat)(w:World)(hh:HouseIn w h)(hm:Movs w.heap.size w q.ma q.moves)(hml:q.moves.length≤1000)(hmc:q.moves.length≤q.mc)(ht:Nums w.heap.size w ta t)(hb:houseB h=true)(hr:rightB h q=true)(hto:TrimOK h t):
  Calls Tryz.prog 107 #[.agg #[.string h.name,.int .i64 h.height,.slice h.sa h.sets.length h.sc,.slice h.ra h.roofs.length h.rc],.slice ta t.length tc,.agg #[.string q.name,.string q.after,.int .i64 q.link,.int .i64 q.delay,.slice q.ma q.moves.length q.mc,.int .i64 q.crew,.int .i64 q.power]] w fun e w'=>e=.returned (.int .i64 0)∧Below w.heap.size w w':=by
 have hb0:Below w.heap.size w ((w.alloc (LHo h)).alloc (LCu q)):=(below_new w _).alloc (by simp) _
 have HX:Hid (∀w',Below ((w.alloc (LHo h)).alloc (LCu q)).heap.size ((w.alloc (LHo h)).alloc (LCu q)) w'→HouseAt w' w.heap.size h∧CueAt w' (w.heap.size+1) q∧HouseIn w' h∧Movs w'.heap.size w' q.ma q.moves∧Nums w'.heap.size w' ta t):=lh fun w' z=>
  ⟨((HouseAt.new w h _).carry (below_new _ _)).carry z,(CueAt.new (w.alloc _) q _ _ (by simp)).carry z,(hh.grow hb0).grow z,(hm.grow hb0).grow z,(ht.grow hb0).grow z⟩
 have HW:Hid (∀w',Below ((w.alloc (LHo h)).alloc (LCu q)).heap.size ((w.alloc (LHo h)).alloc (LCu q)) w'→Below w.heap.size w w'):=lh fun w' z=>hb0.trans (z.mono hb0.size);have hsl:=hh.slen;have HTL:=lh hto.1;have HTO:=lh hto.2;have htl:t.length≤1000:=by have:=hto.1;omega
 have HB:=lh hb;have HR:=lh hr;have HC1:=lh fun (w':World) (z:HouseIn w' h)=>housevalid_any h w' z;have HC2:=lh fun (w':World) (z:HouseIn w' h) (z2:Movs w'.heap.size w' q.ma q.moves)=>right_any h q w' z.toHouseIn0 hsl z2 hml hmc;have HD:Hid (((t.length:Int)!=(h.sets.length:Int))=false):=lh (by rw[hto.1];exact bne_self_eq_false _);clear hh hm ht hb0 hb hr hto
 go_enter Tryz.func107,Tryz.ntmps107
 go_upto_region 1 with (fail)
 obtain⟨W0,hW0⟩:=nm (((w.alloc (LHo h)).alloc (LCu q)):World);simp only[hW0]at HX HW⊢;clear hW0;obtain⟨B1,hB1⟩:=nm (w.heap.size);obtain⟨B2,hB2⟩:=nm (w.heap.size+1);rw[hB2]at HX⊢;rw[hB1]at HX⊢;clear hB1 hB2;obtain⟨n₀,hn0⟩:=nm (W0.heap.size);rw[hn0]at HX HW;obtain⟨⟨a0,a1,a2,a3⟩,⟨c0,c1,c2,c3,c4,c5,c6⟩,-,-,-⟩:=HX.out _ (by rw[←hn0];exact br);obtain⟨sa,hsa⟩:=nm (h.sa);have HSA:=lh hsa;rw[hsa]at a2 HC1 HC2⊢;have hd:=HD.out;clear hsa
 go_upto_region 6 with (first
  | (go_at_call 94;(with_reducible refine(HC1.out _ (by have:=(HX.out _ (by rw[←hn0];exact br)).2.2.1;exact this)).mono ?_);rintro e w1 ⟨rfl,hb1⟩;rw[HB.out];rw[hn0]at hb1;obtain⟨⟨u0,u1,u2,u3⟩,⟨v0,v1,v2,v3,v4,v5,v6⟩,-,-,-⟩:=HX.out _ hb1;rw[HSA.out]at u2)
  | (go_at_call 95;(with_reducible refine(HC2.out _ (HX.out _ hb1).2.2.1 (HX.out _ hb1).2.2.2.1).mono ?_);rintro e w2 ⟨rfl,hb2'⟩;rw[HR.out];have hb2:=hb1.trans (hb2'.mono (by have:=hb1.size;omega));obtain⟨⟨x0,x1,x2,x3⟩,-,-,-,-⟩:=HX.out _ hb2;rw[HSA.out]at x2))
 clear a0 a1 a2 a3 c0 c1 c2 c3 c4 c5 c6 u0 u1 u2 u3 v0 v1 v2 v3 v4 v5 v6 x0 x1 x2 x3 hd HD hb2' hb1
 go_loopw [7,8,28] (fun _ _ iv wr=>∃k:Nat,iv=.int .i64 k∧k≤t.length∧Below n₀ W0 wr) (fun _ _ iv _=>t.length-(intOf iv).toNat)
 case atStart=>exact⟨0,rfl,Nat.zero_le _,hb2⟩
 case round=>
  clear hb2;obtain⟨k,rfl,hk,hB⟩:=hrel
  by_cases hlt:k<t.length
  ·obtain⟨⟨a0,a1,a2,a3⟩,-,hi,-,hn⟩:=HX.out _ hB
   obtain⟨tb,tf,hta,htb,htx⟩:=hn (by omega);subst hta;have e0:=htx k hlt;obtain⟨sb,so,hsa,hsb,hsx⟩:=hi.sets (by rw[←HTL.out];omega);rw[HSA.out]at hsa a2;subst hsa;have hks:k<h.sets.length:=by rw[←HTL.out];exact hlt
   obtain⟨d0,d1,d2,d3,d4,d5,d6,d7,d8,d9,d10,d11,d12⟩:=hsx k hks;have HBT:Hid (betB (ig t k) (hg h.sets k).low (hg h.sets k).high=true):=lh (betB_iff.2 (HTO.out k hlt));clear hi hn htx hsx d0 d1 d4 d5 d6 d7 d8 d9 d10 d11 d12;obtain⟨y,hy⟩:=nm (hg h.sets k);rw[hy]at d2 d3 HBT;clear hy;have HGB:=lh (cbetw_any (ig t k) y.low y.high)
   go_wp2_with (go_quiet ((go_at_call 147;exact Calls.quiet_of_same (v:=.bool true) ((HGB.out _).mono fun e w' h=>⟨h.1.trans (by rw[HBT.out]),h.2.symm⟩))))
   go_roundw
   case rel=>exact⟨k+1,by go_num,by omega,below_drewN hB _⟩
   case measure=>simp[intOf];omega
  ·obtain rfl:k=t.length:=by omega
   go_wp2_with fail
   go_ret;exact⟨rfl,HW.out _ hB⟩
end
section
def tN(d R F t:Int):Int:=2*R*F*d+t*t*(R+F)
def tD(R F t:Int):Int:=2*R*F*t
theorem posD{R F:Int}(hR:1≤R)(hF:1≤F):0<2*R*F:=Int.mul_pos (Int.mul_pos (by decide) (by omega)) (by omega)
end
end Go.Proofs.YtebofaenlhhkaaaGreat
