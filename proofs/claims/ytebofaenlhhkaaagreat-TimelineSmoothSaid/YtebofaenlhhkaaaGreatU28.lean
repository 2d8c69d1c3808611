/-
  PLAIN LAWS over any program: a piece in a block; its numbers stored anew.
-/
import Derived.Test.YtebofaenlhhkaaaGreatU27
namespace Go.Proofs.YtebofaenlhhkaaaGreat
set_option maxRecDepth 100000
set_option maxHeartbeats 80000000
section
open Go.RowKit Go.Shelf
structure PB(w:World)(b:Nat)(p:Pc):Prop where
 c0:w.cell? ⟨b,0,none⟩=some (.int .i64 p.f0)
 c1:w.cell? ⟨b,1,none⟩=some (.int .i64 p.f1)
 c2:w.cell? ⟨b,2,none⟩=some (.int .i64 p.a0)
 c3:w.cell? ⟨b,3,none⟩=some (.int .i64 p.a1)
 c4:w.cell? ⟨b,4,none⟩=some (.int .i64 p.b0)
 c5:w.cell? ⟨b,5,none⟩=some (.int .i64 p.b1)
 c6:w.cell? ⟨b,6,none⟩=some (.int .i64 p.c0)
 c7:w.cell? ⟨b,7,none⟩=some (.int .i64 p.c1)
 free:∀i,w.frozen? ⟨b,i,none⟩=false
theorem PB.lt{w:World}{b:Nat}{p:Pc}(h:PB w b p):b<w.heap.size:=wl h.c0
theorem PB.carry{w w':World}{b:Nat}{p:Pc}(h:PB w b p)(hb:Below w.heap.size w w'):PB w' b p:=
 ⟨(hb.cell (p:=⟨b,0,none⟩) h.lt).trans h.c0,(hb.cell (p:=⟨b,1,none⟩) h.lt).trans h.c1,(hb.cell (p:=⟨b,2,none⟩) h.lt).trans h.c2,(hb.cell (p:=⟨b,3,none⟩) h.lt).trans h.c3,(hb.cell (p:=⟨b,4,none⟩) h.lt).trans h.c4,(hb.cell (p:=⟨b,5,none⟩) h.lt).trans h.c5,(hb.cell (p:=⟨b,6,none⟩) h.lt).trans h.c6,(hb.cell (p:=⟨b,7,none⟩) h.lt).trans h.c7,fun i=>(hb.frozen (p:=⟨b,i,none⟩) h.lt).trans (h.free i)⟩
theorem PB.new(w:World)(p:Pc)(t:TypeId):PB (w.alloc (.cells #[.int .i64 p.f0,.int .i64 p.f1,.int .i64 p.a0,.int .i64 p.a1,.int .i64 p.b0,.int .i64 p.b1,.int .i64 p.c0,.int .i64 p.c1] t)) w.heap.size p:=
 ⟨by simp,by simp,by simp,by simp,by simp,by simp,by simp,by simp,fun i=>by simp⟩
theorem PB.set{w:World}{b j:Nat}{p q:Pc}(h:PB w b p)(v:Value)(hj:j<8)(hs:(0=j→v=.int .i64 q.f0)∧(¬0=j→q.f0=p.f0)∧(1=j→v=.int .i64 q.f1)∧(¬1=j→q.f1=p.f1)∧(2=j→v=.int .i64 q.a0)∧(¬2=j→q.a0=p.a0)∧(3=j→v=.int .i64 q.a1)∧(¬3=j→q.a1=p.a1)∧(4=j→v=.int .i64 q.b0)∧(¬4=j→q.b0=p.b0)∧(5=j→v=.int .i64 q.b1)∧(¬5=j→q.b1=p.b1)∧(6=j→v=.int .i64 q.c0)∧(¬6=j→q.c0=p.c0)∧(7=j→v=.int .i64 q.c1)∧(¬7=j→q.c1=p.c1)):PB (w.setCell ⟨b,j,none⟩ v) b q:=by
 obtain⟨y0,n0,y1,n1,y2,n2,y3,n3,y4,n4,y5,n5,y6,n6,y7,n7⟩:=hs;have same:∀k u,w.cell? ⟨b,k,none⟩=some u→k=j→(w.setCell ⟨b,j,none⟩ v).cell? ⟨b,k,none⟩=some v:=fun k u hu e=>by subst e;exact World.cell?_setCell_same _ _ _ hu
 have other:∀k,¬k=j→(w.setCell ⟨b,j,none⟩ v).cell? ⟨b,k,none⟩=w.cell? ⟨b,k,none⟩:=fun k e=>World.cell?_setCell_other _ _ _ _ (fun x=>e (congrArg Addr.off x).symm);refine⟨?_,?_,?_,?_,?_,?_,?_,?_,fun i=>by simpa using h.free i⟩
 ·by_cases e:0=j
  ·rw[same 0 _ h.c0 e,y0 e]
  ·rw[other 0 e,h.c0,n0 e]
 ·by_cases e:1=j
  ·rw[same 1 _ h.c1 e,y1 e]
  ·rw[other 1 e,h.c1,n1 e]
 ·by_cases e:2=j
  ·rw[same 2 _ h.c2 e,y2 e]
  ·rw[other 2 e,h.c2,n2 e]
 ·by_cases e:3=j
  ·rw[same 3 _ h.c3 e,y3 e]
  ·rw[other 3 e,h.c3,n3 e]
 ·by_cases e:4=j
  ·rw[same 4 _ h.c4 e,y4 e]
  ·rw[other 4 e,h.c4,n4 e]
 ·by_cases e:5=j
  ·rw[same 5 _ h.c5 e,y5 e]
  ·rw[other 5 e,h.c5,n5 e]
 ·by_cases e:6=j
  ·rw[same 6 _ h.c6 e,y6 e]
  ·rw[other 6 e,h.c6,n6 e]
 ·by_cases e:7=j
  ·rw[same 7 _ h.c7 e,y7 e]
  ·rw[other 7 e,h.c7,n7 e]
theorem PB.far{w:World}{b b2 j:Nat}{p:Pc}(h:PB w b p)(hne:b≠b2)(v:Value):PB (w.setCell ⟨b2,j,none⟩ v) b p:=
 ⟨(World.cell?_setCell_other _ _ _ _ (fun x=>hne (congrArg Addr.block x).symm)).trans h.c0,(World.cell?_setCell_other _ _ _ _ (fun x=>hne (congrArg Addr.block x).symm)).trans h.c1,(World.cell?_setCell_other _ _ _ _ (fun x=>hne (congrArg Addr.block x).symm)).trans h.c2,(World.cell?_setCell_other _ _ _ _ (fun x=>hne (congrArg Addr.block x).symm)).trans h.c3,(World.cell?_setCell_other _ _ _ _ (fun x=>hne (congrArg Addr.block x).symm)).trans h.c4,(World.cell?_setCell_other _ _ _ _ (fun x=>hne (congrArg Addr.block x).symm)).trans h.c5,(World.cell?_setCell_other _ _ _ _ (fun x=>hne (congrArg Addr.block x).symm)).trans h.c6,(World.cell?_setCell_other _ _ _ _ (fun x=>hne (congrArg Addr.block x).symm)).trans h.c7,fun i=>by simpa using h.free i⟩
theorem pc_from(q:Pc){w:World}{b:Nat}{p:Pc}(z:PB w b p):(setFrom w b 0 [.int .i64 q.f0,.int .i64 q.f1,.int .i64 q.a0,.int .i64 q.a1,.int .i64 q.b0,.int .i64 q.b1,.int .i64 q.c0,.int .i64 q.c1]).cell? ⟨b,0,none⟩=some (.int .i64 q.f0)∧(setFrom w b 0 [.int .i64 q.f0,.int .i64 q.f1,.int .i64 q.a0,.int .i64 q.a1,.int .i64 q.b0,.int .i64 q.b1,.int .i64 q.c0,.int .i64 q.c1]).cell? ⟨b,1,none⟩=some (.int .i64 q.f1)∧(setFrom w b 0 [.int .i64 q.f0,.int .i64 q.f1,.int .i64 q.a0,.int .i64 q.a1,.int .i64 q.b0,.int .i64 q.b1,.int .i64 q.c0,.int .i64 q.c1]).cell? ⟨b,2,none⟩=some (.int .i64 q.a0)∧(setFrom w b 0 [.int .i64 q.f0,.int .i64 q.f1,.int .i64 q.a0,.int .i64 q.a1,.int .i64 q.b0,.int .i64 q.b1,.int .i64 q.c0,.int .i64 q.c1]).cell? ⟨b,3,none⟩=some (.int .i64 q.a1)∧(setFrom w b 0 [.int .i64 q.f0,.int .i64 q.f1,.int .i64 q.a0,.int .i64 q.a1,.int .i64 q.b0,.int .i64 q.b1,.int .i64 q.c0,.int .i64 q.c1]).cell? ⟨b,4,none⟩=some (.int .i64 q.b0)∧(setFrom w b 0 [.int .i64 q.f0,.int .i64 q.f1,.int .i64 q.a0,.int .i64 q.a1,.int .i64 q.b0,.int .i64 q.b1,.int .i64 q.c0,.int .i64 q.c1]).cell? ⟨b,5,none⟩=some (.int .i64 q.b1)∧(setFrom w b 0 [.int .i64 q.f0,.int .i64 q.f1,.int .i64 q.a0,.int .i64 q.a1,.int .i64 q.b0,.int .i64 q.b1,.int .i64 q.c0,.int .i64 q.c1]).cell? ⟨b,6,none⟩=some (.int .i64 q.c0)∧(setFrom w b 0 [.int .i64 q.f0,.int .i64 q.f1,.int .i64 q.a0,.int .i64 q.a1,.int .i64 q.b0,.int .i64 q.b1,.int .i64 q.c0,.int .i64 q.c1]).cell? ⟨b,7,none⟩=some (.int .i64 q.c1):=by
 have h:∀i,i<([.int .i64 q.f0,.int .i64 q.f1,.int .i64 q.a0,.int .i64 q.a1,.int .i64 q.b0,.int .i64 q.b1,.int .i64 q.c0,.int .i64 q.c1]:List Value).length→(w.cell? ⟨b,0+i,none⟩).isSome=true:=by
  intro i hi;have hi':i<8:=hi;rw[Nat.zero_add];obtain rfl | rfl | rfl | rfl | rfl | rfl | rfl | rfl:i=0∨i=1∨i=2∨i=3∨i=4∨i=5∨i=6∨i=7:=by omega
  ·rw[z.c0];rfl
  ·rw[z.c1];rfl
  ·rw[z.c2];rfl
  ·rw[z.c3];rfl
  ·rw[z.c4];rfl
  ·rw[z.c5];rfl
  ·rw[z.c6];rfl
  ·rw[z.c7];rfl
 have r:=read_from ([.int .i64 q.f0,.int .i64 q.f1,.int .i64 q.a0,.int .i64 q.a1,.int .i64 q.b0,.int .i64 q.b1,.int .i64 q.c0,.int .i64 q.c1]:List Value) w b 0 h;exact⟨r 0 (by simp),r 1 (by simp),r 2 (by simp),r 3 (by simp),r 4 (by simp),r 5 (by simp),r 6 (by simp),r 7 (by simp)⟩
theorem PB.putA{w:World}{b:Nat}{p:Pc}(h:PB w b p)(x y:Int):PB ((w.setCell ⟨b,2,none⟩ (.int .i64 x)).setCell ⟨b,3,none⟩ (.int .i64 y)) b ⟨p.f0,p.f1,x,y,p.b0,p.b1,p.c0,p.c1⟩:=
 (h.set (q:=⟨p.f0,p.f1,x,p.a1,p.b0,p.b1,p.c0,p.c1⟩) (.int .i64 x) (by decide) (by simp)).set (.int .i64 y) (by decide) (by simp)
structure HQ(n₀:Nat)(W0:World)(B:Nat)(w:World):Prop where
 old:Below n₀ W0 w
 pb:∃q,PB w B q
 lo:n₀≤B
theorem HQ.size{n₀ B:Nat}{W0 w:World}(h:HQ n₀ W0 B w):n₀≤w.heap.size:=by
 obtain⟨q,z⟩:=h.pb;have:=z.lt;have:=h.lo;omega
theorem HQ.next{n₀ B:Nat}{W0 w w':World}(h:HQ n₀ W0 B w)(hb:Below w.heap.size w w'):HQ n₀ W0 B w':=⟨h.old.trans (hb.mono h.size),by obtain⟨q,z⟩:=h.pb;exact⟨q,z.carry hb⟩,h.lo⟩
theorem HQ.putAt{n₀ B i j:Nat}{W0 w:World}{u v:Value}{q:Pc}(h:HQ n₀ W0 B w)(z:PB ((w.setCell ⟨B,i,none⟩ u).setCell ⟨B,j,none⟩ v) B q):HQ n₀ W0 B ((w.setCell ⟨B,i,none⟩ u).setCell ⟨B,j,none⟩ v):=
 ⟨(h.old.setCell (show n₀≤(⟨B,i,none⟩:Addr).block from h.lo) _).setCell (show n₀≤(⟨B,j,none⟩:Addr).block from h.lo) _,⟨q,z⟩,h.lo⟩
theorem PB.putF{w:World}{b:Nat}{p:Pc}(h:PB w b p)(x y:Int):PB ((w.setCell ⟨b,0,none⟩ (.int .i64 x)).setCell ⟨b,1,none⟩ (.int .i64 y)) b ⟨x,y,p.a0,p.a1,p.b0,p.b1,p.c0,p.c1⟩:=
 (h.set (q:=⟨x,p.f1,p.a0,p.a1,p.b0,p.b1,p.c0,p.c1⟩) (.int .i64 x) (by decide) (by simp)).set (.int .i64 y) (by decide) (by simp)
theorem PB.putB0{w:World}{b:Nat}{p:Pc}(h:PB w b p)(x:Int):PB (w.setCell ⟨b,4,none⟩ (.int .i64 x)) b ⟨p.f0,p.f1,p.a0,p.a1,x,p.b1,p.c0,p.c1⟩:=h.set (.int .i64 x) (by decide) (by simp)
theorem PB.putC0{w:World}{b:Nat}{p:Pc}(h:PB w b p)(x:Int):PB (w.setCell ⟨b,6,none⟩ (.int .i64 x)) b ⟨p.f0,p.f1,p.a0,p.a1,p.b0,p.b1,x,p.c1⟩:=h.set (.int .i64 x) (by decide) (by simp)
structure HP(n₀:Nat)(W0:World)(B C:Nat)(w:World):Prop where
 h:HQ n₀ W0 B w
 r:∃q,PB w C q
 ne:C≠B
theorem HP.next{n₀ B C:Nat}{W0 w w':World}(h:HP n₀ W0 B C w)(hb:Below w.heap.size w w'):HP n₀ W0 B C w':=⟨h.h.next hb,by obtain⟨q,z⟩:=h.r;exact⟨q,z.carry hb⟩,h.ne⟩
theorem HP.putAt{n₀ B C i j:Nat}{W0 w:World}{u v:Value}{q:Pc}(h:HP n₀ W0 B C w)(z:PB ((w.setCell ⟨B,i,none⟩ u).setCell ⟨B,j,none⟩ v) B q):HP n₀ W0 B C ((w.setCell ⟨B,i,none⟩ u).setCell ⟨B,j,none⟩ v):=
 ⟨h.h.putAt z,by obtain⟨q,z⟩:=h.r;exact⟨q,(z.far h.ne u).far h.ne v⟩,h.ne⟩
def setL(j:Nat):List Value→List Value→List Value
 | [],xs=>xs
 | v::vs,xs=>setL (j+1) vs (xs.set j v)
theorem own_setFrom{base n cap size g:Nat}{e:TypeId}:∀(vs:List Value) (w:World) (j:Nat) (xs:List Value),w.ownsRow base e size (.slice (some ⟨g,0,none⟩) n cap) n xs→(setFrom w g j vs).ownsRow base e size (.slice (some ⟨g,0,none⟩) n cap) n (setL j vs xs)
 | [],_,_,_,h=>h
 | v::vs,_,j,_,h=>own_setFrom vs _ (j+1) _ (h.stored j v).1
theorem setL_cons(x:Value):∀(vs:List Value) (j:Nat) (xs:List Value),setL (j+1) vs (x::xs)=x::setL j vs xs
 | [],_,_=>rfl
 | v::vs,j,xs=>by simp only[setL,List.set_cons_succ];exact setL_cons x vs (j+1) _
theorem setL_app(us:List Value)(vs:List Value)(j:Nat)(xs:List Value):setL (j+us.length) vs (us++xs)=us++setL j vs xs:=by
 induction us with
 | nil=>rfl
 | cons u us ih=>rw[List.cons_append,List.length_cons,←Nat.add_assoc,setL_cons,ih,List.cons_append]
theorem pcflat_cons(x:Pc)(L:List Pc):pcflat (x::L)=[.int .i64 x.f0,.int .i64 x.f1,.int .i64 x.a0,.int .i64 x.a1,.int .i64 x.b0,.int .i64 x.b1,.int .i64 x.c0,.int .i64 x.c1]++pcflat L:=by simp[pcflat]
theorem pcflat_set(y:Pc):∀(L:List Pc) (i:Nat),i<L.length→setL (i*8) [.int .i64 y.f0,.int .i64 y.f1,.int .i64 y.a0,.int .i64 y.a1,.int .i64 y.b0,.int .i64 y.b1,.int .i64 y.c0,.int .i64 y.c1] (pcflat L)=pcflat (L.set i y)
 | x::L,0,_=>by
  rw[pcflat_cons,List.set_cons_zero,pcflat_cons]
  rfl
 | x::L,i+1,h=>by
  rw[pcflat_cons,List.set_cons_succ,pcflat_cons,show(i+1)*8=i*8+([.int .i64 x.f0,.int .i64 x.f1,.int .i64 x.a0,.int .i64 x.a1,.int .i64 x.b0,.int .i64 x.b1,.int .i64 x.c0,.int .i64 x.c1]:List Value).length by simp;omega,setL_app,pcflat_set y L i (by simpa using h)]
theorem own_put{w:World}{base n cap g i:Nat}{L:List Pc}(h:w.ownsRow base 122 8 (.slice (some ⟨g,0,none⟩) n cap) n (pcflat L))(y:Pc)(hi:i<L.length):
  (setFrom w g (i*8) [.int .i64 y.f0,.int .i64 y.f1,.int .i64 y.a0,.int .i64 y.a1,.int .i64 y.b0,.int .i64 y.b1,.int .i64 y.c0,.int .i64 y.c1]).ownsRow base 122 8 (.slice (some ⟨g,0,none⟩) n cap) n (pcflat (L.set i y)):=by
 rw[←pcflat_set y L i hi];exact own_setFrom _ _ _ _ h
theorem own_free{w:World}{base n cap g size:Nat}{e:TypeId}{xs:List Value}(h:w.ownsRow base e size (.slice (some ⟨g,0,none⟩) n cap) n xs):∀i,w.frozen? ⟨g,i,none⟩=false:=by
 rcases h.2 with ⟨e,_⟩ | ⟨g',cap',cur,e,hb,hg,_⟩
 ·cases e
 ·cases e
  intro i
  simp[World.frozen?,hg]
theorem pcb_append{ops:Array Oper}{rest:List Oper}{o:Oper}{a:Act}{w:World}{Q:Exit→Act→World→Prop}(hgd:o.guard=none)(s x:Operand)
  (ho:o.op=.call {callee:=.builtin .append,args:=#[s,x],argTypes:=#[34,34]})
  (base:Nat) (v:Value) (L:List Pc) (hs:a.eval s=v) (hown:w.ownsRow base 122 8 v L.length (pcflat L))
  (bl:Nat) (y:Pc) (hx:a.eval x=.slice (some ⟨bl,0,none⟩) 1 1) (hc:PB w bl y) (hl:L.length≤1000000) (hbase:base≤w.heap.size)
  (h:∀v' w',w'.ownsRow base 122 8 v' (L++[y]).length (pcflat (L++[y]))→w.grownBy w' v.ownBlock→(v'.ownBlock=v.ownBlock∨v'.ownBlock=some w.heap.size)→wpList Tryz.prog ops Q rest (a.put o.dst v') w'):wpList Tryz.prog ops Q (o::rest) a w:=by
 obtain⟨i0,hi,hz0,hz1,hz2⟩:=info_parts piece_info;refine wpList_append_own_at _ hgd s x 34 ho base 122 i0 _ 8 64 Tryz.underlying34 hi hz0 hz1 hz2 rfl (by decide) v L.length (pcflat L) hs hown ⟨bl,0,none⟩ 1 1 [.int .i64 y.f0,.int .i64 y.f1,.int .i64 y.a0,.int .i64 y.a1,.int .i64 y.b0,.int .i64 y.b1,.int .i64 y.c0,.int .i64 y.c1] hx rfl ?_ (by simp[Value.oneCell']) (by unfold maxLen;omega) (by omega) hbase ?_
 ·obtain⟨c0,c1,c2,c3,c4,c5,c6,c7,-⟩:=hc
  intro j u hj;rw[Go.WideShapes.add_plain,Nat.zero_add]
  match j,hj with
  | 0,hj=>simp at hj;subst hj;exact c0
  | 1,hj=>simp at hj;subst hj;exact c1
  | 2,hj=>simp at hj;subst hj;exact c2
  | 3,hj=>simp at hj;subst hj;exact c3
  | 4,hj=>simp at hj;subst hj;exact c4
  | 5,hj=>simp at hj;subst hj;exact c5
  | 6,hj=>simp at hj;subst hj;exact c6
  | 7,hj=>simp at hj;subst hj;exact c7
 ·intro v' w' h1 h2 _ h4
  refine h v' w' ?_ h2 h4;rw[pcflat_snoc,List.length_append];exact h1
end
section
def fr(a:Int×Int):Rat:=(a.1:Rat)/(a.2:Rat)
theorem cast_pos{d:Int}(h:0<d):(0:Rat)<(d:Rat):=Rat.intCast_pos.2 h
theorem cast_ne{d:Int}(h:0<d):(d:Rat)≠0:=fun e=>by have:=cast_pos h;rw[e]at this;exact Rat.lt_irrefl this
theorem frq_mul(a:Int×Int)(h:0<a.2):fr a*(a.2:Rat)=(a.1:Rat):=Rat.div_mul_cancel (cast_ne h)
theorem frq_one(n:Int):fr (n,1)=(n:Rat):=by
 show(n:Rat)/(1:Rat)=(n:Rat)
 grind
theorem frq_zero:fr (0,1)=0:=frq_one 0
theorem frq_le{a b:Int×Int}(ha:0<a.2)(hb:0<b.2):fr a≤fr b↔a.1*b.2≤b.1*a.2:=by
 have h:=frq_mul a ha;have k:=frq_mul b hb;have pa:=cast_pos ha;have pb:=cast_pos hb;rw[←Rat.intCast_le_intCast,Rat.intCast_mul,Rat.intCast_mul,←h,←k];have pp:=Rat.mul_pos pa pb;rw[show fr a*(a.2:Rat)*(b.2:Rat)=fr a*((a.2:Rat)*(b.2:Rat))by grind,show fr b*(b.2:Rat)*(a.2:Rat)=fr b*((a.2:Rat)*(b.2:Rat))by grind];exact⟨fun x=>Rat.mul_le_mul_of_nonneg_right x (Rat.le_of_lt pp),fun x=>Rat.le_of_mul_le_mul_right x pp⟩
theorem frq_lt{a b:Int×Int}(ha:0<a.2)(hb:0<b.2):fr a<fr b↔a.1*b.2<b.1*a.2:=by
 rw[←Rat.not_le,frq_le hb ha];omega
theorem frq_eq{a b:Int×Int}(ha:0<a.2)(hb:0<b.2):fr a=fr b↔a.1*b.2=b.1*a.2:=by
 constructor
 ·intro h
  have x:=(frq_le ha hb).1 (by rw[h];exact Rat.le_refl);have y:=(frq_le hb ha).1 (by rw[h];exact Rat.le_refl);omega
 ·intro h
  exact Rat.le_antisymm ((frq_le ha hb).2 (by omega)) ((frq_le hb ha).2 (by omega))
theorem frq_low(n d:Int)(hd:0<d):fr (lowN n d,lowD n d)=(n:Rat)/(d:Rat):=
 (frq_eq (a:=(lowN n d,lowD n d)) (b:=(n,d)) (lowD_pos hd) hd).2 (low_cross n d)
theorem frq_inj{a b:Int×Int}(va:vF a=true)(vb:vF b=true)(h:fr a=fr b):a=b:=by
 obtain⟨a1,_,_,_,a5⟩:=(validF_iff _ _).1 va;obtain⟨b1,_,_,_,b5⟩:=(validF_iff _ _).1 vb;have:=low_unique (by omega) (by omega) a5 b5 ((frq_eq (a:=a) (b:=b) (by omega) (by omega)).1 h);exact Prod.ext this.1 this.2
theorem div_add(a b c d:Rat)(hb:b≠0)(hd:d≠0):a/b+c/d=(a*d+c*b)/(b*d):=by grind
theorem frq_add{a b:Int×Int}(ha:0<a.2)(hb:0<b.2):fr (lowN (a.1*b.2+b.1*a.2) (a.2*b.2),lowD (a.1*b.2+b.1*a.2) (a.2*b.2))=fr a+fr b:=by
 rw[frq_low _ _ (Int.mul_pos ha hb)];unfold fr;rw[div_add _ _ _ _ (cast_ne ha) (cast_ne hb)]
 simp
theorem frq_neg(a:Int×Int):fr (-a.1,a.2)=-fr a:=by unfold fr;simp[Rat.div_def,Rat.neg_mul]
theorem frq_times{a b:Int×Int}(ha:0<a.2)(hb:0<b.2):fr (lowN (a.1*b.1) (a.2*b.2),lowD (a.1*b.1) (a.2*b.2))=fr a*fr b:=by
 rw[frq_low _ _ (Int.mul_pos ha hb)];unfold fr;have:=cast_ne ha;have:=cast_ne hb
 simp
 grind
theorem kp_ok{e p q:Int}(h:(kp e (fitP p q)).2=0):e=0∧(kp e (fitP p q)).1=(p,q):=by
 unfold kp at *
 by_cases z:(fitP p q).2.2=0
 ·rw[if_pos z]at h⊢
  refine⟨h,?_⟩;unfold fitP at *
  split at z
  ·cases z
  next hn=>rw[if_neg hn]
 ·rw[if_neg z]at h
  simp only at h
  split at h
  ·exact absurd h z
  next hn=>exact absurd h hn
theorem kAdd_ok{e:Int}{a b:Int×Int}(ha:0<a.2)(hb:0<b.2)(h:(kAdd e a b).2=0):e=0∧fr (kAdd e a b).1=fr a+fr b:=by
 obtain⟨h1,h2⟩:=kp_ok (h:(kp e (fitP _ _)).2=0);exact⟨h1,by rw[←frq_add ha hb];exact congrArg fr h2⟩
theorem kSub_ok{e:Int}{a b:Int×Int}(ha:0<a.2)(hb:0<b.2)(h:(kSub e a b).2=0):e=0∧fr (kSub e a b).1=fr a-fr b:=by
 obtain⟨h1,h2⟩:=kAdd_ok (e:=e) (a:=a) (b:=(-b.1,b.2)) ha hb h;exact⟨h1,by rw[frq_neg]at h2;rw[Rat.sub_eq_add_neg,←h2];rfl⟩
theorem kMul_ok{e:Int}{a b:Int×Int}(ha:0<a.2)(hb:0<b.2)(h:(kMul e a b).2=0):e=0∧fr (kMul e a b).1=fr a*fr b:=by
 obtain⟨h1,h2⟩:=kp_ok (h:(kp e (fitP _ _)).2=0);exact⟨h1,by rw[←frq_times ha hb];exact congrArg fr h2⟩
theorem kVal_ok{e:Int}{A B C u:Int×Int}(vA:vF A=true)(vB:vF B=true)(vC:vF C=true)(vu:vF u=true)(h:(kVal e A B C u).2=0):e=0∧fr (kVal e A B C u).1=fr A+(fr B+fr C*fr u)*fr u:=by
 unfold kVal at h⊢;have v1:vF (kMul e C u).1=true:=kMul_valid vC vu;have v2:vF (kAdd (kMul e C u).2 B (kMul e C u).1).1=true:=kAdd_valid vB v1;obtain⟨h3,e4⟩:=kAdd_ok (den_pos vA) (den_pos (kMul_valid v2 vu)) h;obtain⟨h2,e3⟩:=kMul_ok (den_pos v2) (den_pos vu) h3;obtain⟨h1,e2⟩:=kAdd_ok (den_pos vB) (den_pos v1) h2;obtain⟨h0,e1⟩:=kMul_ok (den_pos vC) (den_pos vu) h1;exact⟨h0,by rw[e4,e3,e2,e1]⟩
theorem kSlope_ok{e:Int}{B C u:Int×Int}(vB:vF B=true)(vC:vF C=true)(vu:vF u=true)(h:(kSlope e B C u).2=0):e=0∧fr (kSlope e B C u).1=fr B+2*(fr C*fr u):=by
 unfold kSlope at h⊢;have v1:vF (kMul e C u).1=true:=kMul_valid vC vu;obtain⟨h2,e3⟩:=kAdd_ok (den_pos vB) (den_pos (kMul_valid vF_two v1)) h;obtain⟨h1,e2⟩:=kMul_ok (den_pos vF_two) (den_pos v1) h2;obtain⟨h0,e1⟩:=kMul_ok (den_pos vC) (den_pos vu) h1
 exact⟨h0,by
  rw[e3,e2,e1];have:fr (2,1)=2:=frq_one 2;rw[this]⟩

structure QP where
 f:Rat
 a:Rat
 b:Rat
 c:Rat
def qv(p:QP)(t:Rat):Rat:=p.a+(p.b+p.c*(t-p.f))*(t-p.f)
def qs(p:QP)(t:Rat):Rat:=p.b+2*(p.c*(t-p.f))
theorem qv_diff(p:QP)(x y:Rat):qv p y-qv p x=(y-x)*(p.b+p.c*((x-p.f)+(y-p.f))):=by
 unfold qv;grind
theorem rat_total(a b:Rat):a≤b∨b≤a:=Rat.le_total
theorem slope_mid{b c l u v:Rat}(hb:0≤b)(hl:0≤b+2*(c*l))(u0:0≤u)(v0:u≤v)(vl:v≤l):0≤b+c*(u+v):=by
 rcases rat_total 0 c with h | h
 ·have:=Rat.mul_nonneg h (show 0≤u+v by grind)
  grind
 ·have:=Rat.mul_nonneg (show 0≤-c by grind) (show 0≤2*l-(u+v)by grind)
  grind
theorem qv_mono{p:QP}{x y z:Rat}(hb:0≤p.b)(hs:0≤qs p z)(hx:p.f≤x)(xy:x≤y)(yz:y≤z):qv p x≤qv p y:=by
 have h:=slope_mid (b:=p.b) (c:=p.c) (l:=z-p.f) (u:=x-p.f) (v:=y-p.f) hb hs (by grind) (by grind) (by grind);have:=Rat.mul_nonneg (show 0≤y-x by grind) h;have:=qv_diff p x y
 grind
theorem qs_between{p:QP}{y z m n:Rat}(h1:m≤p.b)(h2:p.b≤n)(h3:m≤qs p z)(h4:qs p z≤n)(hy:p.f≤y)(yz:y≤z):m≤qs p y∧qs p y≤n:=by
 unfold qs at *;have h:=slope_mid (b:=p.b-m) (c:=p.c) (l:=z-p.f) (u:=y-p.f) (v:=y-p.f) (by grind) (by grind) (by grind) (by grind) (by grind);have k:=slope_mid (b:=n-p.b) (c:=-p.c) (l:=z-p.f) (u:=y-p.f) (v:=y-p.f) (by grind) (by grind) (by grind) (by grind) (by grind)
 grind
def atL:List QP→Rat→Rat
 | [],_=>0
 | [p],t=>if p.f≤t then qv p t else p.a
 | p::q::r,t=>if q.f≤t then atL (q::r) t else if p.f≤t then qv p t else p.a
def slL:List QP→Rat→Rat
 | [],_=>0
 | [p],t=>if p.f≤t then qs p t else 0
 | p::q::r,t=>if q.f≤t then slL (q::r) t else if p.f≤t then qs p t else 0
def lastA:List QP→Rat
 | []=>0
 | [p]=>p.a
 | _::q::r=>lastA (q::r)
def headF:List QP→Rat
 | []=>0
 | p::_=>p.f
def headA:List QP→Rat
 | []=>0
 | p::_=>p.a
def lastF:List QP→Rat
 | []=>0
 | [p]=>p.f
 | _::q::r=>lastF (q::r)
inductive Up (m:Rat):List QP→Prop
 | rest (p:QP):p.b=0→p.c=0→0≤m→Up m [p]
 | go (p q:QP) (r:List QP):p.f<q.f→0≤p.b→p.b≤m→0≤qs p q.f→qs p q.f≤m→qv p q.f=q.a→qs p q.f=q.b→Up m (q::r)→Up m (p::q::r)
theorem qv_self(p:QP):qv p p.f=p.a:=by unfold qv;grind
theorem Up.range{m:Rat}{L:List QP}(h:Up m L)(t:Rat):headA L≤atL L t∧atL L t≤lastA L∧headA L≤lastA L:=by
 induction h with
 | rest p hb hc hm=>
  have:qv p t=p.a:=by unfold qv;rw[hb,hc];grind
  simp only[headA,lastA,atL]
  split<;>grind
 | go p q r hf h0 h1 h2 h3 h4 h5 h ih=>
  obtain⟨i1,i2,i3⟩:=ih;have hm:=qv_mono (p:=p) (x:=p.f) (y:=q.f) (z:=q.f) h0 h2 Rat.le_refl (Rat.le_of_lt hf) Rat.le_refl;rw[qv_self,h4]at hm;simp only[headA]at *;have e1:lastA (p::q::r)=lastA (q::r):=rfl;rw[e1]
  by_cases c:q.f≤t
  ·have:atL (p::q::r) t=atL (q::r) t:=by rw[atL,if_pos c]
   grind
  ·by_cases d:p.f≤t
   ·have e:atL (p::q::r) t=qv p t:=by rw[atL,if_neg c,if_pos d]
    have a1:=qv_mono (p:=p) (x:=p.f) (y:=t) (z:=q.f) h0 h2 Rat.le_refl d (by grind);have a2:=qv_mono (p:=p) (x:=t) (y:=q.f) (z:=q.f) h0 h2 d (by grind) Rat.le_refl;rw[qv_self]at a1
    grind
   ·have:atL (p::q::r) t=p.a:=by rw[atL,if_neg c,if_neg d]
    grind
theorem Up.mono{m:Rat}{L:List QP}(h:Up m L){x y:Rat}(xy:x≤y):atL L x≤atL L y:=by
 induction h with
 | rest p hb hc hm=>
  have:∀t,qv p t=p.a:=fun t=>by unfold qv;rw[hb,hc];grind
  simp only[atL]
  split<;>split<;>grind
 | go p q r hf h0 h1 h2 h3 h4 h5 h ih=>
  by_cases cx:q.f≤x
  ·rw[atL,if_pos cx,atL,if_pos (Rat.le_trans cx xy)];exact ih
  ·by_cases cy:q.f≤y
   ·have e:atL (p::q::r) y=atL (q::r) y:=by rw[atL,if_pos cy]
    have r1:=(h.range y).1;simp only[headA]at r1
    by_cases d:p.f≤x
    ·have e2:atL (p::q::r) x=qv p x:=by rw[atL,if_neg cx,if_pos d]
     have a2:=qv_mono (p:=p) (x:=x) (y:=q.f) (z:=q.f) h0 h2 d (by grind) Rat.le_refl
     grind
    ·have e2:atL (p::q::r) x=p.a:=by rw[atL,if_neg cx,if_neg d]
     have hm:=qv_mono (p:=p) (x:=p.f) (y:=q.f) (z:=q.f) h0 h2 Rat.le_refl (Rat.le_of_lt hf) Rat.le_refl;rw[qv_self,h4]at hm
     grind
   ·by_cases d:p.f≤x
    ·have e2:atL (p::q::r) x=qv p x:=by rw[atL,if_neg cx,if_pos d]
     have e3:atL (p::q::r) y=qv p y:=by rw[atL,if_neg cy,if_pos (Rat.le_trans d xy)]
     rw[e2,e3];exact qv_mono (p:=p) (z:=q.f) h0 h2 d xy (by grind)
    ·have e2:atL (p::q::r) x=p.a:=by rw[atL,if_neg cx,if_neg d]
     by_cases d':p.f≤y
     ·have e3:atL (p::q::r) y=qv p y:=by rw[atL,if_neg cy,if_pos d']
      have a1:=qv_mono (p:=p) (x:=p.f) (y:=y) (z:=q.f) h0 h2 Rat.le_refl d' (by grind);rw[qv_self]at a1
      grind
     ·have e3:atL (p::q::r) y=p.a:=by rw[atL,if_neg cy,if_neg d']
      grind
theorem Up.slope{m:Rat}{L:List QP}(h:Up m L)(t:Rat):0≤slL L t∧slL L t≤m:=by
 induction h with
 | rest p hb hc hm=>
  have:qs p t=0:=by unfold qs;rw[hb,hc];grind
  simp only[slL]
  split<;>grind
 | go p q r hf h0 h1 h2 h3 h4 h5 h ih=>
  by_cases c:q.f≤t
  ·rw[slL,if_pos c];exact ih
  ·by_cases d:p.f≤t
   ·rw[slL,if_neg c,if_pos d]
    exact qs_between h0 h1 h2 h3 d (by grind)
   ·rw[slL,if_neg c,if_neg d]
    grind
theorem Up.after{m:Rat}{L:List QP}(h:Up m L){t:Rat}(ht:lastF L≤t):atL L t=lastA L:=by
 induction h with
 | rest p hb hc hm=>
  have:qv p t=p.a:=by unfold qv;rw[hb,hc];grind
  simp only[lastA,atL]
  split<;>grind
 | go p q r hf h0 h1 h2 h3 h4 h5 h ih=>
  have e:lastF (p::q::r)=lastF (q::r):=rfl;have e1:lastA (p::q::r)=lastA (q::r):=rfl
  have up:∀{L:List QP},Up m L→headF L≤lastF L:=fun {L} h=>by
   induction h with
   | rest p _ _ _=>exact Rat.le_refl
   | go p q r hf _ _ _ _ _ _ _ ih=>
    have e:lastF (p::q::r)=lastF (q::r):=rfl;rw[e];simp only[headF]at *
    grind
  have:=up h;simp only[headF]at this;rw[e]at ht;rw[e1,atL,if_pos (Rat.le_trans this ht)];exact ih ht
def qp(p:Pc):QP:=⟨fr (p.f0,p.f1),fr (p.a0,p.a1),fr (p.b0,p.b1),fr (p.c0,p.c1)⟩
def qL(L:List Pc):List QP:=L.map qp
theorem qL_len(L:List Pc):(qL L).length=L.length:=by simp[qL]
theorem qL_get(L:List Pc)(i:Nat)(h:i<(qL L).length):(qL L)[i]=qp (pcg L i):=by
 have h':i<L.length:=by rwa [qL_len]at h
 have e:pcg L i=L[i]:=by unfold pcg;simp[h']
 rw[e]
 simp[qL]
theorem PcOK.vf{p:Pc}(h:PcOK p):vF (p.f0,p.f1)=true:=h.f
theorem PcOK.va{p:Pc}(h:PcOK p):vF (p.a0,p.a1)=true:=h.a
theorem PcOK.vb{p:Pc}(h:PcOK p):vF (p.b0,p.b1)=true:=h.b
theorem PcOK.vc{p:Pc}(h:PcOK p):vF (p.c0,p.c1)=true:=h.c
def Asc(L:List QP):Prop:=∀i (h:i+1<L.length),L[i].f<L[i+1].f
theorem Asc.tail{p:QP}{L:List QP}(h:Asc (p::L)):Asc L:=fun i hi=>h (i+1) (by simp only[List.length_cons];omega)
theorem Asc.head{p:QP}{L:List QP}(h:Asc (p::L)):∀k (hk:k<L.length),p.f<L[k].f:=by
 intro k
 induction k with
 | zero=>intro hk;exact h 0 (by simp only[List.length_cons];omega)
 | succ k ih=>
  intro hk;have a:=ih (by omega);have b:=h.tail k hk
  grind
theorem atL_at:∀(L:List QP) (k:Nat) (hk:k<L.length) (t:Rat),Asc L→L[k].f≤t→(∀j (hj:j<L.length),k<j→t<L[j].f)→atL L t=qv L[k] t∧slL L t=qs L[k] t
 | [p],0,_,t,_,h,_=>by
  simp only[List.getElem_cons_zero]at h⊢;rw[atL,if_pos h,slL,if_pos h];exact⟨rfl,rfl⟩
 | p::q::r,0,_,t,_,h,g=>by
  have g1:=g 1 (by simp) (by omega);simp only[List.getElem_cons_zero,List.getElem_cons_succ]at h g1⊢;have n:¬q.f≤t:=Rat.not_le.2 g1;rw[atL,if_neg n,if_pos h,slL,if_neg n,if_pos h];exact⟨rfl,rfl⟩
 | p::q::r,k+1,hk,t,a,h,g=>by
  have hk':k<(q::r).length:=by simp only[List.length_cons]at hk⊢;omega
  have h':(q::r)[k].f≤t:=h
  have c:q.f≤t:=by
   rcases Nat.eq_zero_or_pos k with z | z
   ·subst z;exact h'
   ·obtain⟨k,rfl⟩:∃m,k=m+1:=⟨k-1,by omega⟩
    have kr:k<r.length:=by simp only[List.length_cons]at hk';omega
    have:=a.tail.head k kr;have e:(q::r)[k+1].f=(r[k]'kr).f:=rfl
    grind
  rw[atL,if_pos c,slL,if_pos c];exact atL_at (q::r) k hk' t a.tail h' (fun j hj kj=>g (j+1) (by simp only[List.length_cons]at hj⊢;omega) (by omega))
theorem atL_before(L:List QP)(t:Rat)(h0:0<L.length)(a:Asc L)(h:t<L[0].f):atL L t=headA L∧slL L t=0:=by
 match L,h0,a,h with
 | [p],_,_,h=>
  simp only[List.getElem_cons_zero]at h;have n:=Rat.not_le.2 h;simp only[atL,slL,headA,if_neg n];exact⟨trivial,trivial⟩
 | p::q::r,_,a,h=>
  simp only[List.getElem_cons_zero]at h;have b:=a 0 (by simp);simp only[List.getElem_cons_zero,List.getElem_cons_succ]at b;have n:=Rat.not_le.2 h;have n2:=Rat.not_le.2 (show t<q.f by grind);simp only[atL,slL,headA,if_neg n,if_neg n2];exact⟨trivial,trivial⟩
theorem CurveOK.asc'{L:List Pc}(ok:CurveOK L):Asc (qL L):=fun i h=>by
 have h':i+1<L.length:=by rwa [qL_len]at h
 rw[qL_get,qL_get];exact(frq_lt (a:=((pcg L i).f0,(pcg L i).f1)) (b:=((pcg L (i+1)).f0,(pcg L (i+1)).f1)) (den_pos (ok.val i (by omega)).vf) (den_pos (ok.val (i+1) h').vf)).2 (ok.asc i h')
theorem pieceN_spec(L:List Pc)(t:Int×Int)(k:Nat):(∀j,j<k→pieceN L t k<(j:Int)→¬(pcg L j).f0*t.2≤t.1*(pcg L j).f1)∧(0≤pieceN L t k→(pcg L (pieceN L t k).toNat).f0*t.2≤t.1*(pcg L (pieceN L t k).toNat).f1):=by
 induction k with
 | zero=>exact⟨fun j h=>absurd h (by omega),fun h=>by unfold pieceN at h;omega⟩
 | succ k ih=>
  unfold pieceN
  split
  next h=>exact⟨fun j h1 h2=>absurd h1 (by omega),fun _=>by simpa using h⟩
  next h=>
   refine⟨fun j h1 h2=>?_,ih.2⟩;rcases Nat.lt_or_eq_of_le (Nat.le_of_lt_succ h1)with l | l
   ·exact ih.1 j l h2
   ·subst l;exact h
theorem resV_ok{v:(Int×Int)×Int}(h:(resV v).2.2=0):v.2=0∧((resV v).1,(resV v).2.1)=v.1:=by
 have z:v.2=0:=h;refine⟨z,?_⟩;unfold resV;rw[if_pos z,if_pos z]
theorem valAt_ok{L:List Pc}(ok:CurveOK L){t:Int×Int}(vt:vF t=true){i:Nat}(hi:i<L.length)(h:(valAt L t i).2.2=0):fr ((valAt L t i).1,(valAt L t i).2.1)=qv (qp (pcg L i)) (fr t):=by
 obtain⟨z,e⟩:=resV_ok h;have v:=ok.val i hi;unfold valAt;rw[e];obtain⟨z1,e1⟩:=kVal_ok v.va v.vb v.vc (kSub_valid vt v.vf) z;obtain⟨_,e2⟩:=kSub_ok (den_pos vt) (den_pos v.vf) z1;rw[e1,e2]
 rfl
theorem slopeAt_ok{L:List Pc}(ok:CurveOK L){t:Int×Int}(vt:vF t=true){i:Nat}(hi:i<L.length)(h:(slopeAt L t i).2.2=0):fr ((slopeAt L t i).1,(slopeAt L t i).2.1)=qs (qp (pcg L i)) (fr t):=by
 obtain⟨z,e⟩:=resV_ok h;have v:=ok.val i hi;unfold slopeAt;rw[e];obtain⟨z1,e1⟩:=kSlope_ok v.vb v.vc (kSub_valid vt v.vf) z;obtain⟨_,e2⟩:=kSub_ok (den_pos vt) (den_pos v.vf) z1;rw[e1,e2]
 rfl
theorem headA_qL{L:List Pc}(h:1≤L.length):headA (qL L)=fr ((pcg L 0).a0,(pcg L 0).a1):=by
 cases L with
 | nil=>simp at h
 | cons p r=>rfl
theorem piece_cases{L:List Pc}(ok:CurveOK L){t:Int×Int}(vt:vF t=true):
  (pieceN L t L.length<0∧atL (qL L) (fr t)=fr ((pcg L 0).a0,(pcg L 0).a1)∧slL (qL L) (fr t)=0)∨
  (¬pieceN L t L.length<0∧(pieceN L t L.length).toNat<L.length∧atL (qL L) (fr t)=qv (qp (pcg L (pieceN L t L.length).toNat)) (fr t)∧slL (qL L) (fr t)=qs (qp (pcg L (pieceN L t L.length).toNat)) (fr t)):=by
 obtain⟨s1,s2⟩:=pieceN_spec L t L.length;obtain⟨r1,r2⟩:=pieceN_range L t L.length;have hp:=ok.pos
 by_cases c:pieceN L t L.length<0
 ·left
  have h0:=s1 0 (by omega) (by simpa using c)
  have h1:fr t<((qL L)[0]'(by rw[qL_len];omega)).f:=by
   rw[qL_get];exact(frq_lt (a:=t) (b:=((pcg L 0).f0,(pcg L 0).f1)) (den_pos vt) (den_pos (ok.val 0 (by omega)).vf)).2 (by show t.1*(pcg L 0).f1<(pcg L 0).f0*t.2;omega)
  obtain⟨a,b⟩:=atL_before (qL L) (fr t) (by rw[qL_len];omega) ok.asc' h1;exact⟨c,by rw[a,headA_qL hp],b⟩
 ·right
  obtain⟨k,hk⟩:=nm ((pieceN L t L.length).toNat:Nat);have hkl:k<L.length:=by omega
  have s2':=s2 (by omega);rw[hk]at s2'⊢;have vk:=(ok.val k hkl).vf
  have a1:((qL L)[k]'(by rw[qL_len];exact hkl)).f≤fr t:=by
   rw[qL_get];exact(frq_le (a:=((pcg L k).f0,(pcg L k).f1)) (b:=t) (den_pos vk) (den_pos vt)).2 s2'
  have a2:∀j (hj:j<(qL L).length),k<j→fr t<(qL L)[j].f:=fun j hj kj=>by
   rw[qL_get];have hj':j<L.length:=by rwa [qL_len]at hj
   have:=s1 j hj' (by omega);exact(frq_lt (a:=t) (b:=((pcg L j).f0,(pcg L j).f1)) (den_pos vt) (den_pos (ok.val j hj').vf)).2 (by show t.1*(pcg L j).f1<(pcg L j).f0*t.2;omega)
  obtain⟨x,y⟩:=atL_at (qL L) k (by rw[qL_len];exact hkl) (fr t) ok.asc' a1 a2;rw[qL_get]at x y;exact⟨c,hkl,x,y⟩
theorem atP_ok{L:List Pc}(ok:CurveOK L){t:Int×Int}(vt:vF t=true)(h:(atP L t).2.2=0):fr ((atP L t).1,(atP L t).2.1)=atL (qL L) (fr t):=by
 unfold atP at h⊢;rw[if_pos vt]at h⊢;rcases piece_cases ok vt with ⟨c,e,_⟩ | ⟨c,hk,e,_⟩
 ·rw[if_pos c,e]
 ·rw[if_neg c]at h⊢
  rw[e];exact valAt_ok ok vt hk h
theorem slopeP_ok{L:List Pc}(ok:CurveOK L){t:Int×Int}(vt:vF t=true)(h:(slopeP L t).2.2=0):fr ((slopeP L t).1,(slopeP L t).2.1)=slL (qL L) (fr t):=by
 unfold slopeP at h⊢;rw[if_pos vt]at h⊢;rcases piece_cases ok vt with ⟨c,_,e⟩ | ⟨c,hk,_,e⟩
 ·rw[if_pos c,e,←frq_zero]
 ·rw[if_neg c]at h⊢
  rw[e];exact slopeAt_ok ok vt hk h
theorem kp_err{e p q:Int}(h:e=0∨e=5):(kp e (fitP p q)).2=0∨(kp e (fitP p q)).2=5:=by
 have f:=fit_valid (p:=p) (q:=q);unfold kp
 split
 ·exact h
 ·simp only
  split<;>omega
theorem kAdd_err{e:Int}{a b:Int×Int}(h:e=0∨e=5):(kAdd e a b).2=0∨(kAdd e a b).2=5:=kp_err h
theorem kSub_err{e:Int}{a b:Int×Int}(h:e=0∨e=5):(kSub e a b).2=0∨(kSub e a b).2=5:=kp_err h
theorem kMul_err{e:Int}{a b:Int×Int}(h:e=0∨e=5):(kMul e a b).2=0∨(kMul e a b).2=5:=kp_err h
theorem kVal_err{e:Int}{A B C u:Int×Int}(h:e=0∨e=5):(kVal e A B C u).2=0∨(kVal e A B C u).2=5:=kAdd_err (kMul_err (kAdd_err (kMul_err h)))
theorem kSlope_err{e:Int}{B C u:Int×Int}(h:e=0∨e=5):(kSlope e B C u).2=0∨(kSlope e B C u).2=5:=kAdd_err (kMul_err (kMul_err h))
theorem atP_err{L:List Pc}{t:Int×Int}(vt:vF t=true):(atP L t).2.2=0∨(atP L t).2.2=5:=by
 unfold atP;rw[if_pos vt]
 split
 ·exact .inl rfl
 ·exact kVal_err (kSub_err (.inl rfl))
theorem resV_valid{v:(Int×Int)×Int}(h:(resV v).2.2=0)(hv:vF v.1=true):vF ((resV v).1,(resV v).2.1)=true:=by
 rw[(resV_ok h).2];exact hv
theorem atP_valid{L:List Pc}(ok:CurveOK L){t:Int×Int}(vt:vF t=true)(h:(atP L t).2.2=0):vF ((atP L t).1,(atP L t).2.1)=true:=by
 unfold atP at h⊢;rw[if_pos vt]at h⊢;rcases piece_cases ok vt with ⟨c,_,_⟩ | ⟨c,hk,_,_⟩
 ·rw[if_pos c];exact(ok.val 0 (by have:=ok.pos;omega)).va
 ·rw[if_neg c]at h⊢
  have v:=ok.val _ hk;exact resV_valid h (kVal_valid v.va v.vb v.vc (kSub_valid vt v.vf))
theorem slopeP_valid{L:List Pc}(ok:CurveOK L){t:Int×Int}(vt:vF t=true)(h:(slopeP L t).2.2=0):vF ((slopeP L t).1,(slopeP L t).2.1)=true:=by
 unfold slopeP at h⊢;rw[if_pos vt]at h⊢;rcases piece_cases ok vt with ⟨c,_,_⟩ | ⟨c,hk,_,_⟩
 ·rw[if_pos c];exact vF_zero
 ·rw[if_neg c]at h⊢
  have v:=ok.val _ hk;exact resV_valid h (kSlope_valid v.vb v.vc (kSub_valid vt v.vf))
theorem rat_nz{a b c:Rat}(ha:a≠0)(hb:b≠0)(hc:c≠0):a*b*c≠0:=by
 intro h;rcases Rat.mul_eq_zero.1 h with h | h
 ·rcases Rat.mul_eq_zero.1 h with h | h
  ·exact ha h
  ·exact hb h
 ·exact hc h
theorem rat_div_pos{a b:Rat}(ha:0<a)(hb:0<b):0<a/b:=by
 rw[Rat.div_def];exact Rat.mul_pos ha (Rat.inv_pos.2 hb)
def moveQ(d R F t k:Rat):List QP:=
 [⟨0,0,0,R/2⟩,⟨t/R,t*t/(2*R),t,0⟩,⟨(2*F*(t*t)+k)/(2*R*F*t),(2*F*d-t*t)/(2*F),t,-F/2⟩,⟨(2*F*(t*t)+k+2*R*(t*t))/(2*R*F*t),d,0,0⟩]
def moveS(d R F t k:Rat):List QP:=
 [⟨0,0,0,R/2⟩,⟨(2*F*(t*t)+k)/(2*R*F*t),(2*F*d-t*t)/(2*F),t,-F/2⟩,⟨(2*F*(t*t)+k+2*R*(t*t))/(2*R*F*t),d,0,0⟩]
theorem mv_a{R F t k:Rat}(hR:0<R)(hF:0<F)(ht:0<t):(2*F*(t*t)+k)/(2*R*F*t)=t/R+k/(2*R*F*t):=by
 have h1:R≠0:=by grind
 have h2:F≠0:=by grind
 have h3:t≠0:=by grind
 have h4:2*R≠0:=by grind
 have h6:2*R*F*t≠0:=rat_nz h4 h2 h3
 grind
theorem mv_b{R F t k:Rat}(hR:0<R)(hF:0<F)(ht:0<t):(2*F*(t*t)+k+2*R*(t*t))/(2*R*F*t)=(2*F*(t*t)+k)/(2*R*F*t)+t/F:=by
 have h1:R≠0:=by grind
 have h2:F≠0:=by grind
 have h3:t≠0:=by grind
 have h4:2*R≠0:=by grind
 have h6:2*R*F*t≠0:=rat_nz h4 h2 h3
 grind
theorem mv_c{R F t d k:Rat}(hR:0<R)(hF:0<F)(ht:0<t)(hk:k=2*R*F*d-t*t*(R+F)):t*t/(2*R)+t*(k/(2*R*F*t))=(2*F*d-t*t)/(2*F):=by
 have h1:R≠0:=by grind
 have h2:F≠0:=by grind
 have h3:t≠0:=by grind
 have h4:2*R≠0:=by grind
 have h5:2*F≠0:=by grind
 have h6:2*R*F*t≠0:=rat_nz h4 h2 h3
 grind
theorem mv_d{F t d:Rat}(hF:0<F):(2*F*d-t*t)/(2*F)+(t+(-F/2)*(t/F))*(t/F)=d∧t+2*(-F/2*(t/F))=0:=by
 have h1:F≠0:=by grind
 grind
theorem mv_e{R t:Rat}(hR:0<R):0+(0+R/2*(t/R-0))*(t/R-0)=t*t/(2*R)∧0+2*(R/2*(t/R-0))=t:=by
 have h1:R≠0:=by grind
 grind
theorem up_last{R F t d k:Rat}(hR:0<R)(hF:0<F)(ht:0<t):Up t [⟨(2*F*(t*t)+k)/(2*R*F*t),(2*F*d-t*t)/(2*F),t,-F/2⟩,⟨(2*F*(t*t)+k+2*R*(t*t))/(2*R*F*t),d,0,0⟩]:=by
 have h1:=mv_b (k:=k) hR hF ht;have h2:=rat_div_pos ht hF;obtain⟨d1,d2⟩:=mv_d (t:=t) (d:=d) hF;have e:(2*F*(t*t)+k+2*R*(t*t))/(2*R*F*t)-(2*F*(t*t)+k)/(2*R*F*t)=t/F:=by grind
 refine Up.go _ _ _ ?_ (Rat.le_of_lt ht) Rat.le_refl ?_ ?_ ?_ ?_ (Up.rest _ rfl rfl (Rat.le_of_lt ht))
 ·show(2*F*(t*t)+k)/(2*R*F*t)<(2*F*(t*t)+k+2*R*(t*t))/(2*R*F*t)
  grind
 ·show 0≤t+2*(-F/2*((2*F*(t*t)+k+2*R*(t*t))/(2*R*F*t)-(2*F*(t*t)+k)/(2*R*F*t)))
  rw[e,d2];exact Rat.le_refl
 ·show t+2*(-F/2*((2*F*(t*t)+k+2*R*(t*t))/(2*R*F*t)-(2*F*(t*t)+k)/(2*R*F*t)))≤t
  rw[e,d2];exact Rat.le_of_lt ht
 ·show(2*F*d-t*t)/(2*F)+(t+-F/2*((2*F*(t*t)+k+2*R*(t*t))/(2*R*F*t)-(2*F*(t*t)+k)/(2*R*F*t)))*((2*F*(t*t)+k+2*R*(t*t))/(2*R*F*t)-(2*F*(t*t)+k)/(2*R*F*t))=d
  rw[e,d1]
 ·show t+2*(-F/2*((2*F*(t*t)+k+2*R*(t*t))/(2*R*F*t)-(2*F*(t*t)+k)/(2*R*F*t)))=0
  rw[e,d2]
theorem moveQ_up{R F t d k:Rat}(hR:0<R)(hF:0<F)(ht:0<t)(hk:k=2*R*F*d-t*t*(R+F))(k0:0<k):Up t (moveQ d R F t k):=by
 have h2:=rat_div_pos ht hR;have tle:=Rat.le_of_lt ht;obtain⟨e1,e2⟩:=mv_e (R:=R) (t:=t) hR;have ha:=mv_a (k:=k) hR hF ht;have hc:=mv_c hR hF ht hk;have hw:0<2*R*F*t:=Rat.mul_pos (Rat.mul_pos (by grind) hF) ht;have h3:=rat_div_pos k0 hw;have e:(2*F*(t*t)+k)/(2*R*F*t)-t/R=k/(2*R*F*t):=by grind
 refine Up.go _ _ _ h2 Rat.le_refl tle ?_ ?_ e1 e2 (Up.go _ _ _ ?_ tle Rat.le_refl ?_ ?_ ?_ ?_ (up_last hR hF ht))
 ·show 0≤0+2*(R/2*(t/R-0))
  rw[e2];exact tle
 ·show 0+2*(R/2*(t/R-0))≤t
  rw[e2];exact Rat.le_refl
 ·show t/R<(2*F*(t*t)+k)/(2*R*F*t)
  grind
 ·show 0≤t+2*(0*((2*F*(t*t)+k)/(2*R*F*t)-t/R))
  grind
 ·show t+2*(0*((2*F*(t*t)+k)/(2*R*F*t)-t/R))≤t
  grind
 ·show t*t/(2*R)+(t+0*((2*F*(t*t)+k)/(2*R*F*t)-t/R))*((2*F*(t*t)+k)/(2*R*F*t)-t/R)=(2*F*d-t*t)/(2*F)
  rw[e,←hc];grind
 ·show t+2*(0*((2*F*(t*t)+k)/(2*R*F*t)-t/R))=t
  grind
theorem moveS_up{R F t d k:Rat}(hR:0<R)(hF:0<F)(ht:0<t)(hk:k=2*R*F*d-t*t*(R+F))(k0:k=0):Up t (moveS d R F t k):=by
 have h2:=rat_div_pos ht hR;have tle:=Rat.le_of_lt ht;obtain⟨e1,e2⟩:=mv_e (R:=R) (t:=t) hR;have ha:=mv_a (k:=k) hR hF ht;have hc:=mv_c hR hF ht hk;have z:k/(2*R*F*t)=0:=by rw[k0,Rat.div_def,Rat.zero_mul]
 rw[z]at ha hc;have e:(2*F*(t*t)+k)/(2*R*F*t)=t/R:=by grind
 refine Up.go _ _ _ ?_ Rat.le_refl tle ?_ ?_ ?_ ?_ (up_last hR hF ht)
 ·show 0<(2*F*(t*t)+k)/(2*R*F*t)
  rw[e];exact h2
 ·show 0≤0+2*(R/2*((2*F*(t*t)+k)/(2*R*F*t)-0))
  rw[e,e2];exact tle
 ·show 0+2*(R/2*((2*F*(t*t)+k)/(2*R*F*t)-0))≤t
  rw[e,e2];exact Rat.le_refl
 ·show 0+(0+R/2*((2*F*(t*t)+k)/(2*R*F*t)-0))*((2*F*(t*t)+k)/(2*R*F*t)-0)=(2*F*d-t*t)/(2*F)
  rw[e,e1,←hc];grind
 ·show 0+2*(R/2*((2*F*(t*t)+k)/(2*R*F*t)-0))=t
  rw[e,e2]
theorem qL_curve{d R F t:Int}(hd:¬d=0)(hR:1≤R)(hF:1≤F)(ht:1≤t):qL (curveL d R F t)=if kP d R F t=0 then moveS d R F t (kP d R F t:Int)else moveQ d R F t (kP d R F t:Int):=by
 have w0:0<2*R*F*t:=Int.mul_pos (Int.mul_pos (by omega) (by omega)) (by omega);unfold curveL;rw[if_neg hd]
 split
 ·simp[qL,qp,moveS,frq_one,frq_low _ 2 (by decide),frq_low _ (2*R*F*t) w0,frq_low _ (2*F) (by omega)]
 ·simp[qL,qp,moveQ,frq_one,frq_low _ 2 (by decide),frq_low _ (2*R*F*t) w0,frq_low _ (2*F) (by omega),frq_low _ (2*R) (by omega),frq_low _ R (by omega)]
theorem kp_fit{p q:Int}{x:Int×Int}(hq:0<q)(c:Int.gcd p q=1)(vx:vF x=true)(h:fr (p,q)=fr x):kp 0 (fitP p q)=(x,0):=by
 obtain⟨x1,x2,x3,x4,x5⟩:=(validF_iff _ _).1 vx;have e:=(frq_eq (a:=(p,q)) (b:=x) hq (by omega)).1 h;obtain⟨e1,e2⟩:=low_unique hq (by omega) c x5 e;subst e1 e2;have n:¬(1152921504606846976<x.1.natAbs∨1152921504606846976<x.2):=by omega
 unfold fitP;rw[if_neg n]
 rfl
theorem kAdd_eq{a b x:Int×Int}(ha:0<a.2)(hb:0<b.2)(vx:vF x=true)(h:fr a+fr b=fr x):kAdd 0 a b=(x,0):=
 kp_fit (lowD_pos (Int.mul_pos ha hb)) (low_cop (Int.mul_pos ha hb)) vx ((frq_add ha hb).trans h)
theorem kSub_eq{a b x:Int×Int}(ha:0<a.2)(hb:0<b.2)(vx:vF x=true)(h:fr a-fr b=fr x):kSub 0 a b=(x,0):=
 kAdd_eq (a:=a) (b:=(-b.1,b.2)) ha hb vx (by rw[frq_neg,←Rat.sub_eq_add_neg];exact h)
theorem kMul_eq{a b x:Int×Int}(ha:0<a.2)(hb:0<b.2)(vx:vF x=true)(h:fr a*fr b=fr x):kMul 0 a b=(x,0):=
 kp_fit (lowD_pos (Int.mul_pos ha hb)) (low_cop (Int.mul_pos ha hb)) vx ((frq_times ha hb).trans h)
theorem kVal_zero{A B C:Int×Int}(vA:vF A=true)(vB:vF B=true)(vC:vF C=true):kVal 0 A B C (0,1)=(A,0):=by
 have z:(0:Int)<((0,1):Int×Int).2:=by decide
 have e1:kMul 0 C (0,1)=((0,1),0):=kMul_eq (den_pos vC) z vF_zero (by rw[frq_zero,Rat.mul_zero]);have e2:kAdd 0 B (0,1)=(B,0):=kAdd_eq (den_pos vB) z vB (by rw[frq_zero,Rat.add_zero]);have e3:kMul 0 B (0,1)=((0,1),0):=kMul_eq (den_pos vB) z vF_zero (by rw[frq_zero,Rat.mul_zero]);have e4:kAdd 0 A (0,1)=(A,0):=kAdd_eq (den_pos vA) z vA (by rw[frq_zero,Rat.add_zero]);unfold kVal;simp only[e1,e2,e3,e4]
theorem piece_is{L:List Pc}{t:Int×Int}{k:Nat}(ok:CurveOK L)(vt:vF t=true)(hk:k<L.length)(h1:fr ((pcg L k).f0,(pcg L k).f1)≤fr t)(h2:∀j,j<L.length→k<j→fr t<fr ((pcg L j).f0,(pcg L j).f1)):pieceN L t L.length=(k:Int):=by
 obtain⟨s1,s2⟩:=pieceN_spec L t L.length;obtain⟨r1,r2⟩:=pieceN_range L t L.length;have g1:=(frq_le (a:=((pcg L k).f0,(pcg L k).f1)) (b:=t) (den_pos (ok.val k hk).vf) (den_pos vt)).1 h1;have a1:¬pieceN L t L.length<(k:Int):=fun h=>s1 k hk h g1;rcases Int.lt_or_le (k:Int) (pieceN L t L.length)with l | l
 ·obtain⟨j,hj⟩:=nm ((pieceN L t L.length).toNat:Nat)
  have hjl:j<L.length:=by omega
  have s2':=s2 (by omega);rw[hj]at s2';have:=(frq_lt (a:=t) (b:=((pcg L j).f0,(pcg L j).f1)) (den_pos vt) (den_pos (ok.val j hjl).vf)).1 (h2 j hjl (by omega));have e1:t.1*(pcg L j).f1<(pcg L j).f0*t.2:=this;omega
 ·omega
theorem atP_at{L:List Pc}{t:Int×Int}{k:Nat}(vt:vF t=true)(h:pieceN L t L.length=(k:Int)):atP L t=valAt L t k:=by
 unfold atP;rw[if_pos vt,h,if_neg (by omega)]
 rfl
theorem qL_f(L:List Pc)(i:Nat)(h:i<(qL L).length):((qL L)[i]).f=fr ((pcg L i).f0,(pcg L i).f1):=by rw[qL_get];rfl
theorem at_first{L:List Pc}(ok:CurveOK L):atP L ((pcg L 0).f0,(pcg L 0).f1)=((pcg L 0).a0,(pcg L 0).a1,0):=by
 have hp:=ok.pos;have v:=ok.val 0 (by omega)
 have e:pieceN L ((pcg L 0).f0,(pcg L 0).f1) L.length=((0:Nat):Int):=by
  refine piece_is ok v.vf (by omega) Rat.le_refl fun j hj kj=>?_;have hj':j<(qL L).length:=by rw[qL_len];exact hj
  obtain⟨i,rfl⟩:∃i,j=i+1:=⟨j-1,by omega⟩;have a:=ok.asc'
  have g:∀i (h:i+1<(qL L).length),((qL L)[0]'(by omega)).f<((qL L)[i+1]).f:=fun i=>by
   induction i with
   | zero=>exact fun h=>a 0 h
   | succ i ih=>exact fun h=>by have x:=ih (by omega);have y:=a (i+1) h;grind
  have:=g i hj';rw[qL_f,qL_f]at this;exact this
 rw[atP_at v.vf e];unfold valAt;have z:kSub 0 ((pcg L 0).f0,(pcg L 0).f1) ((pcg L 0).f0,(pcg L 0).f1)=((0,1),0):=kSub_eq (den_pos v.vf) (den_pos v.vf) vF_zero (by rw[frq_zero];grind);simp only[z,kVal_zero v.va v.vb v.vc]
 rfl
theorem Up.asc{m:Rat}{L:List QP}(h:Up m L):Asc L:=by
 induction h with
 | rest p _ _ _=>exact fun i h=>absurd h (by simp)
 | go p q r hf _ _ _ _ _ _ h ih=>
  intro i hi
  cases i with
  | zero=>exact hf
  | succ i=>exact ih i (by simp only[List.length_cons]at hi⊢;omega)
theorem ok_of_up{L:List Pc}{m:Rat}(h1:1≤L.length)(h2:L.length≤200)(hv:∀i,i<L.length→PcOK (pcg L i))(up:Up m (qL L)):CurveOK L:=
 ⟨h1,h2,hv,fun i hi=>by
  have hi':i+1<(qL L).length:=by rw[qL_len];exact hi
  have a:=up.asc i hi';rw[qL_f,qL_f]at a;exact(frq_lt (a:=((pcg L i).f0,(pcg L i).f1)) (b:=((pcg L (i+1)).f0,(pcg L (i+1)).f1)) (den_pos (hv i (by omega)).vf) (den_pos (hv (i+1) hi).vf)).1 a⟩
structure MoveC(L:List Pc)(d t:Int):Prop where
 ok:CurveOK L
 up:Up (t:Rat) (qL L)
 f0:((pcg L 0).f0,(pcg L 0).f1)=(0,1)
 a0:((pcg L 0).a0,(pcg L 0).a1)=(0,1)
 b0:((pcg L 0).b0,(pcg L 0).b1)=(0,1)
 an:((pcg L (L.length-1)).a0,(pcg L (L.length-1)).a1)=(d,1)
 bn:((pcg L (L.length-1)).b0,(pcg L (L.length-1)).b1)=(0,1)
 cn:((pcg L (L.length-1)).c0,(pcg L (L.length-1)).c1)=(0,1)
 len:L.length≤4
 t0:0≤t
theorem valid_one{n:Int}(h1:-1152921504606846976≤n)(h2:n≤1152921504606846976):validF n 1=true:=(validF_iff _ _).2 ⟨by decide,by decide,h1,h2,by simp⟩
theorem move_c{d:Int}{m:Mv}{t:Int}(hg:givenP d m=0)(ht:IsTop d m.spd m.rise m.fall t):MoveC (curveL d m.rise m.fall t) d t:=by
 obtain⟨hv,hd⟩:=given_ok hg;obtain⟨V0,V1,R0,R1,F0,F1⟩:=valid_bds hv;obtain⟨d1,d2⟩:=inB_iff.1 hd;have tz:=ht.1;have o:=valid_one (n:=0) (by decide) (by decide)
 by_cases hz:d=0
 ·have e:curveL d m.rise m.fall t=[⟨0,1,0,1,0,1,0,1⟩]:=by unfold curveL;rw[if_pos hz]
  rw[e];have up:Up (t:Rat) (qL [⟨0,1,0,1,0,1,0,1⟩]):=Up.rest _ frq_zero frq_zero (Rat.intCast_nonneg.2 tz)
  have hvv:∀i,i<[(⟨0,1,0,1,0,1,0,1⟩:Pc)].length→PcOK (pcg [⟨0,1,0,1,0,1,0,1⟩] i):=fun i hi=>by
   obtain rfl:i=0:=by simpa using hi
   exact⟨o,o,o,o⟩
  exact⟨ok_of_up (by simp) (by simp) hvv up,up,rfl,rfl,rfl,by rw[hz];rfl,rfl,rfl,by simp,tz⟩
 ·have t0:=top_pos (by omega) R0 F0 V0 ht
  have t1:t≤8192:=by have:=ht.2.1;omega
  obtain⟨T0,T1,k0,k1,rf0,rf1,w0,w1,a0,a1,b0,b1,c0,c1,e0,e1⟩:=curve_b (by omega) d2 R0 R1 F0 F1 V0 V1 ht;have hQ:=qL_curve (d:=d) (R:=m.rise) (F:=m.fall) (t:=t) hz R0 F0 t0;have cR:=cast_pos (d:=m.rise) (by omega);have cF:=cast_pos (d:=m.fall) (by omega);have ct:=cast_pos (d:=t) (by omega)
  have hk:((kP d m.rise m.fall t:Int):Rat)=2*(m.rise:Rat)*(m.fall:Rat)*(d:Rat)-(t:Rat)*(t:Rat)*((m.rise:Rat)+(m.fall:Rat)):=by
   unfold kP;simp
  have vd:=valid_one (n:=d) (by omega) (by omega);have vt:=valid_one (n:=t) (by omega) (by omega);have p0:PcOK ⟨0,1,0,1,0,1,lowN m.rise 2,lowD m.rise 2⟩:=⟨o,o,o,valid_low (by decide) (by omega) (by omega) (by decide)⟩;have p1:PcOK ⟨lowN t m.rise,lowD t m.rise,lowN (t*t) (2*m.rise),lowD (t*t) (2*m.rise),t,1,0,1⟩:=⟨valid_low (by omega) (by omega) (by omega) (by omega),valid_low (by omega) (by omega) (by omega) (by omega),vt,o⟩;have p2:PcOK ⟨lowN (2*m.fall*(t*t)+kP d m.rise m.fall t) (2*m.rise*m.fall*t),lowD (2*m.fall*(t*t)+kP d m.rise m.fall t) (2*m.rise*m.fall*t),lowN (2*m.fall*d-t*t) (2*m.fall),lowD (2*m.fall*d-t*t) (2*m.fall),t,1,lowN (-m.fall) 2,lowD (-m.fall) 2⟩:=⟨valid_low (by omega) (by omega) (by omega) (by omega),valid_low (by omega) (by omega) (by omega) (by omega),vt,valid_low (by decide) (by omega) (by omega) (by decide)⟩;have p3:PcOK ⟨lowN (2*m.fall*(t*t)+kP d m.rise m.fall t+2*m.rise*(t*t)) (2*m.rise*m.fall*t),lowD (2*m.fall*(t*t)+kP d m.rise m.fall t+2*m.rise*(t*t)) (2*m.rise*m.fall*t),d,1,0,1,0,1⟩:=⟨valid_low (by omega) (by omega) (by omega) (by omega),vd,o,o⟩
  by_cases kz:kP d m.rise m.fall t=0
  ·rw[if_pos kz]at hQ
   have up:Up (t:Rat) (qL (curveL d m.rise m.fall t)):=by rw[hQ];exact moveS_up cR cF ct hk (by rw[kz];rfl)
   unfold curveL at up⊢;rw[if_neg hz,if_pos kz]at up⊢;refine⟨ok_of_up (by simp) (by simp) (fun i hi=>?_) up,up,rfl,rfl,rfl,rfl,rfl,rfl,by simp,tz⟩;have hi':i<3:=by simpa using hi
   obtain rfl | rfl | rfl:i=0∨i=1∨i=2:=by omega
   ·exact p0
   ·exact p2
   ·exact p3
  ·rw[if_neg kz]at hQ
   have up:Up (t:Rat) (qL (curveL d m.rise m.fall t)):=by rw[hQ];exact moveQ_up cR cF ct hk (Rat.intCast_pos.2 (by omega))
   unfold curveL at up⊢;rw[if_neg hz,if_neg kz]at up⊢;refine⟨ok_of_up (by simp) (by simp) (fun i hi=>?_) up,up,rfl,rfl,rfl,rfl,rfl,rfl,by simp,tz⟩;have hi':i<4:=by simpa using hi
   obtain rfl | rfl | rfl | rfl:i=0∨i=1∨i=2∨i=3:=by omega
   ·exact p0
   ·exact p1
   ·exact p2
   ·exact p3
theorem MoveC.last{L:List Pc}{d t:Int}(h:MoveC L d t):lastA (qL L)=(d:Rat)∧lastF (qL L)=fr ((pcg L (L.length-1)).f0,(pcg L (L.length-1)).f1):=by
 have g:∀(Q:List QP) (h:0<Q.length),lastA Q=(Q[Q.length-1]'(by omega)).a∧lastF Q=(Q[Q.length-1]'(by omega)).f:=by
  intro Q
  induction Q with
  | nil=>intro h;simp at h
  | cons p r ih=>
   intro _
   cases r with
   | nil=>exact⟨rfl,rfl⟩
   | cons q r=>
    obtain⟨a,b⟩:=ih (by simp);have e1:lastA (p::q::r)=lastA (q::r):=rfl;have e2:lastF (p::q::r)=lastF (q::r):=rfl;rw[e1,e2,a,b];exact⟨rfl,rfl⟩
 have hp:=h.ok.pos;obtain⟨a,b⟩:=g (qL L) (by rw[qL_len];omega);rw[a,b];have hl:=qL_len L
 constructor
 ·rw[qL_get]
  have e:(qL L).length-1=L.length-1:=by omega
  rw[e,←frq_one d,←h.an]
  rfl
 ·rw[qL_f]
  have e:(qL L).length-1=L.length-1:=by omega
  rw[e]
theorem MoveC.first{L:List Pc}{d t:Int}(h:MoveC L d t):headA (qL L)=0:=by
 rw[headA_qL h.ok.pos,h.a0,frq_zero]
theorem MoveC.values{L:List Pc}{d t:Int}(h:MoveC L d t){x y:Int×Int}(vx:vF x=true)(vy:vF y=true)(xy:fr x≤fr y)(hx:(atP L x).2.2=0)(hy:(atP L y).2.2=0):
  0≤(atP L x).1∧(atP L x).1*(atP L y).2.1≤(atP L y).1*(atP L x).2.1∧(atP L y).1*1≤d*(atP L y).2.1:=by
 have ex:=atP_ok h.ok vx hx;have ey:=atP_ok h.ok vy hy;have wx:=atP_valid h.ok vx hx;have wy:=atP_valid h.ok vy hy;obtain⟨r1,r2,_⟩:=h.up.range (fr x);obtain⟨s1,s2,_⟩:=h.up.range (fr y);have mo:=h.up.mono xy;rw[←ex]at r1 mo;rw[←ey]at mo s2;rw[h.first]at r1;rw[h.last.1]at s2;refine⟨?_,?_,?_⟩
 ·rw[←frq_zero]at r1
  have:=(frq_le (a:=(0,1)) (by decide) (den_pos wx)).1 r1;have e:0*(atP L x).2.1≤(atP L x).1*1:=this;omega
 ·exact(frq_le (den_pos wx) (den_pos wy)).1 mo
 ·rw[←frq_one]at s2
  exact(frq_le (b:=(d,1)) (den_pos wy) (by show(0:Int)<1;decide)).1 s2
theorem MoveC.slope{L:List Pc}{d t:Int}(h:MoveC L d t){x:Int×Int}(vx:vF x=true)(hx:(slopeP L x).2.2=0):0≤(slopeP L x).1∧(slopeP L x).1*1≤t*(slopeP L x).2.1:=by
 have ex:=slopeP_ok h.ok vx hx;have wx:=slopeP_valid h.ok vx hx;obtain⟨r1,r2⟩:=h.up.slope (fr x);rw[←ex]at r1 r2
 constructor
 ·rw[←frq_zero]at r1
  have:=(frq_le (a:=(0,1)) (by decide) (den_pos wx)).1 r1;have e:0*(slopeP L x).2.1≤(slopeP L x).1*1:=this;omega
 ·rw[←frq_one]at r2
  exact(frq_le (b:=(t,1)) (den_pos wx) (by show(0:Int)<1;decide)).1 r2
end
end Go.Proofs.YtebofaenlhhkaaaGreat
