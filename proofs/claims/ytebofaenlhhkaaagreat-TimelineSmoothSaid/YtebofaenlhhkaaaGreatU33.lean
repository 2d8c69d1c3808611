/-
  ARGUMENTS THAT CAME IN: slices of sets and of beams, a house.
-/
import Derived.Test.YtebofaenlhhkaaaGreatU32
namespace Go.Proofs.YtebofaenlhhkaaaGreat
set_option maxRecDepth 100000
set_option maxHeartbeats 80000000
section
open Go.ChangeShapes Go.WideShapes Go.ChangeAt Go.WideMaps Go.WideElems Go.RowKit Go.Deep Go.Joins
instance:Inhabited RoofR:=⟨⟨⟨#[]⟩,0,0,0⟩⟩
instance:Inhabited SetR:=⟨⟨⟨#[]⟩,0,0,0,0,none,[],0,0,0,0,0,0,none,[],0,none,[],0⟩⟩
theorem roof_of_flat{n₀:Nat}{w:World}{a:Option Addr}{L:List RoofR}(h:0<L.length→∃b off,a=some ⟨b,off,none⟩∧b<n₀∧∀j u,(rflat L)[j]? =some u→w.cell? ⟨b,off+j,none⟩=some u):Roofs n₀ w a L:=fun hl=>by
 obtain⟨b,off,e,hb,hc⟩:=h hl;refine⟨b,off,e,hb,fun i hi=>?_⟩;obtain⟨f0,f1,f2,f3⟩:=rflat_at L i hi;have c0:=hc _ _ f0;have c1:=hc _ _ f1;have c2:=hc _ _ f2;have c3:=hc _ _ f3
 try simp only[←Nat.add_assoc]at c0 c1 c2 c3
 exact⟨c0,c1,c2,c3⟩
theorem set_of_flat{n₀:Nat}{w:World}{a:Option Addr}{L:List SetR}(h:0<L.length→∃b off,a=some ⟨b,off,none⟩∧b<n₀∧∀j u,(hflat L)[j]? =some u→w.cell? ⟨b,off+j,none⟩=some u):SetRows n₀ w a L:=fun hl=>by
 obtain⟨b,off,e,hb,hc⟩:=h hl;refine⟨b,off,e,hb,fun i hi=>?_⟩;obtain⟨f0,f1,f2,f3,f4,f5,f6,f7,f8,f9,f10,f11,f12⟩:=hflat_at L i hi;have c0:=hc _ _ f0;have c1:=hc _ _ f1;have c2:=hc _ _ f2;have c3:=hc _ _ f3;have c4:=hc _ _ f4;have c5:=hc _ _ f5;have c6:=hc _ _ f6;have c7:=hc _ _ f7;have c8:=hc _ _ f8;have c9:=hc _ _ f9;have c10:=hc _ _ f10;have c11:=hc _ _ f11;have c12:=hc _ _ f12
 try simp only[←Nat.add_assoc]at c0 c1 c2 c3 c4 c5 c6 c7 c8 c9 c10 c11 c12
 exact⟨c0,c1,c2,c3,c4,c5,c6,c7,c8,c9,c10,c11,c12⟩
section
variable {H:Type} {enc:TypeId×Value→H} {w:World} {base:Nat} {spare:Nat→Bool} {held:Bool}
theorem open_roofs{fuel:Nat}{v:Value}{x:DataW H×List MemPlace}(h:DataW.trod enc Tryz.prog w base spare held fuel 23 [v]=some x):
  ∃(a:Option Addr) (cap:Nat) (L:List RoofR),v=.slice a L.length cap∧L.length≤cap∧cap≤maxLen∧(a=none→cap=0)∧Roofs w.heap.size w a L:=by
 obtain⟨a,cap,L,h1,h2,h3,h4,_,h6⟩:=open_rows (P:=Tryz.prog) (fun r:RoofR=>[.string r.name,.int .i64 r.lo,.int .i64 r.hi,.int .i64 r.most]) 4 (fun _=>True) (by decide) (fun _=>rfl) Tryz.underlying23 (by kernel_rfl) (fun n cs' y hl ht=>by
  obtain⟨m,hf⟩:=elem_fields Tryz.underlying148 (by kernel_rfl) (by rw[hl];rfl) ht;obtain⟨v0,z0,c0,t0⟩:=hf 0 _ rfl;obtain⟨v1,z1,c1,t1⟩:=hf 1 _ rfl;obtain⟨v2,z2,c2,t2⟩:=hf 2 _ rfl;obtain⟨v3,z3,c3,t3⟩:=hf 3 _ rfl;obtain⟨n0,e0,_,_⟩:=DataW.trod_string Tryz.underlying9 t0;obtain⟨n1,e1,_,w1⟩:=DataW.trod_int Tryz.underlying3 t1;obtain⟨n2,e2,_,w2⟩:=DataW.trod_int Tryz.underlying3 t2;obtain⟨n3,e3,_,w3⟩:=DataW.trod_int Tryz.underlying3 t3;simp only[List.cons.injEq,and_true]at e0 e1 e2 e3;subst e0 e1 e2 e3
  match cs',hl with
  | [x0,x1,x2,x3],_=>
   simp only[List.getElem?_cons_zero,List.getElem?_cons_succ,Option.some.injEq]at c0 c1 c2 c3;subst c0 c1 c2 c3;exact⟨⟨n0,n1,n2,n3⟩,rfl,trivial⟩) h
 exact⟨a,cap,L,h1,h2,h3,h4,roof_of_flat h6⟩
theorem open_sets{fuel:Nat}{v:Value}{x:DataW H×List MemPlace}(h:DataW.trod enc Tryz.prog w base spare held fuel 22 [v]=some x):
  ∃(a:Option Addr) (cap:Nat) (L:List SetR),v=.slice a L.length cap∧L.length≤cap∧cap≤maxLen∧(a=none→cap=0)∧(∀r∈L,SetIn0 w r)∧SetRows w.heap.size w a L:=by
 obtain⟨a,cap,L,h1,h2,h3,h4,h5,h6⟩:=open_rows (P:=Tryz.prog) (fun r:SetR=>[.string r.name,.int .i64 r.depth,.int .i64 r.low,.int .i64 r.high,.int .i64 r.length,.slice r.la r.lines.length r.lc,.int .i64 r.pipe,.int .i64 r.arbor,.int .i64 r.purchase,.int .i64 r.most,.int .i64 r.brake,.slice r.ia r.items.length r.ic,.slice r.ba r.bricks.length r.bc]) 13 (fun r=>SetIn0 w r) (by decide) (fun _=>rfl) Tryz.underlying22 (by kernel_rfl) (fun n cs' y hl ht=>by
  obtain⟨m,hf⟩:=elem_fields Tryz.underlying59 (by kernel_rfl) (by rw[hl];rfl) ht;obtain⟨v0,z0,c0,t0⟩:=hf 0 _ rfl;obtain⟨v1,z1,c1,t1⟩:=hf 1 _ rfl;obtain⟨v2,z2,c2,t2⟩:=hf 2 _ rfl;obtain⟨v3,z3,c3,t3⟩:=hf 3 _ rfl;obtain⟨v4,z4,c4,t4⟩:=hf 4 _ rfl;obtain⟨v5,z5,c5,t5⟩:=hf 5 _ rfl;obtain⟨v6,z6,c6,t6⟩:=hf 6 _ rfl;obtain⟨v7,z7,c7,t7⟩:=hf 7 _ rfl;obtain⟨v8,z8,c8,t8⟩:=hf 8 _ rfl;obtain⟨v9,z9,c9,t9⟩:=hf 9 _ rfl;obtain⟨v10,z10,c10,t10⟩:=hf 10 _ rfl;obtain⟨v11,z11,c11,t11⟩:=hf 11 _ rfl;obtain⟨v12,z12,c12,t12⟩:=hf 12 _ rfl;obtain⟨n0,e0,_,_⟩:=DataW.trod_string Tryz.underlying9 t0;obtain⟨n1,e1,_,w1⟩:=DataW.trod_int Tryz.underlying3 t1;obtain⟨n2,e2,_,w2⟩:=DataW.trod_int Tryz.underlying3 t2;obtain⟨n3,e3,_,w3⟩:=DataW.trod_int Tryz.underlying3 t3;obtain⟨n4,e4,_,w4⟩:=DataW.trod_int Tryz.underlying3 t4;obtain⟨n6,e6,_,w6⟩:=DataW.trod_int Tryz.underlying3 t6;obtain⟨n7,e7,_,w7⟩:=DataW.trod_int Tryz.underlying3 t7;obtain⟨n8,e8,_,w8⟩:=DataW.trod_int Tryz.underlying3 t8;obtain⟨n9,e9,_,w9⟩:=DataW.trod_int Tryz.underlying3 t9;obtain⟨n10,e10,_,w10⟩:=DataW.trod_int Tryz.underlying3 t10;obtain⟨la,lc,L,rfl,l1,l2,l3,_,l4⟩:=open_nums t5;obtain⟨ia,ic,I,rfl,i1,i2,i3,i4⟩:=open_items t11;obtain⟨ba,bc,B,rfl,b1,b2,b3,b4⟩:=open_bricks t12;simp only[List.cons.injEq,and_true]at e0 e1 e2 e3 e4 e6 e7 e8 e9 e10;subst e0 e1 e2 e3 e4 e6 e7 e8 e9 e10
  match cs',hl with
  | [x0,x1,x2,x3,x4,x5,x6,x7,x8,x9,x10,x11,x12],_=>
   simp only[List.getElem?_cons_zero,List.getElem?_cons_succ,Option.some.injEq]at c0 c1 c2 c3 c4 c5 c6 c7 c8 c9 c10 c11 c12;subst c0 c1 c2 c3 c4 c5 c6 c7 c8 c9 c10 c11 c12;exact⟨⟨n0,n1,n2,n3,n4,la,L,lc,n6,n7,n8,n9,n10,ia,I,ic,ba,B,bc⟩,rfl,⟨l4,i4,b4,l1,i1,b1,l3,i3,b3⟩⟩) h
 exact⟨a,cap,L,h1,h2,h3,h4,h5,set_of_flat h6⟩
end
section
variable {H:Type} {enc:TypeId×Value→H} {W:World} {base:Nat}
theorem open_house{v:Value}{d:DataW H}{p:List MemPlace}(hv:Value.okWide Tryz.prog W .any base 25 v)(h:DataW.Trod enc Tryz.prog W 0 (fun _=>true) true 25 v d p):
  ∃r:HouseR,v=.agg #[.string r.name,.int .i64 r.height,.slice r.sa r.sets.length r.sc,.slice r.ra r.roofs.length r.rc]∧HouseIn0 W r:=by
 obtain⟨cs,rfl,hsz⟩:=okWide_struct Tryz.underlying25 hv;obtain⟨l⟩:=cs
 match l,hsz.trans (show Tryz.prog.cellsOf 25=4 by kernel_rfl)with
 | [x0,x1,x2,x3],_=>
  obtain⟨fuel,hf0⟩:=h;obtain⟨m,hf⟩:=elem_fields (cs':=[x0,x1,x2,x3]) Tryz.underlying25 (by kernel_rfl) rfl (by simpa[Value.cells]using hf0);obtain⟨v0,z0,c0,t0⟩:=hf 0 _ rfl;obtain⟨v1,z1,c1,t1⟩:=hf 1 _ rfl;obtain⟨v2,z2,c2,t2⟩:=hf 2 _ rfl;obtain⟨v3,z3,c3,t3⟩:=hf 3 _ rfl;simp only[List.getElem?_cons_zero,List.getElem?_cons_succ,Option.some.injEq]at c0 c1 c2 c3;subst c0 c1 c2 c3;obtain⟨n0,e0,_,_⟩:=DataW.trod_string Tryz.underlying9 t0;obtain⟨n1,e1,_,w1⟩:=DataW.trod_int Tryz.underlying3 t1;obtain⟨sa,sc,S,rfl,s1,s2,s3,s4,s5⟩:=open_sets t2;obtain⟨ra,rc,R,rfl,r1,r2,r3,r4⟩:=open_roofs t3;simp only[List.cons.injEq,and_true]at e0 e1;subst e0 e1;exact⟨⟨n0,n1,sa,S,sc,ra,R,rc⟩,rfl,⟨s5,r4,fun i hi=>s4 _ (by rw[hg_eq S i hi];exact List.getElem_mem hi),s1,r1,s3,r3⟩⟩
end
instance:Inhabited Mv:=⟨⟨⟨#[]⟩,0,0,0,0⟩⟩
instance:Inhabited CueR:=⟨⟨⟨#[]⟩,⟨#[]⟩,0,0,none,[],0,0,0⟩⟩
theorem mov_of_flat{n₀:Nat}{w:World}{a:Option Addr}{L:List Mv}(h:0<L.length→∃b off,a=some ⟨b,off,none⟩∧b<n₀∧∀j u,(mflat L)[j]? =some u→w.cell? ⟨b,off+j,none⟩=some u):Movs n₀ w a L:=fun hl=>by
 obtain⟨b,off,e,hb,hc⟩:=h hl;refine⟨b,off,e,hb,fun i hi=>?_⟩;obtain⟨f0,f1,f2,f3,f4⟩:=mflat_at L i hi;have c0:=hc _ _ f0;have c1:=hc _ _ f1;have c2:=hc _ _ f2;have c3:=hc _ _ f3;have c4:=hc _ _ f4
 try simp only[←Nat.add_assoc]at c0 c1 c2 c3 c4
 exact⟨c0,c1,c2,c3,c4⟩
theorem pair_of_flat{n₀:Nat}{w:World}{a:Option Addr}{L:List (ByteArray×ByteArray)}(h:0<L.length→∃b off,a=some ⟨b,off,none⟩∧b<n₀∧∀j u,(pflat L)[j]? =some u→w.cell? ⟨b,off+j,none⟩=some u):Pairs n₀ w a L:=fun hl=>by
 obtain⟨b,off,e,hb,hc⟩:=h hl;refine⟨b,off,e,hb,fun i hi=>?_⟩;obtain⟨f0,f1⟩:=pflat_at L i hi;have c0:=hc _ _ f0;have c1:=hc _ _ f1
 try simp only[←Nat.add_assoc]at c0 c1
 exact⟨c0,c1⟩

theorem cue_of_flat{n₀:Nat}{w:World}{a:Option Addr}{L:List (CueR)}(h:0<L.length→∃b off,a=some ⟨b,off,none⟩∧b<n₀∧∀j u,(cflat L)[j]? =some u→w.cell? ⟨b,off+j,none⟩=some u):Cues n₀ w a L:=fun hl=>by
 obtain⟨b,off,e,hb,hc⟩:=h hl;refine⟨b,off,e,hb,fun i hi=>?_⟩;obtain⟨f0,f1,f2,f3,f4,f5,f6⟩:=cflat_at L i hi;have c0:=hc _ _ f0;have c1:=hc _ _ f1;have c2:=hc _ _ f2;have c3:=hc _ _ f3;have c4:=hc _ _ f4;have c5:=hc _ _ f5;have c6:=hc _ _ f6
 try simp only[←Nat.add_assoc]at c0 c1 c2 c3 c4 c5 c6
 exact⟨c0,c1,c2,c3,c4,c5,c6⟩

section
variable {H:Type} {enc:TypeId×Value→H} {w:World} {base:Nat} {spare:Nat→Bool} {held:Bool}
theorem open_movs{fuel:Nat}{v:Value}{x:DataW H×List MemPlace}(h:DataW.trod enc Tryz.prog w base spare held fuel 84 [v]=some x):
  ∃(a:Option Addr) (cap:Nat) (L:List Mv),v=.slice a L.length cap∧L.length≤cap∧cap≤maxLen∧(a=none→cap=0)∧Movs w.heap.size w a L:=by
 obtain⟨a,cap,L,h1,h2,h3,h4,_,h6⟩:=open_rows (P:=Tryz.prog) (fun r:Mv=>[.string r.name,.int .i64 r.to,.int .i64 r.spd,.int .i64 r.rise,.int .i64 r.fall]) 5 (fun _=>True) (by decide) (fun _=>rfl) Tryz.underlying84 (by kernel_rfl) (fun n cs' y hl ht=>by
  obtain⟨m,hf⟩:=elem_fields Tryz.underlying94 (by kernel_rfl) (by rw[hl];rfl) ht;obtain⟨v0,z0,c0,t0⟩:=hf 0 _ rfl;obtain⟨v1,z1,c1,t1⟩:=hf 1 _ rfl;obtain⟨v2,z2,c2,t2⟩:=hf 2 _ rfl;obtain⟨v3,z3,c3,t3⟩:=hf 3 _ rfl;obtain⟨v4,z4,c4,t4⟩:=hf 4 _ rfl;obtain⟨n0,e0,_,_⟩:=DataW.trod_string Tryz.underlying9 t0;obtain⟨n1,e1,_,w1⟩:=DataW.trod_int Tryz.underlying3 t1;obtain⟨n2,e2,_,w2⟩:=DataW.trod_int Tryz.underlying3 t2;obtain⟨n3,e3,_,w3⟩:=DataW.trod_int Tryz.underlying3 t3;obtain⟨n4,e4,_,w4⟩:=DataW.trod_int Tryz.underlying3 t4;simp only[List.cons.injEq,and_true]at e0 e1 e2 e3 e4;subst e0 e1 e2 e3 e4
  match cs',hl with
  | [x0,x1,x2,x3,x4],_=>
   simp only[List.getElem?_cons_zero,List.getElem?_cons_succ,Option.some.injEq]at c0 c1 c2 c3 c4;subst c0 c1 c2 c3 c4;exact⟨⟨n0,n1,n2,n3,n4⟩,rfl,trivial⟩) h
 exact⟨a,cap,L,h1,h2,h3,h4,mov_of_flat h6⟩
theorem open_pairs{fuel:Nat}{v:Value}{x:DataW H×List MemPlace}(h:DataW.trod enc Tryz.prog w base spare held fuel 27 [v]=some x):
  ∃(a:Option Addr) (cap:Nat) (L:List (ByteArray×ByteArray)),v=.slice a L.length cap∧L.length≤cap∧cap≤maxLen∧(a=none→cap=0)∧Pairs w.heap.size w a L:=by
 obtain⟨a,cap,L,h1,h2,h3,h4,_,h6⟩:=open_rows (P:=Tryz.prog) (fun r:ByteArray×ByteArray=>[Value.string r.1,Value.string r.2]) 2 (fun _=>True) (by decide) (fun _=>rfl) Tryz.underlying27 (by kernel_rfl) (fun n cs' y hl ht=>by
  obtain⟨xs,m,_,_,_,hxl,hel⟩:=DataW.trod_array Tryz.underlying149 ht
  match cs',hl with
  | [c0,c1],_=>
   have e0:=hel 0 (by decide);have e1:=hel 1 (by decide);have hC:Tryz.prog.cellsOf 9=1:=by kernel_rfl
   rw[hC]at e0 e1
   match xs,hxl with
   | [y0,y1],_=>
    obtain⟨s0,r0,_⟩:=DataW.trod_string Tryz.underlying9 (cs:=[c0]) (x:=y0) e0;obtain⟨s1,r1,_⟩:=DataW.trod_string Tryz.underlying9 (cs:=[c1]) (x:=y1) e1;simp only[List.cons.injEq,and_true]at r0 r1;subst r0 r1;exact⟨(s0,s1),rfl,trivial⟩) h
 exact⟨a,cap,L,h1,h2,h3,h4,pair_of_flat h6⟩
def CueIn0(w:World)(r:CueR):Prop:=Movs w.heap.size w r.ma r.moves∧r.moves.length≤r.mc∧(r.ma=none→r.mc=0)
theorem open_cues{fuel:Nat}{v:Value}{x:DataW H×List MemPlace}(h:DataW.trod enc Tryz.prog w base spare held fuel 26 [v]=some x):
  ∃(a:Option Addr) (cap:Nat) (L:List CueR),v=.slice a L.length cap∧L.length≤cap∧cap≤maxLen∧(a=none→cap=0)∧(∀r∈L,CueIn0 w r)∧Cues w.heap.size w a L:=by
 obtain⟨a,cap,L,h1,h2,h3,h4,h5,h6⟩:=open_rows (P:=Tryz.prog) (fun r:CueR=>[.string r.name,.string r.after,.int .i64 r.link,.int .i64 r.delay,.slice r.ma r.moves.length r.mc,.int .i64 r.crew,.int .i64 r.power]) 7 (fun r=>CueIn0 w r) (by decide) (fun _=>rfl) Tryz.underlying26 (by kernel_rfl) (fun n cs' y hl ht=>by
  obtain⟨m,hf⟩:=elem_fields Tryz.underlying86 (by kernel_rfl) (by rw[hl];rfl) ht;obtain⟨v0,z0,c0,t0⟩:=hf 0 _ rfl;obtain⟨v1,z1,c1,t1⟩:=hf 1 _ rfl;obtain⟨v2,z2,c2,t2⟩:=hf 2 _ rfl;obtain⟨v3,z3,c3,t3⟩:=hf 3 _ rfl;obtain⟨v4,z4,c4,t4⟩:=hf 4 _ rfl;obtain⟨v5,z5,c5,t5⟩:=hf 5 _ rfl;obtain⟨v6,z6,c6,t6⟩:=hf 6 _ rfl;obtain⟨n0,e0,_,w0⟩:=DataW.trod_string Tryz.underlying9 t0;obtain⟨n1,e1,_,w1⟩:=DataW.trod_string Tryz.underlying9 t1;obtain⟨n2,e2,_,w2⟩:=DataW.trod_int Tryz.underlying3 t2;obtain⟨n3,e3,_,w3⟩:=DataW.trod_int Tryz.underlying3 t3;obtain⟨n5,e5,_,w5⟩:=DataW.trod_int Tryz.underlying3 t5;obtain⟨n6,e6,_,w6⟩:=DataW.trod_int Tryz.underlying3 t6;obtain⟨a4,k4,M,rfl,m1,m2,m3,m4⟩:=open_movs t4;simp only[List.cons.injEq,and_true]at e0 e1 e2 e3 e5 e6;subst e0 e1 e2 e3 e5 e6
  match cs',hl with
  | [x0,x1,x2,x3,x4,x5,x6],_=>
   simp only[List.getElem?_cons_zero,List.getElem?_cons_succ,Option.some.injEq]at c0 c1 c2 c3 c4 c5 c6;subst c0 c1 c2 c3 c4 c5 c6;exact⟨⟨n0,n1,n2,n3,a4,M,k4,n5,n6⟩,rfl,⟨m4,m1,m3⟩⟩) h
 exact⟨a,cap,L,h1,h2,h3,h4,h5,cue_of_flat h6⟩
end
section
variable {H:Type} {enc:TypeId×Value→H} {W:World} {base:Nat}
theorem open_sheet{v:Value}{d:DataW H}{p:List MemPlace}(hv:Value.okWide Tryz.prog W .any base 29 v)(h:DataW.Trod enc Tryz.prog W 0 (fun _=>true) true 29 v d p):
  ∃s:SheetR,v=.agg #[.slice s.ca s.cues.length s.cc,.slice s.pa s.pairs.length s.pc]∧SheetIn0 W s:=by
 obtain⟨v0,v1,y0,y1,n,rfl,_,_,h0,h1⟩:=open_agg2 Tryz.underlying29 (by kernel_rfl) (by kernel_rfl) hv h;obtain⟨ca,cc,L,rfl,c1,c2,c3,c4,c5⟩:=open_cues h0;obtain⟨pa,pc,A,rfl,p1,p2,p3,p4⟩:=open_pairs h1;have hm:∀i,i<L.length→CueIn0 W (cg L i):=fun i hi=>c4 _ (by rw[cg_eq L i hi];exact List.getElem_mem hi);exact⟨⟨ca,L,cc,pa,A,pc⟩,rfl,⟨c5,fun i hi=>(hm i hi).1,p4,c1,c3,fun i hi=>(hm i hi).2.1,fun i hi=>(hm i hi).2.2,p1,p3⟩⟩
end
end
end Go.Proofs.YtebofaenlhhkaaaGreat
