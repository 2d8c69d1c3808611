import Derived.Test.YtebofaenlhhkaaaGreatY31
namespace Go.Proofs.YtebofaenlhhkaaaGreat
set_option maxRecDepth 100000
set_option maxHeartbeats 80000000
set_option linter.unusedSimpArgs false
section
open Go.RowKit Go.Shelf
structure PB(w:World)(b:Nat)(p:Pc):Prop where
 c0:w.cell? ⟨b,0,none⟩=some (.int .i64 p.f0)
 c1:w.cell? ⟨b,1,none⟩=some (.int .i64 p.f1)
 c2:w.cell? ⟨b,2,none⟩=some (.int .i64 p.a0)
 c3:w.cell? ⟨b,3,none⟩=some (.int .i64 p.a1)
 c4:w.cell? ⟨b,4,none⟩=some (.int .i64 p.b0)
 c5:w.cell? ⟨b,5,none⟩=some (.int .i64 p.b1)
 c6:w.cell? ⟨b,6,none⟩=some (.int .i64 p.c0)
 c7:w.cell? ⟨b,7,none⟩=some (.int .i64 p.c1)
 free:∀i,w.frozen? ⟨b,i,none⟩=false
theorem PB.lt{w:World}{b:Nat}{p:Pc}(h:PB w b p):b<w.heap.size:=wl h.c0
theorem PB.carry{w w':World}{b:Nat}{p:Pc}(h:PB w b p)(hb:Below w.heap.size w w'):PB w' b p:=
 ⟨ct hb h.c0 h.lt,ct hb h.c1 h.lt,ct hb h.c2 h.lt,ct hb h.c3 h.lt,ct hb h.c4 h.lt,ct hb h.c5 h.lt,ct hb h.c6 h.lt,ct hb h.c7 h.lt,fun i=>(hb.frozen (p:=⟨b,i,none⟩) h.lt).trans (h.free i)⟩
theorem PB.new(w:World)(p:Pc)(t:TypeId):PB (w.alloc (.cells #[.int .i64 p.f0,.int .i64 p.f1,.int .i64 p.a0,.int .i64 p.a1,.int .i64 p.b0,.int .i64 p.b1,.int .i64 p.c0,.int .i64 p.c1] t)) w.heap.size p:=
 ⟨by simp,by simp,by simp,by simp,by simp,by simp,by simp,by simp,fun i=>by simp⟩
theorem PB.set{w:World}{b j:Nat}{p q:Pc}(h:PB w b p)(v:Value)(hj:j<8)(hs:(0=j→v=.int .i64 q.f0)∧(¬0=j→q.f0=p.f0)∧(1=j→v=.int .i64 q.f1)∧(¬1=j→q.f1=p.f1)∧(2=j→v=.int .i64 q.a0)∧(¬2=j→q.a0=p.a0)∧(3=j→v=.int .i64 q.a1)∧(¬3=j→q.a1=p.a1)∧(4=j→v=.int .i64 q.b0)∧(¬4=j→q.b0=p.b0)∧(5=j→v=.int .i64 q.b1)∧(¬5=j→q.b1=p.b1)∧(6=j→v=.int .i64 q.c0)∧(¬6=j→q.c0=p.c0)∧(7=j→v=.int .i64 q.c1)∧(¬7=j→q.c1=p.c1)):PB (w.setCell ⟨b,j,none⟩ v) b q:=by
 obtain⟨y0,n0,y1,n1,y2,n2,y3,n3,y4,n4,y5,n5,y6,n6,y7,n7⟩:=hs;have same:∀k u,w.cell? ⟨b,k,none⟩=some u→k=j→(w.setCell ⟨b,j,none⟩ v).cell? ⟨b,k,none⟩=some v:=fun k u hu e=>by subst e;exact World.cell?_setCell_same _ _ _ hu
 have other:∀k,¬k=j→(w.setCell ⟨b,j,none⟩ v).cell? ⟨b,k,none⟩=w.cell? ⟨b,k,none⟩:=fun k e=>World.cell?_setCell_other _ _ _ _ (fun x=>e (congrArg Addr.off x).symm);refine⟨?_,?_,?_,?_,?_,?_,?_,?_,fun i=>by simpa using h.free i⟩
 ·by_cases e:0=j
  ·rw[same 0 _ h.c0 e,y0 e]
  ·rw[other 0 e,h.c0,n0 e]
 ·by_cases e:1=j
  ·rw[same 1 _ h.c1 e,y1 e]
  ·rw[other 1 e,h.c1,n1 e]
 ·by_cases e:2=j
  ·rw[same 2 _ h.c2 e,y2 e]
  ·rw[other 2 e,h.c2,n2 e]
 ·by_cases e:3=j
  ·rw[same 3 _ h.c3 e,y3 e]
  ·rw[other 3 e,h.c3,n3 e]
 ·by_cases e:4=j
  ·rw[same 4 _ h.c4 e,y4 e]
  ·rw[other 4 e,h.c4,n4 e]
 ·by_cases e:5=j
  ·rw[same 5 _ h.c5 e,y5 e]
  ·rw[other 5 e,h.c5,n5 e]
 ·by_cases e:6=j
  ·rw[same 6 _ h.c6 e,y6 e]
  ·rw[other 6 e,h.c6,n6 e]
 ·by_cases e:7=j
  ·rw[same 7 _ h.c7 e,y7 e]
  ·rw[other 7 e,h.c7,n7 e]
theorem PB.far{w:World}{b b2 j:Nat}{p:Pc}(h:PB w b p)(hne:b≠b2)(v:Value):PB (w.setCell ⟨b2,j,none⟩ v) b p:=
 ⟨(World.cell?_setCell_other _ _ _ _ (fun x=>hne (congrArg Addr.block x).symm)).trans h.c0,(World.cell?_setCell_other _ _ _ _ (fun x=>hne (congrArg Addr.block x).symm)).trans h.c1,(World.cell?_setCell_other _ _ _ _ (fun x=>hne (congrArg Addr.block x).symm)).trans h.c2,(World.cell?_setCell_other _ _ _ _ (fun x=>hne (congrArg Addr.block x).symm)).trans h.c3,(World.cell?_setCell_other _ _ _ _ (fun x=>hne (congrArg Addr.block x).symm)).trans h.c4,(World.cell?_setCell_other _ _ _ _ (fun x=>hne (congrArg Addr.block x).symm)).trans h.c5,(World.cell?_setCell_other _ _ _ _ (fun x=>hne (congrArg Addr.block x).symm)).trans h.c6,(World.cell?_setCell_other _ _ _ _ (fun x=>hne (congrArg Addr.block x).symm)).trans h.c7,fun i=>by simpa using h.free i⟩
theorem Qc(q:Pc){w:World}{b:Nat}{p:Pc}(z:PB w b p):(Ak w b 0 [.int .i64 q.f0,.int .i64 q.f1,.int .i64 q.a0,.int .i64 q.a1,.int .i64 q.b0,.int .i64 q.b1,.int .i64 q.c0,.int .i64 q.c1]).cell? ⟨b,0,none⟩=some (.int .i64 q.f0)∧(Ak w b 0 [.int .i64 q.f0,.int .i64 q.f1,.int .i64 q.a0,.int .i64 q.a1,.int .i64 q.b0,.int .i64 q.b1,.int .i64 q.c0,.int .i64 q.c1]).cell? ⟨b,1,none⟩=some (.int .i64 q.f1)∧(Ak w b 0 [.int .i64 q.f0,.int .i64 q.f1,.int .i64 q.a0,.int .i64 q.a1,.int .i64 q.b0,.int .i64 q.b1,.int .i64 q.c0,.int .i64 q.c1]).cell? ⟨b,2,none⟩=some (.int .i64 q.a0)∧(Ak w b 0 [.int .i64 q.f0,.int .i64 q.f1,.int .i64 q.a0,.int .i64 q.a1,.int .i64 q.b0,.int .i64 q.b1,.int .i64 q.c0,.int .i64 q.c1]).cell? ⟨b,3,none⟩=some (.int .i64 q.a1)∧(Ak w b 0 [.int .i64 q.f0,.int .i64 q.f1,.int .i64 q.a0,.int .i64 q.a1,.int .i64 q.b0,.int .i64 q.b1,.int .i64 q.c0,.int .i64 q.c1]).cell? ⟨b,4,none⟩=some (.int .i64 q.b0)∧(Ak w b 0 [.int .i64 q.f0,.int .i64 q.f1,.int .i64 q.a0,.int .i64 q.a1,.int .i64 q.b0,.int .i64 q.b1,.int .i64 q.c0,.int .i64 q.c1]).cell? ⟨b,5,none⟩=some (.int .i64 q.b1)∧(Ak w b 0 [.int .i64 q.f0,.int .i64 q.f1,.int .i64 q.a0,.int .i64 q.a1,.int .i64 q.b0,.int .i64 q.b1,.int .i64 q.c0,.int .i64 q.c1]).cell? ⟨b,6,none⟩=some (.int .i64 q.c0)∧(Ak w b 0 [.int .i64 q.f0,.int .i64 q.f1,.int .i64 q.a0,.int .i64 q.a1,.int .i64 q.b0,.int .i64 q.b1,.int .i64 q.c0,.int .i64 q.c1]).cell? ⟨b,7,none⟩=some (.int .i64 q.c1):=by
 have h:∀i,i<([.int .i64 q.f0,.int .i64 q.f1,.int .i64 q.a0,.int .i64 q.a1,.int .i64 q.b0,.int .i64 q.b1,.int .i64 q.c0,.int .i64 q.c1]:List Value).length→(w.cell? ⟨b,0+i,none⟩).isSome=true:=by
  intro i hi;have hi':i<8:=hi;rw[Nat.zero_add];obtain rfl | rfl | rfl | rfl | rfl | rfl | rfl | rfl:i=0∨i=1∨i=2∨i=3∨i=4∨i=5∨i=6∨i=7:=by omega
  ·rw[z.c0];rfl
  ·rw[z.c1];rfl
  ·rw[z.c2];rfl
  ·rw[z.c3];rfl
  ·rw[z.c4];rfl
  ·rw[z.c5];rfl
  ·rw[z.c6];rfl
  ·rw[z.c7];rfl
 have r:=Po ([.int .i64 q.f0,.int .i64 q.f1,.int .i64 q.a0,.int .i64 q.a1,.int .i64 q.b0,.int .i64 q.b1,.int .i64 q.c0,.int .i64 q.c1]:List Value) w b 0 h;exact⟨r 0 (by simp),r 1 (by simp),r 2 (by simp),r 3 (by simp),r 4 (by simp),r 5 (by simp),r 6 (by simp),r 7 (by simp)⟩
theorem PB.putA{w:World}{b:Nat}{p:Pc}(h:PB w b p)(x y:Int):PB ((w.setCell ⟨b,2,none⟩ (.int .i64 x)).setCell ⟨b,3,none⟩ (.int .i64 y)) b ⟨p.f0,p.f1,x,y,p.b0,p.b1,p.c0,p.c1⟩:=
 (h.set (q:=⟨p.f0,p.f1,x,p.a1,p.b0,p.b1,p.c0,p.c1⟩) (.int .i64 x) (by decide) (by simp)).set (.int .i64 y) (by decide) (by simp)
structure HQ(n₀:Nat)(W0:World)(B:Nat)(w:World):Prop where
 old:Below n₀ W0 w
 pb:∃q,PB w B q
 lo:n₀≤B
theorem HQ.size{n₀ B:Nat}{W0 w:World}(h:HQ n₀ W0 B w):n₀≤w.heap.size:=by
 obtain⟨q,z⟩:=h.pb;have:=z.lt;have:=h.lo;omega
theorem HQ.next{n₀ B:Nat}{W0 w w':World}(h:HQ n₀ W0 B w)(hb:Below w.heap.size w w'):HQ n₀ W0 B w':=⟨h.old.trans (hb.mono h.size),by obtain⟨q,z⟩:=h.pb;exact⟨q,z.carry hb⟩,h.lo⟩
theorem HQ.putAt{n₀ B i j:Nat}{W0 w:World}{u v:Value}{q:Pc}(h:HQ n₀ W0 B w)(z:PB ((w.setCell ⟨B,i,none⟩ u).setCell ⟨B,j,none⟩ v) B q):HQ n₀ W0 B ((w.setCell ⟨B,i,none⟩ u).setCell ⟨B,j,none⟩ v):=
 ⟨(h.old.setCell (show n₀≤(⟨B,i,none⟩:Addr).block from h.lo) _).setCell (show n₀≤(⟨B,j,none⟩:Addr).block from h.lo) _,⟨q,z⟩,h.lo⟩
theorem PB.putF{w:World}{b:Nat}{p:Pc}(h:PB w b p)(x y:Int):PB ((w.setCell ⟨b,0,none⟩ (.int .i64 x)).setCell ⟨b,1,none⟩ (.int .i64 y)) b ⟨x,y,p.a0,p.a1,p.b0,p.b1,p.c0,p.c1⟩:=
 (h.set (q:=⟨x,p.f1,p.a0,p.a1,p.b0,p.b1,p.c0,p.c1⟩) (.int .i64 x) (by decide) (by simp)).set (.int .i64 y) (by decide) (by simp)
theorem PB.putB0{w:World}{b:Nat}{p:Pc}(h:PB w b p)(x:Int):PB (w.setCell ⟨b,4,none⟩ (.int .i64 x)) b ⟨p.f0,p.f1,p.a0,p.a1,x,p.b1,p.c0,p.c1⟩:=h.set (.int .i64 x) (by decide) (by simp)
theorem PB.putC0{w:World}{b:Nat}{p:Pc}(h:PB w b p)(x:Int):PB (w.setCell ⟨b,6,none⟩ (.int .i64 x)) b ⟨p.f0,p.f1,p.a0,p.a1,p.b0,p.b1,x,p.c1⟩:=h.set (.int .i64 x) (by decide) (by simp)
structure HP(n₀:Nat)(W0:World)(B C:Nat)(w:World):Prop where
 h:HQ n₀ W0 B w
 r:∃q,PB w C q
 ne:C≠B
theorem HP.next{n₀ B C:Nat}{W0 w w':World}(h:HP n₀ W0 B C w)(hb:Below w.heap.size w w'):HP n₀ W0 B C w':=⟨h.h.next hb,by obtain⟨q,z⟩:=h.r;exact⟨q,z.carry hb⟩,h.ne⟩
theorem HP.putAt{n₀ B C i j:Nat}{W0 w:World}{u v:Value}{q:Pc}(h:HP n₀ W0 B C w)(z:PB ((w.setCell ⟨B,i,none⟩ u).setCell ⟨B,j,none⟩ v) B q):HP n₀ W0 B C ((w.setCell ⟨B,i,none⟩ u).setCell ⟨B,j,none⟩ v):=
 ⟨h.h.putAt z,by obtain⟨q,z⟩:=h.r;exact⟨q,(z.far h.ne u).far h.ne v⟩,h.ne⟩
theorem ALn(d:Int)(d0:1≤d)(d1:d≤9223372036854775807)(w:World):
  Calls Tryz.prog 53 #[.int .i64 0,.int .i64 d] w fun e w'=>e=.returned (.tuple #[.agg #[.int .i64 0,.int .i64 1],.int .i64 0])∧Below w.heap.size w w':=by
 have Z1:Hid (∀w:World,Calls Tryz.prog 89 #[.int .i64 0] w fun e w'=>e=.returned (.int .u64 0)∧w=w'):=lh fun w=>by have:=Dm 0 (by decide) (by decide) w;simpa using this
 have Z2:Hid (∀w:World,Calls Tryz.prog 89 #[.int .i64 d] w fun e w'=>e=.returned (.int .u64 d)∧w=w'):=lh fun w=>by have:=Dm d (by omega) (by omega) w;rwa [show(d.natAbs:Int)=d by omega]at this
 have HG:Hid (∀w:World,Calls Tryz.prog 90 #[.int .u64 0,.int .u64 d] w fun e w'=>e=.returned (.int .u64 d)∧∃m,w'=w.drewN m):=lh fun w=>by
  have:=Jg 0 d (by decide) (by decide) (by omega) (by omega) w
  rwa [show((Int.gcd 0 d:Nat):Int)=d by simp;omega]at this
 have HS:Hid (∀w:World,Calls Tryz.prog 91 #[.bool false,.int .u64 (IntKind.u64.wrap 0),.int .u64 (IntKind.u64.wrap 1)] w fun e w'=>e=.returned (.tuple #[.agg #[.int .i64 0,.int .i64 1],.int .i64 0])∧Below w.heap.size w w'):=lh fun w=>by rw[show IntKind.u64.wrap 0=0 from rfl,show IntKind.u64.wrap 1=1 from rfl];exact El false 0 1 (by decide) (by decide) w
 have z1:(d==0)=false:=by simp;omega
 have z2:¬d=0:=by omega
 have z3:IntKind.u64.wrap (d.tdiv d)=1:=by rw[Int.tdiv_self z2];rfl
 have z4:IntKind.u64.wrap ((0:Int).tdiv d)=0:=by rw[Int.zero_tdiv];rfl
 go_enter Tryz.func53,Tryz.ntmps53
 go_upto_region 5 with (first
  | (go_at_call 89;go_fit (Z1.out _);rintro e w' ⟨rfl,rfl⟩)
  | (go_at_call 89;go_fit (Z2.out _);rintro e w' ⟨rfl,rfl⟩)
  | (go_at_call 90;go_fit (HG.out _);rintro e w' ⟨rfl,m,rfl⟩))
 have HF:FI ((w.alloc (.cells #[.int .i64 0,.int .i64 0] 49)).drewN m) w.heap.size 0 0:=⟨by simp,by simp,by simp,by simp,by simp⟩;have hW:=Aj (Aa w (.cells #[.int .i64 0,.int .i64 0] 49)) m;generalize (w.alloc (.cells #[.int .i64 0,.int .i64 0] 49)).drewN m=W0 at *;refine wp_region_held_drew (S:=fun w'=>Below w.heap.size w w') (by kernel_rfl) (hW.drew) (fun hHeld=>?_);refine tkB 0 ?_;simp only[Act.put,Co,Cp,Cn,Ba,Az];refine tk 1 ?_;refine tk 2 ?_;refine tkS 3 ?_;simp only[Act.put,Co,Cp,Cn,Ba,Bc,Az];refine tkS 4 ?_;simp only[Act.put,Co,Cp,Cn,Ba,Bc,Az];refine tkS 5 ?_;simp only[Act.put,Co,Cp,Cn,Ba,Bc,Az];refine tkS 6 ?_;simp only[Act.put,Co,Cp,Cn,Ba,Bc,Az];refine tkS 7 ?_;simp only[Act.put,Co,Cp,Cn,Ba,Bc,Az];refine tk 8 ?_;refine tk 9 ?_;refine tk 10 ?_;refine tk 11 ?_;refine tk 12 ?_;refine tk 13 ?_;refine tk 14 ?_;refine r1 15 (fun K hK=>?_)
 try simp only[Ba,Bc,Az]
 go_simp
 (go_at_call 91;go_split_ands;go_fit (HS.out _);rintro e w2 ⟨rfl,hb2⟩;have hB2:=hW.drew.trans (hb2.mono hW.drew.size);obtain⟨q0,q1,q2,q3,q4⟩:=(show FI W0.drew w.heap.size 0 0 from HF).carry hb2)
 go_wp2_with fail
 refine hK.out _ _ (hB2) (fun hHeld=>?_);clear hK K
 try simp only[Act.put,Co,Cp,Cn,Ba,Bc,Az]
 refine tk 16 ?_;refine tk 17 ?_;refine r1 18 (fun K hK=>?_)
 try simp only[Ba,Bc,Az]
 go_simp
 refine hK.out _ _ (Ad _ _ (Ad _ _ hB2 nr) nr) (fun hHeld=>?_);clear hK K
 try simp only[Act.put,Co,Cp,Cn,Ba,Bc,Az]
 refine tk 19 ?_;refine wpAnyH_done (by kernel_rfl) ?_ _
 go_wp2_with fail
 have l0:=(Ag (v0:=.int .i64 0) (v1:=.int .i64 1) q0 q1).1;have l1:=(Ag (v0:=.int .i64 0) (v1:=.int .i64 1) q0 q1).2;refine bodyPost_ret (v:=.tuple #[.agg #[.int .i64 0,.int .i64 1],.int .i64 0]) (by simp[results,Tryz.results53,go_sem,l0,l1]) rfl ⟨rfl,?_⟩;exact Ad _ _ (Ad _ _ hB2 nr) nr
end
section
section
variable {P:Program} {ops:Array Oper} {Q:Exit→Act→World→Prop} {md:Region.Mode} {S:World→Prop}
theorem ry(rs:List Nat){fuel:Nat}{listed:Array Bool}{a:Act}{w:World}(h:AllReadyH P md ops Q S fuel listed a w rs)(hr:Region.ready md ops listed=rs:=by kernel_rfl)(hne:rs≠[]:=by simp):wpAnyH P md ops Q S (fuel+1) listed a w:=wpAnyH_ready hr hne h
theorem nl{fuel:Nat}{listed:Array Bool}{a:Act}{w:World}:AllReadyH P md ops Q S fuel listed a w []:=AllReadyH.nil
theorem dn{fuel:Nat}{listed:Array Bool}{a:Act}{w:World}(h:Q .normal a w)(hr:Region.ready md ops listed=[]:=by kernel_rfl):wpAnyH P md ops Q S fuel listed a w:=wpAnyH_done hr h fuel
theorem AIz{i:Nat}{oi:Oper}{n:Next}{v:Value}{fuel:Nat}{listed:Array Bool}{a a':Act}{w w1:World}{rs:List Nat}(hS:S w1)
  (h:S w1→wpAnyH P md ops Q S fuel (listed.setIfInBounds i true) a' w1) (hs:AllReadyH P md ops Q S fuel listed a w rs)
  (hi:ops[i]? =some oi) (hg:Region.wanted oi (yielded ops a.tmps)=true)
  (hx:(execOp a.eval oi).run P w=.ok n w1) (hn:(n=.value v)∨(n=.skip∧v=undef)) (ha:a.put oi.dst v=a'):AllReadyH P md ops Q S fuel listed a w (i::rs):=by
 refine AllReadyH.cons (o:=oi) hi (fun K hK=>?_) hs;rw[if_pos hg];unfold Oper.wp;rw[hx];rcases hn with rfl | ⟨rfl,rfl⟩
 ·rw[Oper.upon_value];exact hK.out _ _ hS (fun hS=>by rw[ha];exact h hS)
 ·rw[Oper.upon_skip];exact hK.out _ _ hS (fun hS=>by rw[ha];exact h hS)
theorem AHz{i:Nat}{oi:Oper}{f:FuncId}{args:Array Value}{V:Value}{X:World→Prop}{fuel:Nat}{listed:Array Bool}{a a':Act}{w:World}{rs:List Nat}
  (hc:Calls P f args w fun e w'=>e=.returned V∧X w') (hn:∀w',X w'→S w')
  (h:∀w',X w'→S w'→wpAnyH P md ops Q S fuel (listed.setIfInBounds i true) a' w') (hs:AllReadyH P md ops Q S fuel listed a w rs)
  (hi:ops[i]? =some oi) (hg:Region.wanted oi (yielded ops a.tmps)=true)
  (hx:(execOp a.eval oi).run P w=.ok (.enter f args) w) (ha:a.put oi.dst V=a'):AllReadyH P md ops Q S fuel listed a w (i::rs):=by
 refine AllReadyH.cons (o:=oi) hi (fun K hK=>?_) hs;rw[if_pos hg];unfold Oper.wp;rw[hx,Oper.upon_enter];refine hc.mono ?_;rintro e w' ⟨rfl,hX⟩;exact hK.out _ _ (hn w' hX) (fun hS=>by rw[ha];exact h w' hX hS)
theorem rc(i:Nat){oi:Oper}{f:FuncId}{args:Array Value}{V:Value}{X:World→Prop}{fuel:Nat}{listed:Array Bool}{a a':Act}{w:World}{rs:List Nat}
  (hc:Calls P f args w fun e w'=>e=.returned V∧X w') (hn:∀w',X w'→S w')
  (h:∀w',X w'→S w'→wpAnyH P md ops Q S fuel (listed.setIfInBounds i true) a' w') (hs:AllReadyH P md ops Q S fuel listed a w rs)
  (hi:ops[i]? =some oi:=by first | (simp only[List.getElem?_toArray,List.getElem?_cons_zero];rfl) | (simp only[List.getElem?_toArray,List.getElem?_cons_succ,List.getElem?_cons_zero];rfl))
  (hg:Region.wanted oi (yielded ops a.tmps)=true:=by rfl)
  (hx:(execOp a.eval oi).run P w=.ok (.enter f args) w:=by(try simp only[Ba,Bc,Az]);go_simp)
  (ha:a.put oi.dst V=a':=by simp only[Act.put,List.setIfInBounds_toArray,List.set_cons_zero,List.set_cons_succ,List.getElem_toArray,List.getElem_cons_succ,List.getElem_cons_zero];rfl):AllReadyH P md ops Q S fuel listed a w (i::rs):=
 AHz hc hn h hs hi hg hx ha
theorem cl(i:Nat){oi:Oper}{f:FuncId}{args:Array Value}{V:Value}{X:World→Prop}{fuel:Nat}{listed:Array Bool}{a a':Act}{w:World}
  (hc:Calls P f args w fun e w'=>e=.returned V∧X w') (hn:∀w',X w'→S w')
  (h:∀w',X w'→S w'→wpAnyH P md ops Q S fuel (listed.setIfInBounds i true) a' w')
  (hi:ops[i]? =some oi:=by first | (simp only[List.getElem?_toArray,List.getElem?_cons_zero];rfl) | (simp only[List.getElem?_toArray,List.getElem?_cons_succ,List.getElem?_cons_zero];rfl))
  (hr:Region.ready md ops listed=[i]:=by kernel_rfl) (hg:Region.wanted oi (yielded ops a.tmps)=true:=by rfl)
  (hx:(execOp a.eval oi).run P w=.ok (.enter f args) w:=by(try simp only[Ba,Bc,Az]);go_simp)
  (ha:a.put oi.dst V=a':=by simp only[Act.put,List.setIfInBounds_toArray,List.set_cons_zero,List.set_cons_succ,List.getElem_toArray,List.getElem_cons_succ,List.getElem_cons_zero];rfl):wpAnyH P md ops Q S (fuel+1) listed a w:=
 wpAnyH_ready hr (by simp) (AHz hc hn h AllReadyH.nil hi hg hx ha)
theorem al(i:Nat)(o:Obj){oi:Oper}{fuel:Nat}{listed:Array Bool}{a:Act}{a':Nat→Act}{w:World}{rs:List Nat}(hS:S (w.alloc o))
  (h:∀B w1,w.heap.size=B→w.alloc o=w1→S w1→wpAnyH P md ops Q S fuel (listed.setIfInBounds i true) (a' B) w1) (hs:AllReadyH P md ops Q S fuel listed a w rs)
  (hi:ops[i]? =some oi:=by first | (simp only[List.getElem?_toArray,List.getElem?_cons_zero];rfl) | (simp only[List.getElem?_toArray,List.getElem?_cons_succ,List.getElem?_cons_zero];rfl))
  (hg:Region.wanted oi (yielded ops a.tmps)=true:=by rfl)
  (hx:(execOp a.eval oi).run P w=.ok (.value (.pointer (some ⟨w.heap.size,0,none⟩))) (w.alloc o):=by(try simp only[Ba,Bc,Az]);go_simp)
  (ha:∀B,a.put oi.dst (.pointer (some ⟨B,0,none⟩))=a' B:=by intro B;simp only[Act.put,Co,Cp,Cn,Ba,Bc,Az];rfl):AllReadyH P md ops Q S fuel listed a w (i::rs):=
 AIz hS (fun z=>h _ _ rfl rfl z) hs hi hg hx (.inl rfl) (ha _)
theorem vl(i:Nat){oi:Oper}{n:Next}{v:Value}{fuel:Nat}{listed:Array Bool}{a a':Act}{w w1:World}{rs:List Nat}(hS:S w1)
  (h:S w1→wpAnyH P md ops Q S fuel (listed.setIfInBounds i true) a' w1) (hs:AllReadyH P md ops Q S fuel listed a w rs)
  (hi:ops[i]? =some oi:=by first | (simp only[List.getElem?_toArray,List.getElem?_cons_zero];rfl) | (simp only[List.getElem?_toArray,List.getElem?_cons_succ,List.getElem?_cons_zero];rfl))
  (hg:Region.wanted oi (yielded ops a.tmps)=true:=by rfl)
  (hx:(execOp a.eval oi).run P w=.ok n w1:=by(try simp only[Ba,Bc,Az]);go_simp;(try with_reducible rfl);(try exact⟨rfl,rfl⟩))
  (hn:(n=.value v)∨(n=.skip∧v=undef):=by first | exact .inr ⟨rfl,rfl⟩ | exact .inl rfl)
  (ha:a.put oi.dst v=a':=by simp only[Act.put,List.setIfInBounds_toArray,List.set_cons_zero,List.set_cons_succ,List.getElem_toArray,List.getElem_cons_succ,List.getElem_cons_zero];rfl):AllReadyH P md ops Q S fuel listed a w (i::rs):=
 AIz hS h hs hi hg hx hn ha
end
end
section
open Go.RowKit Go.Shelf
attribute [local go_sem] Oper.semAt_some
theorem AEk(s:Int)(s0:0≤s)(s1:s≤1099511627776)(w:World):Calls Tryz.prog 53 #[.int .i64 s,.int .i64 1000] w fun e w'=>e=.returned (.tuple #[.agg #[.int .i64 (Ay s 1000),.int .i64 (Ar s 1000)],.int .i64 0])∧Below w.heap.size w w':=by
 by_cases c:s=0
 ·subst c
  have:=ALn 1000 (by decide) (by decide) w
  rwa [←(Lf (d:=1000) (by decide)).1,←(Lf (d:=1000) (by decide)).2]at this
 ·have:=AEe s 1000 c (by omega) (by omega) (by decide) (by decide) w
  rwa [ACm (by decide),Vc (by decide) (by omega) (by omega) (by decide)]at this
theorem ALg{s:Int}(s0:0≤s)(s1:s≤1099511627776):Cf (Ay s 1000) (Ar s 1000)=true:=by
 have a:=Nq s 1000;have b:=Qd (n:=s) (d:=1000) (by decide);have c:=Eg (n:=s) (d:=1000) (by decide);exact(Bj _ _).2 ⟨by omega,by omega,by omega,by omega,Kl (by decide)⟩
theorem AFe(x:Pc)(s z:Int)(up:Bool)(s0:0≤s)(s1:s≤1099511627776)(z0:0≤z)(z1:z≤1048576)(vf:Cf x.f0 x.f1=true)(va:Cf x.a0 x.a1=true)(vb:-1152921504606846976≤x.b0∧x.b0≤1152921504606846976)(vc:-1152921504606846976≤x.c0∧x.c0≤1152921504606846976)(w:World):
  Calls Tryz.prog 81 #[.agg #[.int .i64 x.f0,.int .i64 x.f1,.int .i64 x.a0,.int .i64 x.a1,.int .i64 x.b0,.int .i64 x.b1,.int .i64 x.c0,.int .i64 x.c1],.int .i64 s,.int .i64 z,.bool up] w fun e w'=>e=.returned (.tuple #[.agg #[.int .i64 (Ep x s z up).1.f0,.int .i64 (Ep x s z up).1.f1,.int .i64 (Ep x s z up).1.a0,.int .i64 (Ep x s z up).1.a1,.int .i64 (Ep x s z up).1.b0,.int .i64 (Ep x s z up).1.b1,.int .i64 (Ep x s z up).1.c0,.int .i64 (Ep x s z up).1.c1],.int .i64 (Ep x s z up).2])∧Below w.heap.size w w':=by
 have HMK:=lh fun w'=>AEk s s0 s1 w';have HAF:=lh fun w'=>Ss (Ay s 1000) (Ar s 1000) x.f0 x.f1 (ALg s0 s1) vf w';have vz:Cf z 1=true:=(Bj _ _).2 ⟨by decide,by decide,by omega,by omega,by simp⟩;have HAU:=lh fun w'=>Ss z 1 x.a0 x.a1 vz va w';have HAD:=lh fun w'=>ABp z 1 x.a0 x.a1 vz va w';have HP0:Hid (Ep x s z up=if(Jn (Ay s 1000) (Ar s 1000) x.f0 x.f1).2.2=0 then(⟨(Jn (Ay s 1000) (Ar s 1000) x.f0 x.f1).1,(Jn (Ay s 1000) (Ar s 1000) x.f0 x.f1).2.1,(Jn z 1 (if up then x.a0 else -x.a0) x.a1).1,(Jn z 1 (if up then x.a0 else -x.a0) x.a1).2.1,if up then x.b0 else -x.b0,x.b1,if up then x.c0 else -x.c0,x.c1⟩,(Jn z 1 (if up then x.a0 else -x.a0) x.a1).2.2)else(zPc,(Jn (Ay s 1000) (Ar s 1000) x.f0 x.f1).2.2)):=lh (by unfold Ep;split<;>rfl);generalize Ay s 1000=sn at *;generalize Ar s 1000=sd at *;obtain⟨Y,hY⟩:=nm (Jn sn sd x.f0 x.f1);rw[hY]at HAF HP0;obtain⟨R,hR⟩:=nm (Ep x s z up);rw[hR]at HP0⊢;clear hY hR;have hb:Below w.heap.size w ((w.alloc (.cells #[.int .i64 x.f0,.int .i64 x.f1,.int .i64 x.a0,.int .i64 x.a1,.int .i64 x.b0,.int .i64 x.b1,.int .i64 x.c0,.int .i64 x.c1] 122)).alloc (.cells #[.int .i64 0,.int .i64 0,.int .i64 0,.int .i64 0,.int .i64 0,.int .i64 0,.int .i64 0,.int .i64 0] 122)):=(Aa w _).alloc (by simp) _;have hx:=(PB.new w x 122).carry (Aa _ (.cells #[.int .i64 0,.int .i64 0,.int .i64 0,.int .i64 0,.int .i64 0,.int .i64 0,.int .i64 0,.int .i64 0] 122));have hr:=PB.new (w.alloc (.cells #[.int .i64 x.f0,.int .i64 x.f1,.int .i64 x.a0,.int .i64 x.a1,.int .i64 x.b0,.int .i64 x.b1,.int .i64 x.c0,.int .i64 x.c1] 122)) zPc 122;rw[show(w.alloc (.cells #[.int .i64 x.f0,.int .i64 x.f1,.int .i64 x.a0,.int .i64 x.a1,.int .i64 x.b0,.int .i64 x.b1,.int .i64 x.c0,.int .i64 x.c1] 122)).heap.size=w.heap.size+1 by simp]at hr
 change PB ((w.alloc (.cells #[.int .i64 x.f0,.int .i64 x.f1,.int .i64 x.a0,.int .i64 x.a1,.int .i64 x.b0,.int .i64 x.b1,.int .i64 x.c0,.int .i64 x.c1] 122)).alloc (.cells #[.int .i64 0,.int .i64 0,.int .i64 0,.int .i64 0,.int .i64 0,.int .i64 0,.int .i64 0,.int .i64 0] 122)) (w.heap.size+1) zPc at hr
 obtain⟨W0,hW0⟩:=nm (((w.alloc (.cells #[.int .i64 x.f0,.int .i64 x.f1,.int .i64 x.a0,.int .i64 x.a1,.int .i64 x.b0,.int .i64 x.b1,.int .i64 x.c0,.int .i64 x.c1] 122)).alloc (.cells #[.int .i64 0,.int .i64 0,.int .i64 0,.int .i64 0,.int .i64 0,.int .i64 0,.int .i64 0,.int .i64 0] 122)));rw[hW0]at hb hx hr;obtain⟨B,hB⟩:=nm (w.heap.size);obtain⟨C,hC⟩:=nm (B+1);have hne:C≠B:=by omega
 have HCB:Hid (w.heap.size≤C):=lh (by omega);rw[hB,hC]at hr;have HH:Hid (HP w.heap.size w B C W0):=lh ⟨⟨hb,⟨x,by rw[←hB];exact hx⟩,by omega⟩,⟨zPc,hr⟩,hne⟩;rw[hB]at hx;have HBB:=lh hb;have HX:=lh hx;have HR:=lh hr;have HB:=lh hB;clear hb hx hr
 go_enter Tryz.func81,Tryz.ntmps81
 go_upto_region 1 with (fail)
 try simp only[hW0]
 clear hW0
 try simp only[hB]
 try simp only[hC]
 clear hC hB
 go_upto_region 4 with (go_at_call 53;go_fit (HMK.out _);rintro e w1 ⟨rfl,hb1⟩)
 have hbn:=hb1.trans ((Aa w1 (.cells #[.int .i64 sn,.int .i64 sd] 49)).mono hb1.size);have hfi:=FI.put w1 sn sd 49;have HH1:=lh (HH.out.next hbn);have HX1:=lh (HX.out.carry hbn);have HR1:=lh (HR.out.carry hbn);clear hbn hb1 HX HR HBB HH;obtain⟨Bs,hBs⟩:=nm (w1.heap.size);simp only[hBs]at hfi⊢;clear hBs;generalize w1.alloc (.cells #[.int .i64 sn,.int .i64 sd] 49)=W1 at *;obtain⟨s0',s1',-,-,-⟩:=hfi;obtain⟨x0,x1,x2,x3,x4,x5,x6,x7,xf⟩:=HX1.out
 go_upto_region 5 with (go_at_call 124;go_fit (HAF.out _);rintro e w2 ⟨rfl,hb2⟩;clear x0 x1 x2 x3 x4 x5 x6 x7 xf;obtain⟨x0,x1,x2,x3,x4,x5,x6,x7,xf⟩:=HX1.out.carry hb2)
 have hx2:=(HX1.out.carry hb2).putF Y.1 Y.2.1;have hh2:=(HH1.out.next hb2).putAt hx2;have hr2:=((HR1.out.carry hb2).far HH1.out.ne (j:=0) (.int .i64 Y.1)).far HH1.out.ne (j:=1) (.int .i64 Y.2.1);clear x0 x1 x2 x3 x4 x5 x6 x7 xf HX1 HR1 HH1 hb2 s0' s1';obtain⟨W2,hW2⟩:=nm ((w2.setCell ⟨B,0,none⟩ (.int .i64 Y.1)).setCell ⟨B,1,none⟩ (.int .i64 Y.2.1));rw[hW2]at hx2 hh2 hr2;simp only[hW2];clear hW2
 by_cases ye:Y.2.2=0
 case neg=>
  have HRR:Hid (R=(zPc,Y.2.2)):=lh (by rw[HP0.out,if_neg ye]);have g:(Y.2.2 !=0)=true:=by simpa using ye
  have HBW:=lh hh2.h.old;have HR2:=lh hr2;obtain⟨r0,r1,r2,r3,r4,r5,r6,r7,rf⟩:=hr2;clear ye hx2 HP0
  go_wp2_with fail
  have hlo:=HCB.out;show bodyPost _ _ _ Exit.ret _ (Ak W2 C 0 [.int .i64 0,.int .i64 0,.int .i64 0,.int .i64 0,.int .i64 0,.int .i64 0,.int .i64 0,.int .i64 0]);have hq:(Ak W2 C 0 [.int .i64 0,.int .i64 0,.int .i64 0,.int .i64 0,.int .i64 0,.int .i64 0,.int .i64 0,.int .i64 0]).cell? ⟨C,0,none⟩=some (.int .i64 0)∧(Ak W2 C 0 [.int .i64 0,.int .i64 0,.int .i64 0,.int .i64 0,.int .i64 0,.int .i64 0,.int .i64 0,.int .i64 0]).cell? ⟨C,1,none⟩=some (.int .i64 0)∧(Ak W2 C 0 [.int .i64 0,.int .i64 0,.int .i64 0,.int .i64 0,.int .i64 0,.int .i64 0,.int .i64 0,.int .i64 0]).cell? ⟨C,2,none⟩=some (.int .i64 0)∧(Ak W2 C 0 [.int .i64 0,.int .i64 0,.int .i64 0,.int .i64 0,.int .i64 0,.int .i64 0,.int .i64 0,.int .i64 0]).cell? ⟨C,3,none⟩=some (.int .i64 0)∧(Ak W2 C 0 [.int .i64 0,.int .i64 0,.int .i64 0,.int .i64 0,.int .i64 0,.int .i64 0,.int .i64 0,.int .i64 0]).cell? ⟨C,4,none⟩=some (.int .i64 0)∧(Ak W2 C 0 [.int .i64 0,.int .i64 0,.int .i64 0,.int .i64 0,.int .i64 0,.int .i64 0,.int .i64 0,.int .i64 0]).cell? ⟨C,5,none⟩=some (.int .i64 0)∧(Ak W2 C 0 [.int .i64 0,.int .i64 0,.int .i64 0,.int .i64 0,.int .i64 0,.int .i64 0,.int .i64 0,.int .i64 0]).cell? ⟨C,6,none⟩=some (.int .i64 0)∧(Ak W2 C 0 [.int .i64 0,.int .i64 0,.int .i64 0,.int .i64 0,.int .i64 0,.int .i64 0,.int .i64 0,.int .i64 0]).cell? ⟨C,7,none⟩=some (.int .i64 0):=Qc zPc HR2.out;have hbb:=Dl (m:=w.heap.size) (b:=C) (W:=w) [.int .i64 0,.int .i64 0,.int .i64 0,.int .i64 0,.int .i64 0,.int .i64 0,.int .i64 0,.int .i64 0] W2 0 HBW.out (by have:=hlo;omega);generalize Ak W2 C 0 [.int .i64 0,.int .i64 0,.int .i64 0,.int .i64 0,.int .i64 0,.int .i64 0,.int .i64 0,.int .i64 0]=WF at *;obtain⟨g0,g1,g2,g3,g4,g5,g6,g7⟩:=hq;refine bodyPost_ret (v:=.tuple #[.agg #[.int .i64 0,.int .i64 0,.int .i64 0,.int .i64 0,.int .i64 0,.int .i64 0,.int .i64 0,.int .i64 0],.int .i64 Y.2.2]) (by simp[results,Tryz.results81,go_sem,g0,g1,g2,g3,g4,g5,g6,g7]) rfl ⟨by first | (rw[HRR.out];done) | (rw[HRR.out];rfl),hbb⟩
 have g:(Y.2.2 !=0)=false:=by simp[ye]
 have HX2:=lh hx2;have HH2:=lh hh2;have HR2:=lh hr2;clear hx2 hh2 hr2
 cases up
 ·obtain⟨X,hX⟩:=nm (Jn z 1 (-x.a0) x.a1)
  rw[hX]at HAD;have HRR:Hid (R=(⟨Y.1,Y.2.1,X.1,X.2.1,-x.b0,x.b1,-x.c0,x.c1⟩,X.2.2)):=lh (by rw[HP0.out,if_pos ye,←hX];rfl);clear hX ye HP0;obtain⟨x0,x1,x2,x3,x4,x5,x6,x7,xf⟩:=HX2.out;have wb:IntKind.i64.wrap (-x.b0)=-x.b0:=IntWalk.i64_in _ (by omega);have wc:IntKind.i64.wrap (-x.c0)=-x.c0:=IntWalk.i64_in _ (by omega)
  go_upto_region 11 with (fail)
  clear x0 x1 x2 x3 x4 x5 x6 x7 xf;have hx3:=(HX2.out.putB0 (-x.b0)).putC0 (-x.c0);have hh3:HP w.heap.size w B C ((W2.setCell ⟨B,4,none⟩ (.int .i64 (-x.b0))).setCell ⟨B,6,none⟩ (.int .i64 (-x.c0))):=HH2.out.putAt hx3;have hr3:=(HR2.out.far HH2.out.ne (j:=4) (.int .i64 (-x.b0))).far HH2.out.ne (j:=6) (.int .i64 (-x.c0));obtain⟨W3,hW3⟩:=nm ((W2.setCell ⟨B,4,none⟩ (.int .i64 (-x.b0))).setCell ⟨B,6,none⟩ (.int .i64 (-x.c0)));rw[hW3]at hx3 hh3 hr3;simp only[hW3];clear hW3 wb wc;clear HX2 HH2 HR2;have hxd:=hx3.carry (Cm W3);have hrd:=hr3.carry (Cm W3);have hhd:=hh3.next (Cm W3);clear hx3 hh3 hr3;refine wp_region_held_drew (S:=HP w.heap.size w B C) (by kernel_rfl) hhd (fun hHeld=>?_);refine tk 0 ?_;refine tk 2 ?_;obtain⟨q0,q1,q2,q3,q4,q5,q6,q7,qf⟩:=id hxd;refine ry [1,3] (rc 1 (Gt z _) (fun _ hb=>hHeld.next hb) (fun y1 hb hH1=>?_) (vl 3 hHeld (fun hH1=>?_) nl))
  ·have hp1:=hxd.carry hb
   have hr1:=hrd.carry hb;clear q0 q1 q2 q3 q4 q5 q6 q7 qf hxd hrd;obtain⟨q0,q1,q2,q3,q4,q5,q6,q7,qf⟩:=id hp1;refine ry [3] (vl 3 hH1 (fun hH2=>?_) nl);refine cl 4 (HAD.out _) (fun _ hb=>hH2.next hb) (fun y2 hb2 hH3=>?_);have hp2:=hp1.carry hb2;have hr2:=hr1.carry hb2
   (try clear q0 q1 q2 q3 q4 q5 q6 q7 qf)
   obtain⟨q0,q1,q2,q3,q4,q5,q6,q7,qf⟩:=id hp2;refine tk 5 ?_;refine tk 6 ?_;refine tk 7 ?_;refine tk 8 ?_;have hp3:=hp2.putA X.1 X.2.1;refine ry [9] (vl 9 (hH3.putAt hp3) (fun hH4=>?_) nl);refine tk 10 ?_;refine dn ?_;have HR4:=lh ((hr2.far hH3.ne (j:=2) (.int .i64 X.1)).far hH3.ne (j:=3) (.int .i64 X.2.1));have HBW:=lh hH4.h.old;clear q0 q1 q2 q3 q4 q5 q6 q7 qf hp2 hr2 hH3 hH2 hH1 hHeld hp1 hr1;obtain⟨W5,hW5⟩:=nm ((y2.setCell ⟨B,2,none⟩ (.int .i64 X.1)).setCell ⟨B,3,none⟩ (.int .i64 X.2.1));rw[hW5]at HR4 HBW hp3;simp only[hW5];clear hW5 hH4;obtain⟨q0,q1,q2,q3,q4,q5,q6,q7,qf⟩:=hp3;obtain⟨r0,r1,r2,r3,r4,r5,r6,r7,rf⟩:=HR4.out
   go_wp2_with fail
   have hlo:=HCB.out;show bodyPost _ _ _ Exit.ret _ (Ak W5 C 0 [.int .i64 Y.1,.int .i64 Y.2.1,.int .i64 X.1,.int .i64 X.2.1,.int .i64 (-x.b0),.int .i64 x.b1,.int .i64 (-x.c0),.int .i64 x.c1]);have hq:(Ak W5 C 0 [.int .i64 Y.1,.int .i64 Y.2.1,.int .i64 X.1,.int .i64 X.2.1,.int .i64 (-x.b0),.int .i64 x.b1,.int .i64 (-x.c0),.int .i64 x.c1]).cell? ⟨C,0,none⟩=some (.int .i64 Y.1)∧(Ak W5 C 0 [.int .i64 Y.1,.int .i64 Y.2.1,.int .i64 X.1,.int .i64 X.2.1,.int .i64 (-x.b0),.int .i64 x.b1,.int .i64 (-x.c0),.int .i64 x.c1]).cell? ⟨C,1,none⟩=some (.int .i64 Y.2.1)∧(Ak W5 C 0 [.int .i64 Y.1,.int .i64 Y.2.1,.int .i64 X.1,.int .i64 X.2.1,.int .i64 (-x.b0),.int .i64 x.b1,.int .i64 (-x.c0),.int .i64 x.c1]).cell? ⟨C,2,none⟩=some (.int .i64 X.1)∧(Ak W5 C 0 [.int .i64 Y.1,.int .i64 Y.2.1,.int .i64 X.1,.int .i64 X.2.1,.int .i64 (-x.b0),.int .i64 x.b1,.int .i64 (-x.c0),.int .i64 x.c1]).cell? ⟨C,3,none⟩=some (.int .i64 X.2.1)∧(Ak W5 C 0 [.int .i64 Y.1,.int .i64 Y.2.1,.int .i64 X.1,.int .i64 X.2.1,.int .i64 (-x.b0),.int .i64 x.b1,.int .i64 (-x.c0),.int .i64 x.c1]).cell? ⟨C,4,none⟩=some (.int .i64 (-x.b0))∧(Ak W5 C 0 [.int .i64 Y.1,.int .i64 Y.2.1,.int .i64 X.1,.int .i64 X.2.1,.int .i64 (-x.b0),.int .i64 x.b1,.int .i64 (-x.c0),.int .i64 x.c1]).cell? ⟨C,5,none⟩=some (.int .i64 x.b1)∧(Ak W5 C 0 [.int .i64 Y.1,.int .i64 Y.2.1,.int .i64 X.1,.int .i64 X.2.1,.int .i64 (-x.b0),.int .i64 x.b1,.int .i64 (-x.c0),.int .i64 x.c1]).cell? ⟨C,6,none⟩=some (.int .i64 (-x.c0))∧(Ak W5 C 0 [.int .i64 Y.1,.int .i64 Y.2.1,.int .i64 X.1,.int .i64 X.2.1,.int .i64 (-x.b0),.int .i64 x.b1,.int .i64 (-x.c0),.int .i64 x.c1]).cell? ⟨C,7,none⟩=some (.int .i64 x.c1):=Qc ⟨Y.1,Y.2.1,X.1,X.2.1,-x.b0,x.b1,-x.c0,x.c1⟩ HR4.out;have hbb:=Dl (m:=w.heap.size) (b:=C) (W:=w) [.int .i64 Y.1,.int .i64 Y.2.1,.int .i64 X.1,.int .i64 X.2.1,.int .i64 (-x.b0),.int .i64 x.b1,.int .i64 (-x.c0),.int .i64 x.c1] W5 0 HBW.out (by have:=hlo;omega);generalize Ak W5 C 0 [.int .i64 Y.1,.int .i64 Y.2.1,.int .i64 X.1,.int .i64 X.2.1,.int .i64 (-x.b0),.int .i64 x.b1,.int .i64 (-x.c0),.int .i64 x.c1]=WF at *;obtain⟨g0,g1,g2,g3,g4,g5,g6,g7⟩:=hq;refine bodyPost_ret (v:=.tuple #[.agg #[.int .i64 Y.1,.int .i64 Y.2.1,.int .i64 X.1,.int .i64 X.2.1,.int .i64 (-x.b0),.int .i64 x.b1,.int .i64 (-x.c0),.int .i64 x.c1],.int .i64 X.2.2]) (by simp[results,Tryz.results81,go_sem,g0,g1,g2,g3,g4,g5,g6,g7]) rfl ⟨by first | (rw[HRR.out];done) | (rw[HRR.out];rfl),hbb⟩
  ·clear q0 q1 q2 q3 q4 q5 q6 q7 qf
   refine ry [1] (rc 1 (Gt z _) (fun _ hb=>hH1.next hb) (fun y1 hb hH2=>?_) nl);have hp1:=hxd.carry hb;have hr1:=hrd.carry hb;refine cl 4 (HAD.out _) (fun _ hb=>hH2.next hb) (fun y2 hb2 hH3=>?_);have hp2:=hp1.carry hb2;have hr2:=hr1.carry hb2
   (try clear q0 q1 q2 q3 q4 q5 q6 q7 qf)
   obtain⟨q0,q1,q2,q3,q4,q5,q6,q7,qf⟩:=id hp2;refine tk 5 ?_;refine tk 6 ?_;refine tk 7 ?_;refine tk 8 ?_;have hp3:=hp2.putA X.1 X.2.1;refine ry [9] (vl 9 (hH3.putAt hp3) (fun hH4=>?_) nl);refine tk 10 ?_;refine dn ?_;have HR4:=lh ((hr2.far hH3.ne (j:=2) (.int .i64 X.1)).far hH3.ne (j:=3) (.int .i64 X.2.1));have HBW:=lh hH4.h.old;clear q0 q1 q2 q3 q4 q5 q6 q7 qf hp2 hr2 hH3 hH2 hH1 hHeld hp1 hr1;obtain⟨W5,hW5⟩:=nm ((y2.setCell ⟨B,2,none⟩ (.int .i64 X.1)).setCell ⟨B,3,none⟩ (.int .i64 X.2.1));rw[hW5]at HR4 HBW hp3;simp only[hW5];clear hW5 hH4;obtain⟨q0,q1,q2,q3,q4,q5,q6,q7,qf⟩:=hp3;obtain⟨r0,r1,r2,r3,r4,r5,r6,r7,rf⟩:=HR4.out
   go_wp2_with fail
   have hlo:=HCB.out;show bodyPost _ _ _ Exit.ret _ (Ak W5 C 0 [.int .i64 Y.1,.int .i64 Y.2.1,.int .i64 X.1,.int .i64 X.2.1,.int .i64 (-x.b0),.int .i64 x.b1,.int .i64 (-x.c0),.int .i64 x.c1]);have hq:(Ak W5 C 0 [.int .i64 Y.1,.int .i64 Y.2.1,.int .i64 X.1,.int .i64 X.2.1,.int .i64 (-x.b0),.int .i64 x.b1,.int .i64 (-x.c0),.int .i64 x.c1]).cell? ⟨C,0,none⟩=some (.int .i64 Y.1)∧(Ak W5 C 0 [.int .i64 Y.1,.int .i64 Y.2.1,.int .i64 X.1,.int .i64 X.2.1,.int .i64 (-x.b0),.int .i64 x.b1,.int .i64 (-x.c0),.int .i64 x.c1]).cell? ⟨C,1,none⟩=some (.int .i64 Y.2.1)∧(Ak W5 C 0 [.int .i64 Y.1,.int .i64 Y.2.1,.int .i64 X.1,.int .i64 X.2.1,.int .i64 (-x.b0),.int .i64 x.b1,.int .i64 (-x.c0),.int .i64 x.c1]).cell? ⟨C,2,none⟩=some (.int .i64 X.1)∧(Ak W5 C 0 [.int .i64 Y.1,.int .i64 Y.2.1,.int .i64 X.1,.int .i64 X.2.1,.int .i64 (-x.b0),.int .i64 x.b1,.int .i64 (-x.c0),.int .i64 x.c1]).cell? ⟨C,3,none⟩=some (.int .i64 X.2.1)∧(Ak W5 C 0 [.int .i64 Y.1,.int .i64 Y.2.1,.int .i64 X.1,.int .i64 X.2.1,.int .i64 (-x.b0),.int .i64 x.b1,.int .i64 (-x.c0),.int .i64 x.c1]).cell? ⟨C,4,none⟩=some (.int .i64 (-x.b0))∧(Ak W5 C 0 [.int .i64 Y.1,.int .i64 Y.2.1,.int .i64 X.1,.int .i64 X.2.1,.int .i64 (-x.b0),.int .i64 x.b1,.int .i64 (-x.c0),.int .i64 x.c1]).cell? ⟨C,5,none⟩=some (.int .i64 x.b1)∧(Ak W5 C 0 [.int .i64 Y.1,.int .i64 Y.2.1,.int .i64 X.1,.int .i64 X.2.1,.int .i64 (-x.b0),.int .i64 x.b1,.int .i64 (-x.c0),.int .i64 x.c1]).cell? ⟨C,6,none⟩=some (.int .i64 (-x.c0))∧(Ak W5 C 0 [.int .i64 Y.1,.int .i64 Y.2.1,.int .i64 X.1,.int .i64 X.2.1,.int .i64 (-x.b0),.int .i64 x.b1,.int .i64 (-x.c0),.int .i64 x.c1]).cell? ⟨C,7,none⟩=some (.int .i64 x.c1):=Qc ⟨Y.1,Y.2.1,X.1,X.2.1,-x.b0,x.b1,-x.c0,x.c1⟩ HR4.out;have hbb:=Dl (m:=w.heap.size) (b:=C) (W:=w) [.int .i64 Y.1,.int .i64 Y.2.1,.int .i64 X.1,.int .i64 X.2.1,.int .i64 (-x.b0),.int .i64 x.b1,.int .i64 (-x.c0),.int .i64 x.c1] W5 0 HBW.out (by have:=hlo;omega);generalize Ak W5 C 0 [.int .i64 Y.1,.int .i64 Y.2.1,.int .i64 X.1,.int .i64 X.2.1,.int .i64 (-x.b0),.int .i64 x.b1,.int .i64 (-x.c0),.int .i64 x.c1]=WF at *;obtain⟨g0,g1,g2,g3,g4,g5,g6,g7⟩:=hq;refine bodyPost_ret (v:=.tuple #[.agg #[.int .i64 Y.1,.int .i64 Y.2.1,.int .i64 X.1,.int .i64 X.2.1,.int .i64 (-x.b0),.int .i64 x.b1,.int .i64 (-x.c0),.int .i64 x.c1],.int .i64 X.2.2]) (by simp[results,Tryz.results81,go_sem,g0,g1,g2,g3,g4,g5,g6,g7]) rfl ⟨by first | (rw[HRR.out];done) | (rw[HRR.out];rfl),hbb⟩
 ·obtain⟨X,hX⟩:=nm (Jn z 1 (x.a0) x.a1)
  rw[hX]at HAU;have HRR:Hid (R=(⟨Y.1,Y.2.1,X.1,X.2.1,x.b0,x.b1,x.c0,x.c1⟩,X.2.2)):=lh (by rw[HP0.out,if_pos ye,←hX];rfl);clear hX ye HP0;obtain⟨x0,x1,x2,x3,x4,x5,x6,x7,xf⟩:=HX2.out
  go_upto_region 8 with (fail)
  clear x0 x1 x2 x3 x4 x5 x6 x7 xf;have hx3:=HX2.out;have hh3:=HH2.out;have hr3:=HR2.out;clear HX2 HH2 HR2;have hxd:=hx3.carry (Cm W2);have hrd:=hr3.carry (Cm W2);have hhd:=hh3.next (Cm W2);clear hx3 hh3 hr3;refine wp_region_held_drew (S:=HP w.heap.size w B C) (by kernel_rfl) hhd (fun hHeld=>?_);refine tk 0 ?_;refine tk 2 ?_;obtain⟨q0,q1,q2,q3,q4,q5,q6,q7,qf⟩:=id hxd;refine ry [1,3] (rc 1 (Gt z _) (fun _ hb=>hHeld.next hb) (fun y1 hb hH1=>?_) (vl 3 hHeld (fun hH1=>?_) nl))
  ·have hp1:=hxd.carry hb
   have hr1:=hrd.carry hb;clear q0 q1 q2 q3 q4 q5 q6 q7 qf hxd hrd;obtain⟨q0,q1,q2,q3,q4,q5,q6,q7,qf⟩:=id hp1;refine ry [3] (vl 3 hH1 (fun hH2=>?_) nl);refine cl 4 (HAU.out _) (fun _ hb=>hH2.next hb) (fun y2 hb2 hH3=>?_);have hp2:=hp1.carry hb2;have hr2:=hr1.carry hb2
   (try clear q0 q1 q2 q3 q4 q5 q6 q7 qf)
   obtain⟨q0,q1,q2,q3,q4,q5,q6,q7,qf⟩:=id hp2;refine tk 5 ?_;refine tk 6 ?_;refine tk 7 ?_;refine tk 8 ?_;have hp3:=hp2.putA X.1 X.2.1;refine ry [9] (vl 9 (hH3.putAt hp3) (fun hH4=>?_) nl);refine tk 10 ?_;refine dn ?_;have HR4:=lh ((hr2.far hH3.ne (j:=2) (.int .i64 X.1)).far hH3.ne (j:=3) (.int .i64 X.2.1));have HBW:=lh hH4.h.old;clear q0 q1 q2 q3 q4 q5 q6 q7 qf hp2 hr2 hH3 hH2 hH1 hHeld hp1 hr1;obtain⟨W5,hW5⟩:=nm ((y2.setCell ⟨B,2,none⟩ (.int .i64 X.1)).setCell ⟨B,3,none⟩ (.int .i64 X.2.1));rw[hW5]at HR4 HBW hp3;simp only[hW5];clear hW5 hH4;obtain⟨q0,q1,q2,q3,q4,q5,q6,q7,qf⟩:=hp3;obtain⟨r0,r1,r2,r3,r4,r5,r6,r7,rf⟩:=HR4.out
   go_wp2_with fail
   have hlo:=HCB.out;show bodyPost _ _ _ Exit.ret _ (Ak W5 C 0 [.int .i64 Y.1,.int .i64 Y.2.1,.int .i64 X.1,.int .i64 X.2.1,.int .i64 x.b0,.int .i64 x.b1,.int .i64 x.c0,.int .i64 x.c1]);have hq:(Ak W5 C 0 [.int .i64 Y.1,.int .i64 Y.2.1,.int .i64 X.1,.int .i64 X.2.1,.int .i64 x.b0,.int .i64 x.b1,.int .i64 x.c0,.int .i64 x.c1]).cell? ⟨C,0,none⟩=some (.int .i64 Y.1)∧(Ak W5 C 0 [.int .i64 Y.1,.int .i64 Y.2.1,.int .i64 X.1,.int .i64 X.2.1,.int .i64 x.b0,.int .i64 x.b1,.int .i64 x.c0,.int .i64 x.c1]).cell? ⟨C,1,none⟩=some (.int .i64 Y.2.1)∧(Ak W5 C 0 [.int .i64 Y.1,.int .i64 Y.2.1,.int .i64 X.1,.int .i64 X.2.1,.int .i64 x.b0,.int .i64 x.b1,.int .i64 x.c0,.int .i64 x.c1]).cell? ⟨C,2,none⟩=some (.int .i64 X.1)∧(Ak W5 C 0 [.int .i64 Y.1,.int .i64 Y.2.1,.int .i64 X.1,.int .i64 X.2.1,.int .i64 x.b0,.int .i64 x.b1,.int .i64 x.c0,.int .i64 x.c1]).cell? ⟨C,3,none⟩=some (.int .i64 X.2.1)∧(Ak W5 C 0 [.int .i64 Y.1,.int .i64 Y.2.1,.int .i64 X.1,.int .i64 X.2.1,.int .i64 x.b0,.int .i64 x.b1,.int .i64 x.c0,.int .i64 x.c1]).cell? ⟨C,4,none⟩=some (.int .i64 x.b0)∧(Ak W5 C 0 [.int .i64 Y.1,.int .i64 Y.2.1,.int .i64 X.1,.int .i64 X.2.1,.int .i64 x.b0,.int .i64 x.b1,.int .i64 x.c0,.int .i64 x.c1]).cell? ⟨C,5,none⟩=some (.int .i64 x.b1)∧(Ak W5 C 0 [.int .i64 Y.1,.int .i64 Y.2.1,.int .i64 X.1,.int .i64 X.2.1,.int .i64 x.b0,.int .i64 x.b1,.int .i64 x.c0,.int .i64 x.c1]).cell? ⟨C,6,none⟩=some (.int .i64 x.c0)∧(Ak W5 C 0 [.int .i64 Y.1,.int .i64 Y.2.1,.int .i64 X.1,.int .i64 X.2.1,.int .i64 x.b0,.int .i64 x.b1,.int .i64 x.c0,.int .i64 x.c1]).cell? ⟨C,7,none⟩=some (.int .i64 x.c1):=Qc ⟨Y.1,Y.2.1,X.1,X.2.1,x.b0,x.b1,x.c0,x.c1⟩ HR4.out;have hbb:=Dl (m:=w.heap.size) (b:=C) (W:=w) [.int .i64 Y.1,.int .i64 Y.2.1,.int .i64 X.1,.int .i64 X.2.1,.int .i64 x.b0,.int .i64 x.b1,.int .i64 x.c0,.int .i64 x.c1] W5 0 HBW.out (by have:=hlo;omega);generalize Ak W5 C 0 [.int .i64 Y.1,.int .i64 Y.2.1,.int .i64 X.1,.int .i64 X.2.1,.int .i64 x.b0,.int .i64 x.b1,.int .i64 x.c0,.int .i64 x.c1]=WF at *;obtain⟨g0,g1,g2,g3,g4,g5,g6,g7⟩:=hq;refine bodyPost_ret (v:=.tuple #[.agg #[.int .i64 Y.1,.int .i64 Y.2.1,.int .i64 X.1,.int .i64 X.2.1,.int .i64 x.b0,.int .i64 x.b1,.int .i64 x.c0,.int .i64 x.c1],.int .i64 X.2.2]) (by simp[results,Tryz.results81,go_sem,g0,g1,g2,g3,g4,g5,g6,g7]) rfl ⟨by first | (rw[HRR.out];done) | (rw[HRR.out];rfl),hbb⟩
  ·clear q0 q1 q2 q3 q4 q5 q6 q7 qf
   refine ry [1] (rc 1 (Gt z _) (fun _ hb=>hH1.next hb) (fun y1 hb hH2=>?_) nl);have hp1:=hxd.carry hb;have hr1:=hrd.carry hb;refine cl 4 (HAU.out _) (fun _ hb=>hH2.next hb) (fun y2 hb2 hH3=>?_);have hp2:=hp1.carry hb2;have hr2:=hr1.carry hb2
   (try clear q0 q1 q2 q3 q4 q5 q6 q7 qf)
   obtain⟨q0,q1,q2,q3,q4,q5,q6,q7,qf⟩:=id hp2;refine tk 5 ?_;refine tk 6 ?_;refine tk 7 ?_;refine tk 8 ?_;have hp3:=hp2.putA X.1 X.2.1;refine ry [9] (vl 9 (hH3.putAt hp3) (fun hH4=>?_) nl);refine tk 10 ?_;refine dn ?_;have HR4:=lh ((hr2.far hH3.ne (j:=2) (.int .i64 X.1)).far hH3.ne (j:=3) (.int .i64 X.2.1));have HBW:=lh hH4.h.old;clear q0 q1 q2 q3 q4 q5 q6 q7 qf hp2 hr2 hH3 hH2 hH1 hHeld hp1 hr1;obtain⟨W5,hW5⟩:=nm ((y2.setCell ⟨B,2,none⟩ (.int .i64 X.1)).setCell ⟨B,3,none⟩ (.int .i64 X.2.1));rw[hW5]at HR4 HBW hp3;simp only[hW5];clear hW5 hH4;obtain⟨q0,q1,q2,q3,q4,q5,q6,q7,qf⟩:=hp3;obtain⟨r0,r1,r2,r3,r4,r5,r6,r7,rf⟩:=HR4.out
   go_wp2_with fail
   have hlo:=HCB.out;show bodyPost _ _ _ Exit.ret _ (Ak W5 C 0 [.int .i64 Y.1,.int .i64 Y.2.1,.int .i64 X.1,.int .i64 X.2.1,.int .i64 x.b0,.int .i64 x.b1,.int .i64 x.c0,.int .i64 x.c1]);have hq:(Ak W5 C 0 [.int .i64 Y.1,.int .i64 Y.2.1,.int .i64 X.1,.int .i64 X.2.1,.int .i64 x.b0,.int .i64 x.b1,.int .i64 x.c0,.int .i64 x.c1]).cell? ⟨C,0,none⟩=some (.int .i64 Y.1)∧(Ak W5 C 0 [.int .i64 Y.1,.int .i64 Y.2.1,.int .i64 X.1,.int .i64 X.2.1,.int .i64 x.b0,.int .i64 x.b1,.int .i64 x.c0,.int .i64 x.c1]).cell? ⟨C,1,none⟩=some (.int .i64 Y.2.1)∧(Ak W5 C 0 [.int .i64 Y.1,.int .i64 Y.2.1,.int .i64 X.1,.int .i64 X.2.1,.int .i64 x.b0,.int .i64 x.b1,.int .i64 x.c0,.int .i64 x.c1]).cell? ⟨C,2,none⟩=some (.int .i64 X.1)∧(Ak W5 C 0 [.int .i64 Y.1,.int .i64 Y.2.1,.int .i64 X.1,.int .i64 X.2.1,.int .i64 x.b0,.int .i64 x.b1,.int .i64 x.c0,.int .i64 x.c1]).cell? ⟨C,3,none⟩=some (.int .i64 X.2.1)∧(Ak W5 C 0 [.int .i64 Y.1,.int .i64 Y.2.1,.int .i64 X.1,.int .i64 X.2.1,.int .i64 x.b0,.int .i64 x.b1,.int .i64 x.c0,.int .i64 x.c1]).cell? ⟨C,4,none⟩=some (.int .i64 x.b0)∧(Ak W5 C 0 [.int .i64 Y.1,.int .i64 Y.2.1,.int .i64 X.1,.int .i64 X.2.1,.int .i64 x.b0,.int .i64 x.b1,.int .i64 x.c0,.int .i64 x.c1]).cell? ⟨C,5,none⟩=some (.int .i64 x.b1)∧(Ak W5 C 0 [.int .i64 Y.1,.int .i64 Y.2.1,.int .i64 X.1,.int .i64 X.2.1,.int .i64 x.b0,.int .i64 x.b1,.int .i64 x.c0,.int .i64 x.c1]).cell? ⟨C,6,none⟩=some (.int .i64 x.c0)∧(Ak W5 C 0 [.int .i64 Y.1,.int .i64 Y.2.1,.int .i64 X.1,.int .i64 X.2.1,.int .i64 x.b0,.int .i64 x.b1,.int .i64 x.c0,.int .i64 x.c1]).cell? ⟨C,7,none⟩=some (.int .i64 x.c1):=Qc ⟨Y.1,Y.2.1,X.1,X.2.1,x.b0,x.b1,x.c0,x.c1⟩ HR4.out;have hbb:=Dl (m:=w.heap.size) (b:=C) (W:=w) [.int .i64 Y.1,.int .i64 Y.2.1,.int .i64 X.1,.int .i64 X.2.1,.int .i64 x.b0,.int .i64 x.b1,.int .i64 x.c0,.int .i64 x.c1] W5 0 HBW.out (by have:=hlo;omega);generalize Ak W5 C 0 [.int .i64 Y.1,.int .i64 Y.2.1,.int .i64 X.1,.int .i64 X.2.1,.int .i64 x.b0,.int .i64 x.b1,.int .i64 x.c0,.int .i64 x.c1]=WF at *;obtain⟨g0,g1,g2,g3,g4,g5,g6,g7⟩:=hq;refine bodyPost_ret (v:=.tuple #[.agg #[.int .i64 Y.1,.int .i64 Y.2.1,.int .i64 X.1,.int .i64 X.2.1,.int .i64 x.b0,.int .i64 x.b1,.int .i64 x.c0,.int .i64 x.c1],.int .i64 X.2.2]) (by simp[results,Tryz.results81,go_sem,g0,g1,g2,g3,g4,g5,g6,g7]) rfl ⟨by first | (rw[HRR.out];done) | (rw[HRR.out];rfl),hbb⟩
theorem AHn(args:Array Value)(w:World):(callFunc 118 args).run Tryz.prog w=.ok (.enter 118 args) w:=enters_of Tryz.func118 (by kernel_rfl) rfl args w
theorem ACa{w:World}{b:Nat}{s:ByteArray}(h:w.cell? ⟨b,0,none⟩=some (.string s)):Vp 118 #[.pointer (some ⟨b,0,none⟩)] w.heap.size w (fun y=>decide (y.name=s)):=by
 intro W x hb;have hlt:=wl h;have h':=(ct hb h hlt);have hlt':b<W.heap.size:=wl h';show Calls _ _ #[.agg #[.string x.name,.int .i64 x.to,.int .i64 x.spd,.int .i64 x.rise,.int .i64 x.fall],.pointer (some ⟨b,0,none⟩)] _ _;clear h hb hlt
 go_enter Tryz.func118,Tryz.ntmps118
 go_wp2_with fail
 go_ret;exact⟨Ab (Dj _ _),Aa _ _⟩
theorem Vo(x:Mv){w:World}{b:Nat}(h:∀i,i<5→(w.cell? ⟨b,i,none⟩).isSome=true):Jx (Ak w b 0 [.string x.name,.int .i64 x.to,.int .i64 x.spd,.int .i64 x.rise,.int .i64 x.fall]) b x:=by
 have r:=Po ([.string x.name,.int .i64 x.to,.int .i64 x.spd,.int .i64 x.rise,.int .i64 x.fall]:List Value) w b 0 (fun i hi=>by rw[Nat.zero_add];exact h i hi);simp only[Nat.zero_add]at r;exact⟨r 0 (by simp),r 1 (by simp),r 2 (by simp),r 3 (by simp),r 4 (by simp)⟩
structure ZMv(w:World)(b:Nat):Prop where
 c:w.cell? ⟨b,0,none⟩=some (.string ⟨#[]⟩)∧w.cell? ⟨b,1,none⟩=some (.int .i64 0)∧w.cell? ⟨b,2,none⟩=some (.int .i64 0)∧w.cell? ⟨b,3,none⟩=some (.int .i64 0)∧w.cell? ⟨b,4,none⟩=some (.int .i64 0)
 free:∀i,w.frozen? ⟨b,i,none⟩=false
theorem ZMv.lt{w:World}{b:Nat}(z:ZMv w b):b<w.heap.size:=wl z.c.1
theorem ZMv.some{w:World}{b:Nat}(z:ZMv w b):∀i,i<5→(w.cell? ⟨b,i,none⟩).isSome=true:=by
 obtain⟨c0,c1,c2,c3,c4⟩:=z.c;intro i hi;obtain rfl | rfl | rfl | rfl | rfl:i=0∨i=1∨i=2∨i=3∨i=4:=by omega
 ·rw[c0];rfl
 ·rw[c1];rfl
 ·rw[c2];rfl
 ·rw[c3];rfl
 ·rw[c4];rfl
theorem ZMv.carry{w w':World}{b:Nat}(z:ZMv w b)(h:Below w.heap.size w w'):ZMv w' b:=by
 have hl:=z.lt;obtain⟨c0,c1,c2,c3,c4⟩:=z.c;exact⟨⟨ct h c0 hl,ct h c1 hl,ct h c2 hl,ct h c3 hl,ct h c4 hl⟩,fun i=>(h.frozen (p:=⟨b,i,none⟩) hl).trans (z.free i)⟩
theorem ZMv.new(w:World):ZMv (w.alloc (.cells #[.string ⟨#[]⟩,.int .i64 0,.int .i64 0,.int .i64 0,.int .i64 0] 94)) w.heap.size:=⟨by simp,fun i=>by simp⟩
theorem Xw(q:An)(s:ByteArray)(w:World)(hm:Ei w.heap.size w q.ma q.moves)(hl:q.moves.length≤1000)(_:q.moves.length≤q.mc):
  Calls Tryz.prog 79 #[.agg #[.string q.name,.string q.after,.int .i64 q.link,.int .i64 q.delay,.slice q.ma q.moves.length q.mc,.int .i64 q.crew,.int .i64 q.power],.string s] w fun e w'=>e=.returned (.tuple #[.agg #[.string (Oo q.moves s).name,.int .i64 (Oo q.moves s).to,.int .i64 (Oo q.moves s).spd,.int .i64 (Oo q.moves s).rise,.int .i64 (Oo q.moves s).fall],.bool (mvB q.moves s)])∧Below w.heap.size w w':=by
 have hb:Below w.heap.size w (((w.alloc (Eu q)).alloc (.cells #[.string s] 9)).alloc (.cells #[.string ⟨#[]⟩,.int .i64 0,.int .i64 0,.int .i64 0,.int .i64 0] 94)):=((Aa w _).alloc (by simp) _).alloc (by simp;omega) _;have hq:=((Cx.new w q 86 _ rfl).carry (Aa _ (.cells #[.string s] 9))).carry (Aa _ (.cells #[.string ⟨#[]⟩,.int .i64 0,.int .i64 0,.int .i64 0,.int .i64 0] 94));have hs1:((w.alloc (Eu q)).alloc (.cells #[.string s] 9)).cell? ⟨w.heap.size+1,0,none⟩=some (.string s):=by simp
 have hs:=((Aa ((w.alloc (Eu q)).alloc (.cells #[.string s] 9)) (.cells #[.string ⟨#[]⟩,.int .i64 0,.int .i64 0,.int .i64 0,.int .i64 0] 94)).cell (p:=⟨w.heap.size+1,0,none⟩) (wl hs1)).trans hs1;have hz:=ZMv.new ((w.alloc (Eu q)).alloc (.cells #[.string s] 9));rw[show((w.alloc (Eu q)).alloc (.cells #[.string s] 9)).heap.size=w.heap.size+1+1 by simp]at hz;clear hs1;obtain⟨W0,hW0⟩:=nm ((((w.alloc (Eu q)).alloc (.cells #[.string s] 9)).alloc (.cells #[.string ⟨#[]⟩,.int .i64 0,.int .i64 0,.int .i64 0,.int .i64 0] 94)));rw[hW0]at hb hq hs hz;have HIX:=lh (Qj q.ma q.moves q.mc _ _ _ (fun y=>decide (y.name=s)) W0 AHn (by omega) nr (hm.grow hb) (ACa hs));have HX:Hid (∀w',Below W0.heap.size W0 w'→Cx w' w.heap.size q∧Ei w'.heap.size w' q.ma q.moves∧ZMv w' (w.heap.size+1+1)∧Below w.heap.size w w'):=lh fun w' z=>⟨hq.carry z,(hm.grow hb).grow z,hz.carry z,hb.trans (z.mono hb.size)⟩;have hr:=Jy q.moves (fun y=>decide (y.name=s));clear hb hq hs hz hm;obtain⟨B,hB⟩:=nm (w.heap.size+1+1);have HBL:Hid (w.heap.size≤B):=lh (by omega);rw[hB]at HX;rcases hr with ⟨hr,-⟩ | ⟨k,hk,hr,-,-⟩
 ·have HM:=lh (ASx (show mvI q.moves s=-1 from hr))
  rw[hr]at HIX;rw[HM.out.1,HM.out.2];clear hr
  go_enter Tryz.func79,Tryz.ntmps79
  go_upto_region 1 with (fail)
  try simp only[hW0]
  clear hW0
  try simp only[hB]
  clear hB;obtain⟨⟨q0,q1,q2,q3,q4,q5,q6⟩,-⟩:=HX.out _ br
  go_upto_region 3 with (go_at_call 117;go_fit HIX.out;rintro e w1 ⟨rfl,hb1⟩)
  clear q0 q1 q2 q3 q4 q5 q6;obtain⟨⟨q0,q1,q2,q3,q4,q5,q6⟩,hmv,hz,hw1⟩:=HX.out _ hb1;have hzz:=hz.some;obtain⟨⟨z0,z1,z2,z3,z4⟩,hff⟩:=hz
  go_wp2_with fail
  show bodyPost _ _ _ Exit.ret _ (Ak w1 B 0 [.string ⟨#[]⟩,.int .i64 0,.int .i64 0,.int .i64 0,.int .i64 0]);have hf:=Vo zMv hzz;have hbb:=Dl (m:=w.heap.size) (b:=B) (W:=w) [.string ⟨#[]⟩,.int .i64 0,.int .i64 0,.int .i64 0,.int .i64 0] w1 0 hw1 HBL.out
  try dsimp only[zMv]at hf hbb
  generalize Ak w1 B 0 [.string ⟨#[]⟩,.int .i64 0,.int .i64 0,.int .i64 0,.int .i64 0]=WF at *;obtain⟨f0,f1,f2,f3,f4⟩:=hf
  try dsimp only[zMv]at f0 f1 f2 f3 f4
  refine bodyPost_ret (v:=.tuple #[.agg #[.string ⟨#[]⟩,.int .i64 0,.int .i64 0,.int .i64 0,.int .i64 0],.bool false]) (by simp[results,Tryz.results79,go_sem,f0,f1,f2,f3,f4]) rfl ⟨rfl,hbb⟩
 ·have HM:=lh (AOs (show mvI q.moves s=(k:Int)from hr))
  rw[hr]at HIX;rw[HM.out.1,HM.out.2];have i0:0≤(k:Int):=by omega
  have i1:(k:Int)<(q.moves.length:Int):=by omega
  clear hr
  go_enter Tryz.func79,Tryz.ntmps79
  go_upto_region 1 with (fail)
  try simp only[hW0]
  clear hW0
  try simp only[hB]
  clear hB;obtain⟨⟨q0,q1,q2,q3,q4,q5,q6⟩,-⟩:=HX.out _ br
  go_upto_region 4 with (go_at_call 117;go_fit HIX.out;rintro e w1 ⟨rfl,hb1⟩)
  clear q0 q1 q2 q3 q4 q5 q6;obtain⟨⟨q0,q1,q2,q3,q4,q5,q6⟩,hmv,hz,hw1⟩:=HX.out _ hb1;have hzz:=hz.some;obtain⟨⟨z0,z1,z2,z3,z4⟩,hff⟩:=hz;obtain⟨bm,off,hma,hbm,hcm⟩:=hmv (by omega);obtain⟨c0,c1,c2,c3,c4⟩:=hcm k hk;rw[hma]at q4;clear hcm hmv
  go_wp2_with fail
  show bodyPost _ _ _ Exit.ret _ (Ak w1 B 0 [.string (mg q.moves k).name,.int .i64 (mg q.moves k).to,.int .i64 (mg q.moves k).spd,.int .i64 (mg q.moves k).rise,.int .i64 (mg q.moves k).fall]);have hf:=Vo (mg q.moves k) hzz;have hbb:=Dl (m:=w.heap.size) (b:=B) (W:=w) [.string (mg q.moves k).name,.int .i64 (mg q.moves k).to,.int .i64 (mg q.moves k).spd,.int .i64 (mg q.moves k).rise,.int .i64 (mg q.moves k).fall] w1 0 hw1 HBL.out
  try dsimp only[zMv]at hf hbb
  generalize Ak w1 B 0 [.string (mg q.moves k).name,.int .i64 (mg q.moves k).to,.int .i64 (mg q.moves k).spd,.int .i64 (mg q.moves k).rise,.int .i64 (mg q.moves k).fall]=WF at *;obtain⟨f0,f1,f2,f3,f4⟩:=hf
  try dsimp only[zMv]at f0 f1 f2 f3 f4
  refine bodyPost_ret (v:=.tuple #[.agg #[.string (mg q.moves k).name,.int .i64 (mg q.moves k).to,.int .i64 (mg q.moves k).spd,.int .i64 (mg q.moves k).rise,.int .i64 (mg q.moves k).fall],.bool true]) (by simp[results,Tryz.results79,go_sem,f0,f1,f2,f3,f4]) rfl ⟨rfl,hbb⟩
theorem AVa{w:World}{s:Aq}(ta:Option Addr)(tn tc:Nat){sa na:Option Addr}{S N:List Int}(sc nc:Nat)(hs:Bg w s)(hS:Bl w.heap.size w sa S)(hN:Bl w.heap.size w na N):
  ∃W0,((w.alloc (.cells #[.slice ta tn tc,.slice sa S.length sc,.slice na N.length nc] 109)).alloc (Uo s))=W0∧Hid (∀w',Below W0.heap.size W0 w'→PC w' w.heap.size (.slice ta tn tc) (.slice sa S.length sc) (.slice na N.length nc)∧Bo w' (w.heap.size+1) s∧Bg w' s∧Bl w'.heap.size w' sa S∧Bl w'.heap.size w' na N∧Below w.heap.size w w'):=by
 have hb:Below w.heap.size w ((w.alloc (.cells #[.slice ta tn tc,.slice sa S.length sc,.slice na N.length nc] 109)).alloc (Uo s)):=(Aa w _).alloc (by simp) _;have hS':Bo ((w.alloc (.cells #[.slice ta tn tc,.slice sa S.length sc,.slice na N.length nc] 109)).alloc (Uo s)) (w.heap.size+1) s:=by unfold Bo;simp
 exact⟨_,rfl,lh fun w' z=>⟨((PC.put w (.slice ta tn tc) (.slice sa S.length sc) (.slice na N.length nc) 109).carry (Aa _ _)).carry z,hS'.carry z,(hs.grow hb).grow z,(hS.grow hb).grow z,(hN.grow hb).grow z,hb.trans (z.mono hb.size)⟩⟩
theorem Sb(s:Aq)(ta:Option Addr)(tn tc:Nat)(sa na:Option Addr)(S N:List Int)(sc nc:Nat)(w:World)(hs:Bg w s)(hS:Bl w.heap.size w sa S)(hN:Bl w.heap.size w na N)(hSl:S.length=s.cues.length)(hNl:N.length=s.cues.length)
  (hb1:∀i,i<s.cues.length→0≤ig S i∧ig S i≤4611686018427387903) (hb2:∀i,i<s.cues.length→0≤ig N i∧ig N i≤4611686018427387903):
  Calls Tryz.prog 47 #[.agg #[.slice ta tn tc,.slice sa S.length sc,.slice na N.length nc],.agg #[.slice s.ca s.cues.length s.cc,.slice s.pa s.pairs.length s.pc]] w fun e w'=>e=.returned (.bool (Nu s.cues S N))∧Below w.heap.size w w':=by
 have hcl:=hs.clen;have hcc:s.cues.length≤s.cc:=hs.ccap;have HML:=lh hs.mlen;have HCP:=lh hs.mcap;have HB1:=lh hb1;have HB2:=lh hb2;have HSL:=lh hSl;have HNL:=lh hNl;obtain⟨W0,hW0,HX⟩:=AVa (s:=s) ta tn tc sc nc hs hS hN;have HMI:Hid (∀i,i<s.cues.length→∀w',Below W0.heap.size W0 w'→Ei w'.heap.size w' (cg s.cues i).ma (cg s.cues i).moves):=lh fun i hi w' z=>(HX.out w' z).2.2.1.each i hi;have HNO:Hid (¬Tf s.cues S N→Nu s.cues S N=false):=lh fun n=>AQu n;have HYE:Hid (Tf s.cues S N→Nu s.cues S N=true):=lh fun n=>Ti.2 n;obtain⟨ca,hca⟩:=nm (s.ca);have HCA:=lh hca;clear hs hS hN hSl hNl hb1 hb2 hca
 go_enter Tryz.func47,Tryz.ntmps47
 go_upto_region 1 with (fail)
 try simp only[hW0]
 clear hW0;obtain⟨⟨p0,p1,p2,p3,p4,p5,p6⟩,⟨s0,s1⟩,-,-,-,-⟩:=HX.out _ br;rw[HCA.out]at s0
 go_upto_region 2 with (fail)
 clear p0 p1 p2 p3 p4 p5 p6 s0 s1
 go_loopw [16] (fun iv wr=>∃i:Nat,iv=.int .i64 i∧i≤s.cues.length∧Below W0.heap.size W0 wr∧Hid (∀i',i'<i→∀k,k<i'→∀j,j<(cg s.cues i').moves.length→Pg s.cues S N i' k j)) (fun iv _=>s.cues.length-(intOf iv).toNat)
 case atStart=>exact⟨0,rfl,nz,br,lh fun _ z=>absurd z (Nat.not_lt_zero _)⟩
 case round=>
  obtain⟨i,rfl,hi,hB,HA⟩:=hrel;obtain⟨wi,rfl⟩:∃wo:World,wo=wr:=⟨_,rfl⟩
  by_cases hlt:i<s.cues.length
  case neg=>
   obtain rfl:i=s.cues.length:=by omega
   go_wp2_with fail
   go_ret;exact⟨Ab (HYE.out HA.out).symm,(HX.out _ hB).2.2.2.2.2⟩
  obtain⟨xb,xo,hxa,hxb,hxc⟩:=(HX.out _ hB).2.2.1.lies (by omega);rw[HCA.out]at hxa;subst hxa;obtain⟨c0,c1,c2,c3,c4,c5,c6⟩:=hxc i hlt;obtain⟨q,hq⟩:=nm (cg s.cues i);rw[hq]at c0 c1 c2 c3 c4 c5 c6;have HQ:=lh hq;have i0:0≤(i:Int):=by omega
  have i1:(i:Int)<(s.cues.length:Int):=by omega
  have i2:(i:Int)≤(s.cc:Int):=by omega
  have iw:IntKind.i64.wrap ((i:Int)+1)=(i:Int)+1:=IntWalk.i64_in _ (by omega);have HXC:Hid (∀k,k<s.cues.length→wi.cell? ⟨xb,xo+k*7,none⟩=some (.string (cg s.cues k).name)∧wi.cell? ⟨xb,xo+k*7+1,none⟩=some (.string (cg s.cues k).after)∧wi.cell? ⟨xb,xo+k*7+2,none⟩=some (.int .i64 (cg s.cues k).link)∧wi.cell? ⟨xb,xo+k*7+3,none⟩=some (.int .i64 (cg s.cues k).delay)∧wi.cell? ⟨xb,xo+k*7+4,none⟩=some (.slice (cg s.cues k).ma (cg s.cues k).moves.length (cg s.cues k).mc)∧wi.cell? ⟨xb,xo+k*7+5,none⟩=some (.int .i64 (cg s.cues k).crew)∧wi.cell? ⟨xb,xo+k*7+6,none⟩=some (.int .i64 (cg s.cues k).power)):=lh hxc;have HXB:=lh hxb;obtain⟨-,⟨s0,s1⟩,-⟩:=HX.out _ hB;rw[HCA.out]at s0;have zs:w.heap.size+1<wi.heap.size:=wl s0;have hbn:=Aa wi (Eu q);have hqn:=Cx.new wi q 86 _ rfl;clear hq hxc
  go_upto_region 5 with (fail)
  clear c0 c1 c2 c3 c4 c5 c6 s0 s1 zs;obtain⟨Bq,hBq⟩:=nm (wi.heap.size);obtain⟨Wq,hWq⟩:=nm (wi.alloc (Eu q));rw[hWq]at hbn hqn;simp only[hWq];rw[hBq]at hqn;simp only[hBq];have HBQ:Hid (Below W0.heap.size W0 Wq):=lh (hB.trans (by rw[←hBq]at *;exact hbn.mono hB.size));have HBW:Hid (Below wi.heap.size wi Wq):=lh hbn;have HQA:Hid (∀w',Below Wq.heap.size Wq w'→Cx w' Bq q):=lh fun w' z=>hqn.carry z;clear hWq hBq hbn hqn hB
  go_loopw [26] (fun kv wk=>∃k:Nat,kv=.int .i64 k∧k≤i∧Below Wq.heap.size Wq wk∧Hid (∀k',k'<k→∀j,j<q.moves.length→Pg s.cues S N i k' j)) (fun kv _=>i-(intOf kv).toNat)
  case atStart=>exact⟨0,rfl,nz,br,lh fun _ z=>absurd z (Nat.not_lt_zero _)⟩
  case round=>
   obtain⟨k,rfl,hk,hB2,HA2⟩:=hrel;obtain⟨wk,rfl⟩:∃wo:World,wo=wr:=⟨_,rfl⟩
   by_cases hlk:k<i
   case neg=>
    obtain rfl:k=i:=by omega
    go_wp2_with fail
    go_roundw
    case rel=>exact⟨k+1,by go_num,by omega,HBQ.out.trans (hB2.mono HBQ.out.size),lh fun i' hi' k' hk' j hj=>by
     rcases Nat.lt_or_ge i' k with l | l
     ·exact HA.out i' l k' hk' j hj
     ·obtain rfl:i'=k:=by omega
      rw[HQ.out]at hj;exact HA2.out k' hk' j hj⟩
    case measure=>simp[intOf];omega
   have hbk:Below wi.heap.size wi wk:=HBW.out.trans (hB2.mono HBW.out.size);obtain⟨c0,c1,c2,c3,c4,c5,c6⟩:=HXC.out k (by omega);obtain⟨r,hr⟩:=nm (cg s.cues k);rw[hr]at c0 c1 c2 c3 c4 c5 c6;replace c0:=(ct hbk c0 HXB.out);replace c1:=(ct hbk c1 HXB.out);replace c2:=(ct hbk c2 HXB.out);replace c3:=(ct hbk c3 HXB.out);replace c4:=(ct hbk c4 HXB.out);replace c5:=(ct hbk c5 HXB.out);replace c6:=(ct hbk c6 HXB.out);have HR:=lh hr;have k0:0≤(k:Int):=by omega
   have k1:(k:Int)<(i:Int):=by omega
   have kw:IntKind.i64.wrap ((k:Int)+1)=(k:Int)+1:=IntWalk.i64_in _ (by omega);obtain⟨q0,q1,q2,q3,q4,q5,q6⟩:=HQA.out _ hB2;have zq:Bq<wk.heap.size:=wl q0;have hbn:=Aa wk (.cells #[.string r.name,.string r.after,.int .i64 r.link,.int .i64 r.delay,.slice r.ma r.moves.length r.mc,.int .i64 r.crew,.int .i64 r.power] 86);have hrn:=Cx.new wk r 86 _ rfl;clear hr hbk
   go_upto_region 8 with (fail)
   clear c0 c1 c2 c3 c4 c5 c6 q0 q1 q2 q3 q4 q5 q6 zq;obtain⟨Br,hBr⟩:=nm (wk.heap.size);obtain⟨Wr,hWr⟩:=nm (wk.alloc (.cells #[.string r.name,.string r.after,.int .i64 r.link,.int .i64 r.delay,.slice r.ma r.moves.length r.mc,.int .i64 r.crew,.int .i64 r.power] 86));rw[hWr]at hbn hrn;simp only[hWr];rw[hBr]at hrn;simp only[hBr];have HBR:Hid (Below Wq.heap.size Wq Wr):=lh (hB2.trans (by rw[←hBr]at *;exact hbn.mono hB2.size));have HRA:Hid (∀w',Below Wr.heap.size Wr w'→Cx w' Br r):=lh fun w' z=>hrn.carry z;have HB0:Hid (∀w',Below Wr.heap.size Wr w'→Below W0.heap.size W0 w'):=lh fun w' z=>HBQ.out.trans ((HBR.out.trans (z.mono HBR.out.size)).mono HBQ.out.size);have hql:q.moves.length≤1000:=by rw[←HQ.out];exact HML.out i hlt
   have hqm:q.moves.length≤q.mc:=by rw[←HQ.out];exact HCP.out i hlt
   have hkc:k<s.cues.length:=by omega
   have hrl:r.moves.length≤1000:=by rw[←HR.out];exact HML.out k hkc
   have hrm:r.moves.length≤r.mc:=by rw[←HR.out];exact HCP.out k hkc
   have HRM:Hid (∀w',Below W0.heap.size W0 w'→Ei w'.heap.size w' r.ma r.moves):=lh fun w' z=>by rw[←HR.out];exact HMI.out k hkc w' z
   have HQM:Hid (∀w',Below W0.heap.size W0 w'→Ei w'.heap.size w' q.ma q.moves):=lh fun w' z=>by rw[←HQ.out];exact HMI.out i hlt w' z
   clear hWr hBr hbn hrn hB2
   go_loopw [34] (fun jv wj=>∃j:Nat,jv=.int .i64 j∧j≤q.moves.length∧Below Wr.heap.size Wr wj∧Hid (∀j',j'<j→Pg s.cues S N i k j')) (fun jv _=>q.moves.length-(intOf jv).toNat)
   case atStart=>exact⟨0,rfl,nz,br,lh fun _ z=>absurd z (Nat.not_lt_zero _)⟩
   case round=>
    obtain⟨j,rfl,hj,hB3,HA3⟩:=hrel;obtain⟨wj,rfl⟩:∃wo:World,wo=wr:=⟨_,rfl⟩
    by_cases hlj:j<q.moves.length
    case neg=>
     obtain rfl:j=q.moves.length:=by omega
     go_wp2_with fail
     go_roundw
     case rel=>exact⟨k+1,by go_num,by omega,HBR.out.trans (hB3.mono HBR.out.size),lh fun k' hk' j hj=>by
      rcases Nat.lt_or_ge k' k with l | l
      ·exact HA2.out k' l j hj
      ·obtain rfl:k'=k:=by omega
       exact HA3.out j hj⟩
     case measure=>simp[intOf];omega
    have hw0:=HB0.out _ hB3;obtain⟨mb,mo,hma,hmb,hmc⟩:=(HQM.out _ hw0) (by omega);obtain⟨d0,d1,d2,d3,d4⟩:=hmc j hlj;obtain⟨y,hy⟩:=nm (mg q.moves j);rw[hy]at d0 d1 d2 d3 d4;have HY:=lh hy;have j0:0≤(j:Int):=by omega
    have j1:(j:Int)<(q.moves.length:Int):=by omega
    have jw:IntKind.i64.wrap ((j:Int)+1)=(j:Int)+1:=IntWalk.i64_in _ (by omega);obtain⟨r0,r1,r2,r3,r4,r5,r6⟩:=HRA.out _ hB3;have zr:Br<wj.heap.size:=wl r0;have hbn:=Aa wj (.cells #[.string y.name,.int .i64 y.to,.int .i64 y.spd,.int .i64 y.rise,.int .i64 y.fall] 94);have HTM:=lh (Xw r y.name _ ((HRM.out _ hw0).grow hbn) hrl hrm);have HMA:=lh hma;obtain⟨B,hBm⟩:=nm (mvB r.moves y.name);rw[hBm]at HTM;have HBM:=lh hBm;have HW3:Hid (Below Wr.heap.size Wr (wj.alloc (.cells #[.string y.name,.int .i64 y.to,.int .i64 y.spd,.int .i64 y.rise,.int .i64 y.fall] 94))):=lh (hB3.alloc hB3.size _);clear hmc hy hma hBm;rw[HMA.out]at *
    go_upto_region 11 with (go_at_call 79;go_fit HTM.out;rintro e w9 ⟨rfl,hb9⟩)
    have hb10:Below Wr.heap.size Wr (w9.alloc (.cells #[.string (Oo r.moves y.name).name,.int .i64 (Oo r.moves y.name).to,.int .i64 (Oo r.moves y.name).spd,.int .i64 (Oo r.moves y.name).rise,.int .i64 (Oo r.moves y.name).fall] 94)):=(HW3.out.trans (hb9.mono HW3.out.size)).alloc (HW3.out.trans (hb9.mono HW3.out.size)).size _;obtain⟨W10,hW10⟩:=nm (w9.alloc (.cells #[.string (Oo r.moves y.name).name,.int .i64 (Oo r.moves y.name).to,.int .i64 (Oo r.moves y.name).spd,.int .i64 (Oo r.moves y.name).rise,.int .i64 (Oo r.moves y.name).fall] 94));rw[hW10]at hb10;simp only[hW10];clear hW10 hb9 d0 d1 d2 d3 d4 r0 r1 r2 r3 r4 r5 r6 zr HTM HW3
    have HAJ:Hid (Pg s.cues S N i k j→∀j',j'<j+1→Pg s.cues S N i k j'):=lh fun z j' hj'=>by
     rcases Nat.lt_or_ge j' j with l | l
     ·exact HA3.out j' l
     ·obtain rfl:j'=j:=by omega
      exact z
    have HAT:Hid (Pg s.cues S N i k j↔(B=true→ig S k+ig N k≤ig S i)):=lh (by unfold Pg;rw[HQ.out,HR.out,HY.out,HBM.out])
    cases B
    ·refine wp_region_held_drew (S:=fun w'=>Below Wr.heap.size Wr w') (by kernel_rfl) hb10.drew (fun hHeld=>?_)
     refine tk 0 ?_;refine tk 1 ?_;refine sk 2 ?_;refine sk 3 ?_;refine sk 4 ?_;refine sk 5 ?_;refine sk 6 ?_;refine sk 7 ?_;refine sk 8 ?_;refine sk 9 ?_;refine sk 10 ?_;refine sk 11 ?_;refine sk 12 ?_;refine sk 13 ?_;refine sk 14 ?_;refine sk 15 ?_;refine sk 16 ?_;refine sk 17 ?_;refine sk 18 ?_;refine tk 19 ?_;refine dn ?_
     go_wp2_with fail
     go_roundw
     case rel=>exact⟨j+1,by go_num,by omega,hHeld,lh (HAJ.out (HAT.out.2 (fun z=>by cases z)))⟩
     case measure=>simp[intOf];omega
    ·obtain⟨sb,so,hsb,hsl,hsc⟩:=(HX.out _ br).2.2.2.1 (by rw[HSL.out];omega)
     obtain⟨nb,no,hnb,hnl,hnc⟩:=(HX.out _ br).2.2.2.2.1 (by rw[HNL.out];omega);have f1:∀w',Below Wr.heap.size Wr w'→w'.cell? ⟨w.heap.size,1,none⟩=some (.slice (some ⟨sb,so,none⟩) S.length sc):=fun w' z=>by have:=(HX.out _ (HB0.out _ z)).1.2.1;rwa [hsb]at this
     have f2:∀w',Below Wr.heap.size Wr w'→w'.cell? ⟨w.heap.size,2,none⟩=some (.slice (some ⟨nb,no,none⟩) N.length nc):=fun w' z=>by have:=(HX.out _ (HB0.out _ z)).1.2.2.1;rwa [hnb]at this
     have e1:∀w',Below Wr.heap.size Wr w'→w'.cell? ⟨sb,so+i,none⟩=some (.int .i64 (ig S i)):=fun w' z=>((HB0.out _ z).cell (p:=⟨sb,so+i,none⟩) hsl).trans (hsc i (by rw[HSL.out];omega));have e2:∀w',Below Wr.heap.size Wr w'→w'.cell? ⟨sb,so+k,none⟩=some (.int .i64 (ig S k)):=fun w' z=>((HB0.out _ z).cell (p:=⟨sb,so+k,none⟩) hsl).trans (hsc k (by rw[HSL.out];omega));have e3:∀w',Below Wr.heap.size Wr w'→w'.cell? ⟨nb,no+k,none⟩=some (.int .i64 (ig N k)):=fun w' z=>((HB0.out _ z).cell (p:=⟨nb,no+k,none⟩) hnl).trans (hnc k (by rw[HNL.out];omega));obtain⟨SL,hSL⟩:=nm (S.length);obtain⟨NL,hNL⟩:=nm (N.length);rw[hSL]at f1;rw[hNL]at f2;have l1:(i:Int)<(SL:Int):=by have:=HSL.out;omega
     have l2:(k:Int)<(SL:Int):=by have:=HSL.out;omega
     have l3:(k:Int)<(NL:Int):=by have:=HNL.out;omega
     have b1:=HB1.out k hkc;have b2:=HB2.out k hkc;have wa:IntKind.i64.wrap (ig S k+ig N k)=ig S k+ig N k:=IntWalk.i64_in _ (by omega);clear hsc hnc hsb hnb hSL hNL b1 b2
     by_cases lt:ig S i<ig S k+ig N k
     ·have g:=dT lt
      have LT:=lh lt;clear lt;refine wp_region_held_drew (S:=fun w'=>Below Wr.heap.size Wr w') (by kernel_rfl) hb10.drew (fun hHeld=>?_);refine tk 0 ?_;refine tk 1 ?_;refine tk 2 ?_;refine tk 3 ?_;refine tk 4 ?_;refine tk 5 ?_;refine tk 6 ?_;refine tk 7 ?_;refine tk 8 ?_;refine tk 9 ?_;refine tk 10 ?_;refine tk 11 ?_;refine tk 12 ?_;refine tk 13 ?_;refine tk 14 ?_;refine tk 15 ?_;refine tk 16 ?_;refine tk 17 ?_;refine tk 18 ?_;refine tk 19 ?_;refine dn ?_
      go_wp2_with fail
      go_ret;exact⟨Ab (HNO.out fun z=>by have:=HAT.out.1 (z i hlt k hlk j (by rw[HQ.out];exact hlj));simp only[forall_const]at this;have:=LT.out;omega).symm,(HX.out _ (HB0.out _ hHeld)).2.2.2.2.2⟩
     ·have g:=dF lt
      have LT:=lh lt;clear lt;refine wp_region_held_drew (S:=fun w'=>Below Wr.heap.size Wr w') (by kernel_rfl) hb10.drew (fun hHeld=>?_);refine tk 0 ?_;refine tk 1 ?_;refine tk 2 ?_;refine tk 3 ?_;refine tk 4 ?_;refine tk 5 ?_;refine tk 6 ?_;refine tk 7 ?_;refine tk 8 ?_;refine tk 9 ?_;refine tk 10 ?_;refine tk 11 ?_;refine tk 12 ?_;refine tk 13 ?_;refine tk 14 ?_;refine tk 15 ?_;refine tk 16 ?_;refine tk 17 ?_;refine tk 18 ?_;refine tk 19 ?_;refine dn ?_
      go_wp2_with fail
      go_roundw
      case rel=>exact⟨j+1,by go_num,by omega,hHeld,lh (HAJ.out (HAT.out.2 (fun _=>by have:=LT.out;omega)))⟩
      case measure=>simp[intOf];omega
end
section
open Go.RowKit Go.Shelf
def ACh(j:Nat):List Value→List Value→List Value
 | [],xs=>xs
 | v::vs,xs=>ACh (j+1) vs (xs.set j v)
theorem Ut{base n cap size g:Nat}{e:TypeId}:∀(vs:List Value) (w:World) (j:Nat) (xs:List Value),w.ownsRow base e size (.slice (some ⟨g,0,none⟩) n cap) n xs→(Ak w g j vs).ownsRow base e size (.slice (some ⟨g,0,none⟩) n cap) n (ACh j vs xs)
 | [],_,_,_,h=>h
 | v::vs,_,j,_,h=>Ut vs _ (j+1) _ (h.stored j v).1
theorem Zg(x:Value):∀(vs:List Value) (j:Nat) (xs:List Value),ACh (j+1) vs (x::xs)=x::ACh j vs xs
 | [],_,_=>rfl
 | v::vs,j,xs=>by simp only[ACh,List.set_cons_succ];exact Zg x vs (j+1) _
theorem AOu(us:List Value)(vs:List Value)(j:Nat)(xs:List Value):ACh (j+us.length) vs (us++xs)=us++ACh j vs xs:=by
 induction us with
 | nil=>rfl
 | cons u us ih=>rw[List.cons_append,List.length_cons,←Nat.add_assoc,Zg,ih,List.cons_append]
theorem Ln(x:Pc)(L:List Pc):Ce (x::L)=[.int .i64 x.f0,.int .i64 x.f1,.int .i64 x.a0,.int .i64 x.a1,.int .i64 x.b0,.int .i64 x.b1,.int .i64 x.c0,.int .i64 x.c1]++Ce L:=by simp[Ce]
theorem Xh(y:Pc):∀(L:List Pc) (i:Nat),i<L.length→ACh (i*8) [.int .i64 y.f0,.int .i64 y.f1,.int .i64 y.a0,.int .i64 y.a1,.int .i64 y.b0,.int .i64 y.b1,.int .i64 y.c0,.int .i64 y.c1] (Ce L)=Ce (L.set i y)
 | x::L,0,_=>by
  rw[Ln,List.set_cons_zero,Ln]
  rfl
 | x::L,i+1,h=>by
  rw[Ln,List.set_cons_succ,Ln,show(i+1)*8=i*8+([.int .i64 x.f0,.int .i64 x.f1,.int .i64 x.a0,.int .i64 x.a1,.int .i64 x.b0,.int .i64 x.b1,.int .i64 x.c0,.int .i64 x.c1]:List Value).length by simp;omega,AOu,Xh y L i (by simpa using h)]
theorem ASa{w:World}{base n cap g i:Nat}{L:List Pc}(h:w.ownsRow base 122 8 (.slice (some ⟨g,0,none⟩) n cap) n (Ce L))(y:Pc)(hi:i<L.length):
  (Ak w g (i*8) [.int .i64 y.f0,.int .i64 y.f1,.int .i64 y.a0,.int .i64 y.a1,.int .i64 y.b0,.int .i64 y.b1,.int .i64 y.c0,.int .i64 y.c1]).ownsRow base 122 8 (.slice (some ⟨g,0,none⟩) n cap) n (Ce (L.set i y)):=by
 rw[←Xh y L i hi];exact Ut _ _ _ _ h
theorem AMk{w:World}{base n cap g size:Nat}{e:TypeId}{xs:List Value}(h:w.ownsRow base e size (.slice (some ⟨g,0,none⟩) n cap) n xs):∀i,w.frozen? ⟨g,i,none⟩=false:=by
 rcases h.2 with ⟨e,_⟩ | ⟨g',cap',cur,e,hb,hg,_⟩
 ·cases e
 ·cases e
  intro i
  simp[World.frozen?,hg]
theorem AHr{ops:Array Oper}{rest:List Oper}{o:Oper}{a:Act}{w:World}{Q:Exit→Act→World→Prop}(hgd:o.guard=none)(s x:Operand)
  (ho:o.op=.call {callee:=.builtin .append,args:=#[s,x],argTypes:=#[34,34]})
  (base:Nat) (v:Value) (L:List Pc) (hs:a.eval s=v) (hown:w.ownsRow base 122 8 v L.length (Ce L))
  (bl:Nat) (y:Pc) (hx:a.eval x=.slice (some ⟨bl,0,none⟩) 1 1) (hc:PB w bl y) (hl:L.length≤1000000) (hbase:base≤w.heap.size)
  (h:∀v' w',w'.ownsRow base 122 8 v' (L++[y]).length (Ce (L++[y]))→w.grownBy w' v.ownBlock→(v'.ownBlock=v.ownBlock∨v'.ownBlock=some w.heap.size)→wpList Tryz.prog ops Q rest (a.put o.dst v') w'):wpList Tryz.prog ops Q (o::rest) a w:=by
 obtain⟨i0,hi,hz0,hz1,hz2⟩:=info_parts Lh;refine wpList_append_own_at _ hgd s x 34 ho base 122 i0 _ 8 64 Tryz.underlying34 hi hz0 hz1 hz2 rfl (by decide) v L.length (Ce L) hs hown ⟨bl,0,none⟩ 1 1 [.int .i64 y.f0,.int .i64 y.f1,.int .i64 y.a0,.int .i64 y.a1,.int .i64 y.b0,.int .i64 y.b1,.int .i64 y.c0,.int .i64 y.c1] hx rfl ?_ (by simp[Value.oneCell']) (by unfold maxLen;omega) (by omega) hbase ?_
 ·obtain⟨c0,c1,c2,c3,c4,c5,c6,c7,-⟩:=hc
  intro j u hj;rw[Go.WideShapes.add_plain,Nat.zero_add]
  match j,hj with
  | 0,hj=>simp at hj;subst hj;exact c0
  | 1,hj=>simp at hj;subst hj;exact c1
  | 2,hj=>simp at hj;subst hj;exact c2
  | 3,hj=>simp at hj;subst hj;exact c3
  | 4,hj=>simp at hj;subst hj;exact c4
  | 5,hj=>simp at hj;subst hj;exact c5
  | 6,hj=>simp at hj;subst hj;exact c6
  | 7,hj=>simp at hj;subst hj;exact c7
 ·intro v' w' h1 h2 _ h4
  refine h v' w' ?_ h2 h4;rw[ADz,List.length_append];exact h1
end
end Go.Proofs.YtebofaenlhhkaaaGreat
