/-
  THE WALK of profile.Curve, over the contracts of package ratio that it calls at the numbers at hand: the cuts.
-/
import Derived.Test.YtebofaenlhhkaaaGreatU8
import Derived.Test.YtebofaenlhhkaaaGreatU9
import Derived.Test.YtebofaenlhhkaaaGreatU10
import Derived.Test.YtebofaenlhhkaaaGreatU20
import Derived.Test.YtebofaenlhhkaaaGreatU21
import Derived.Test.YtebofaenlhhkaaaGreatU22
import Derived.Test.YtebofaenlhhkaaaGreatU11
import Derived.Test.YtebofaenlhhkaaaGreatU12
import Derived.Test.YtebofaenlhhkaaaGreatU19
namespace Go.Proofs.YtebofaenlhhkaaaGreat
set_option maxRecDepth 100000
set_option maxHeartbeats 80000000
section
open Go.RowKit Go.Shelf
theorem curve_walk(d:Int)(m:Mv)(t tt R2 F2 rn rd fn fd sn sd un ud kn kd qn qd pn pd gn gd en ed cn cd hn hd mn md:Int)
  (hg:givenP d m=0) (hd0:¬d=0) (ht:IsTop d m.spd m.rise m.fall t)
  (htt:IntKind.i64.wrap (t*t)=tt) (hR2:IntKind.i64.wrap (2*m.rise)=R2) (hF2:IntKind.i64.wrap (2*m.fall)=F2) (hNF:IntKind.i64.wrap (-m.fall)=-m.fall)
  (m1:Gives 53 #[.int .i64 tt,.int .i64 R2] rn rd)
  (m2:Gives 53 #[.int .i64 tt,.int .i64 F2] fn fd)
  (m3:Gives 53 #[.int .i64 t,.int .i64 m.rise] sn sd)
  (m4:Gives 53 #[.int .i64 t,.int .i64 m.fall] gn gd)
  (m5:Gives 53 #[.int .i64 m.rise,.int .i64 2] cn cd)
  (m6:Gives 53 #[.int .i64 (-m.fall),.int .i64 2] mn md)
  (s1:Gives 102 #[.agg #[.int .i64 d,.int .i64 1],.agg #[.int .i64 rn,.int .i64 rd]] un ud)
  (s2:Gives 102 #[.agg #[.int .i64 un,.int .i64 ud],.agg #[.int .i64 fn,.int .i64 fd]] kn kd)
  (s3:Gives 102 #[.agg #[.int .i64 d,.int .i64 1],.agg #[.int .i64 fn,.int .i64 fd]] hn hd)
  (v1:Gives 125 #[.agg #[.int .i64 kn,.int .i64 kd],.agg #[.int .i64 t,.int .i64 1]] qn qd)
  (a1:Gives 124 #[.agg #[.int .i64 sn,.int .i64 sd],.agg #[.int .i64 qn,.int .i64 qd]] pn pd)
  (a2:Gives 124 #[.agg #[.int .i64 pn,.int .i64 pd],.agg #[.int .i64 gn,.int .i64 gd]] en ed)
  (L:List Pc) (hL:L=[⟨0,1,0,1,0,1,cn,cd⟩]++(if kn=0 then[]else[⟨sn,sd,rn,rd,t,1,0,1⟩])++[⟨pn,pd,hn,hd,t,1,mn,md⟩,⟨en,ed,d,1,0,1,0,1⟩]) (w:World):
  Calls Tryz.prog 80 #[.int .i64 d,.agg #[.string m.name,.int .i64 m.to,.int .i64 m.spd,.int .i64 m.rise,.int .i64 m.fall]] w fun e w'=>Hid (∃v,e=.returned (.tuple #[v,.int .i64 0])∧w'.ownsRow w.heap.size 122 8 v L.length (pcflat L))∧Below w.heap.size w w':=by
 have HG:=lh hg;have HC:=lh (top_any d m t hg ht);have hd':(d==0)=false:=by simpa using hd0
 have HL:=lh hL;have M1:=lh m1;have M2:=lh m2;have M3:=lh m3;have M4:=lh m4;have M5:=lh m5;have M6:=lh m6;have S1:=lh s1;have S2:=lh s2;have S3:=lh s3;have V1:=lh v1;have A1:=lh a1;have A2:=lh a2;clear hg ht hd0 hL m1 m2 m3 m4 m5 m6 s1 s2 s3 v1 a1 a2
 go_enter Tryz.func80,Tryz.ntmps80
 go_upto_region 12 with (first
   | (go_at_call 119;(with_reducible refine(given_any d m _).mono ?_);rintro e w1 ⟨rfl,hb1⟩;rw[HG.out];have hB1:=(below_new w (.cells #[.string m.name,.int .i64 m.to,.int .i64 m.spd,.int .i64 m.rise,.int .i64 m.fall] 94)).trans (hb1.mono (by simp));have kz:w.heap.size<w1.heap.size:=Nat.lt_of_lt_of_le (by simp) hb1.size;have k0:w1.cell? ⟨w.heap.size,0,none⟩=some (.string m.name):=(hb1.cell (p:=⟨w.heap.size,0,none⟩) (by simp)).trans (by simp);have k1:w1.cell? ⟨w.heap.size,1,none⟩=some (.int .i64 m.to):=(hb1.cell (p:=⟨w.heap.size,1,none⟩) (by simp)).trans (by simp);have k2:w1.cell? ⟨w.heap.size,2,none⟩=some (.int .i64 m.spd):=(hb1.cell (p:=⟨w.heap.size,2,none⟩) (by simp)).trans (by simp);have k3:w1.cell? ⟨w.heap.size,3,none⟩=some (.int .i64 m.rise):=(hb1.cell (p:=⟨w.heap.size,3,none⟩) (by simp)).trans (by simp);have k4:w1.cell? ⟨w.heap.size,4,none⟩=some (.int .i64 m.fall):=(hb1.cell (p:=⟨w.heap.size,4,none⟩) (by simp)).trans (by simp))
   | (go_at_call 120;(with_reducible refine(HC.out _).mono ?_);rintro e w2 ⟨rfl,hb2⟩;have j0:w2.cell? ⟨w.heap.size,0,none⟩=some (.string m.name):=(hb2.cell (p:=⟨w.heap.size,0,none⟩) (by simp<;>omega)).trans ((World.cell?_alloc_lt _ _ _ kz).trans k0);have j1:w2.cell? ⟨w.heap.size,1,none⟩=some (.int .i64 m.to):=(hb2.cell (p:=⟨w.heap.size,1,none⟩) (by simp<;>omega)).trans ((World.cell?_alloc_lt _ _ _ kz).trans k1);have j2:w2.cell? ⟨w.heap.size,2,none⟩=some (.int .i64 m.spd):=(hb2.cell (p:=⟨w.heap.size,2,none⟩) (by simp<;>omega)).trans ((World.cell?_alloc_lt _ _ _ kz).trans k2);have j3:w2.cell? ⟨w.heap.size,3,none⟩=some (.int .i64 m.rise):=(hb2.cell (p:=⟨w.heap.size,3,none⟩) (by simp<;>omega)).trans ((World.cell?_alloc_lt _ _ _ kz).trans k3);have j4:w2.cell? ⟨w.heap.size,4,none⟩=some (.int .i64 m.fall):=(hb2.cell (p:=⟨w.heap.size,4,none⟩) (by simp<;>omega)).trans ((World.cell?_alloc_lt _ _ _ kz).trans k4);have j5:w2.cell? ⟨w1.heap.size,0,none⟩=some (.int .i64 0):=(hb2.cell (p:=⟨w1.heap.size,0,none⟩) (by simp)).trans (by simp);have j6:w2.cell? ⟨w1.heap.size,1,none⟩=some (.int .i64 1):=(hb2.cell (p:=⟨w1.heap.size,1,none⟩) (by simp)).trans (by simp)))
 have hW2:Below w.heap.size w w2:=(hB1.alloc hB1.size _).trans (hb2.mono (by simp<;>omega));have hz0:w.heap.size<w2.heap.size:=wl j0;have hz1:w1.heap.size<w2.heap.size:=wl j5;obtain⟨FK,hFK⟩:=nm (Value.func (.func 121) #[] #[.pointer (some ⟨w2.heap.size,0,none⟩)]:Value);have W0b:Below w.heap.size w ((w2.alloc (.cells #[.int .i64 0] 35)).alloc (.cells #[Value.func (.func 121) #[] #[.pointer (some ⟨w2.heap.size,0,none⟩)]] 171)):=(hW2.alloc hW2.size _).alloc (by have:=hW2.size;simp<;>omega) _;have x0:((w2.alloc (.cells #[.int .i64 0] 35)).alloc (.cells #[Value.func (.func 121) #[] #[.pointer (some ⟨w2.heap.size,0,none⟩)]] 171)).cell? ⟨w.heap.size,3,none⟩=some (.int .i64 m.rise):=(World.cell?_alloc_lt _ _ _ (by simp<;>omega)).trans ((World.cell?_alloc_lt _ _ _ hz0).trans j3);have x1:((w2.alloc (.cells #[.int .i64 0] 35)).alloc (.cells #[Value.func (.func 121) #[] #[.pointer (some ⟨w2.heap.size,0,none⟩)]] 171)).cell? ⟨w.heap.size,4,none⟩=some (.int .i64 m.fall):=(World.cell?_alloc_lt _ _ _ (by simp<;>omega)).trans ((World.cell?_alloc_lt _ _ _ hz0).trans j4);have x2:((w2.alloc (.cells #[.int .i64 0] 35)).alloc (.cells #[Value.func (.func 121) #[] #[.pointer (some ⟨w2.heap.size,0,none⟩)]] 171)).cell? ⟨w1.heap.size,0,none⟩=some (.int .i64 0):=(World.cell?_alloc_lt _ _ _ (by simp<;>omega)).trans ((World.cell?_alloc_lt _ _ _ hz1).trans j5);have x3:((w2.alloc (.cells #[.int .i64 0] 35)).alloc (.cells #[Value.func (.func 121) #[] #[.pointer (some ⟨w2.heap.size,0,none⟩)]] 171)).cell? ⟨w1.heap.size,1,none⟩=some (.int .i64 1):=(World.cell?_alloc_lt _ _ _ (by simp<;>omega)).trans ((World.cell?_alloc_lt _ _ _ hz1).trans j6);have x4:((w2.alloc (.cells #[.int .i64 0] 35)).alloc (.cells #[Value.func (.func 121) #[] #[.pointer (some ⟨w2.heap.size,0,none⟩)]] 171)).cell? ⟨w2.heap.size,0,none⟩=some (.int .i64 0):=by simp
 have x5:((w2.alloc (.cells #[.int .i64 0] 35)).alloc (.cells #[Value.func (.func 121) #[] #[.pointer (some ⟨w2.heap.size,0,none⟩)]] 171)).cell? ⟨(w2.heap.size+1),0,none⟩=some (.func (.func 121) #[] #[.pointer (some ⟨w2.heap.size,0,none⟩)]):=by simp
 clear hFK FK hb1 hB1 kz k0 k1 k2 k3 k4 hb2 j0 j1 j2 j3 j4 j5 j6 hW2 hz0 hz1;generalize ((w2.alloc (.cells #[.int .i64 0] 35)).alloc (.cells #[Value.func (.func 121) #[] #[.pointer (some ⟨w2.heap.size,0,none⟩)]] 171))=W0 at *;obtain⟨Bk,hBk⟩:=nm (w2.heap.size+1);simp only[hBk]at *;clear hBk;generalize w2.heap.size=Bb at *;generalize w1.heap.size=Bz at *;have HS:Hid (∀w',Below W0.heap.size W0 w'→Below W0.heap.size W0 w'∧w'.cell? ⟨w.heap.size,3,none⟩=some (.int .i64 m.rise)∧w'.cell? ⟨w.heap.size,4,none⟩=some (.int .i64 m.fall)∧w'.cell? ⟨Bz,0,none⟩=some (.int .i64 0)∧w'.cell? ⟨Bz,1,none⟩=some (.int .i64 1)∧w'.cell? ⟨Bb,0,none⟩=some (.int .i64 0)∧w'.cell? ⟨Bk,0,none⟩=some (.func (.func 121) #[] #[.pointer (some ⟨Bb,0,none⟩)])):=lh fun w' h=>⟨h,(h.cell (p:=⟨w.heap.size,3,none⟩) (wl x0)).trans x0,(h.cell (p:=⟨w.heap.size,4,none⟩) (wl x1)).trans x1,(h.cell (p:=⟨Bz,0,none⟩) (wl x2)).trans x2,(h.cell (p:=⟨Bz,1,none⟩) (wl x3)).trans x3,(h.cell (p:=⟨Bb,0,none⟩) (wl x4)).trans x4,(h.cell (p:=⟨Bk,0,none⟩) (wl x5)).trans x5⟩;have hbr:=Below.refl W0.heap.size W0;have hbd:=hbr.drew;have HS2:Hid (∀w',Below W0.heap.size W0 w'→Below W0.heap.size W0 w'∧w'.cell? ⟨w.heap.size,3,none⟩=some (.int .i64 m.rise)∧w'.cell? ⟨w.heap.size,4,none⟩=some (.int .i64 m.fall)∧w'.cell? ⟨Bk,0,none⟩=some (.func (.func 121) #[] #[.pointer (some ⟨Bb,0,none⟩)])):=lh fun w' h=>⟨h,(HS.out w' h).2.1,(HS.out w' h).2.2.1,(HS.out w' h).2.2.2.2.2.2⟩;refine cv12 HS2 M1 M2 htt hR2 hF2 ?_;intro u13 u14 u20 u21 u22 u23 u24 u25 u26 u27 u28 u29 u30 u31 u32 u33 u34 u35 u36 u37 u38 u39 u40 u41 u42 u43 u44 u45 u46 u47 u48 u49 u50 u51 u52 u53 u54 u55 u56 u57 u58 u59 u60 u61 u62 u63 u64 u65 u66 u67 u68 u69 u70 u71 u72 u73 u74 u75 u76 u77 u78 u79 u80 u81 u82 u83 u84 u85 u86 u87 u88 u89 u90 u91 u92 u93 u94 u95 u96 u97 u98 u99 u100 u101 u102 u103 u104 u105 u106 u107 u108 u109 u110 u111 u112 u113 u114 u115 u116 u117 u118 u119 u120 u121 u122 u123 u124 u125 u126 u127 u128 u129 u130 u131 u132 u133 u134 u135 u136 u137 u138 u139 u140 u141 u142 u143 u144 u145 u146 u147 u148 u149 u150 u151 u152 u153 u154 u155 u156 wc hcut;clear HS2
 ·obtain⟨B13,B14,rfl,rfl,hBn,⟨y0,y1⟩,⟨y2,y3⟩⟩:=hcut
  obtain⟨W1,rfl⟩:∃W:World,W=wc:=⟨_,rfl⟩;clear x0 x1 x2 x3 x4 x5;obtain⟨_,x0,x1,x2,x3,x4,x5⟩:=HS.out _ hBn;have W1b:=W0b.trans (hBn.mono W0b.size);clear HS hbd hbr hBn W0b
  go_upto_region 14 with (first
   | (go_at_call 123;(with_reducible refine(over_any t m.rise sn sd M3.out Bk (.pointer (some ⟨Bb,0,none⟩)) _ ?_).mono ?_);(next=>exact x5);rintro e w4 ⟨rfl,hb4⟩))
  have hBn:Below W1.heap.size W1 (w4.alloc (.cells #[.int .i64 sn,.int .i64 sd] 49)):=below_a _ hb4;have z0:(w4.alloc (.cells #[.int .i64 sn,.int .i64 sd] 49)).cell? ⟨w4.heap.size,0,none⟩=some (.int .i64 sn):=by simp
  have z1:(w4.alloc (.cells #[.int .i64 sn,.int .i64 sd] 49)).cell? ⟨w4.heap.size,1,none⟩=some (.int .i64 sd):=by simp
  have q0:=(hBn.cell (p:=⟨w.heap.size,3,none⟩) (wl x0)).trans x0;have q1:=(hBn.cell (p:=⟨w.heap.size,4,none⟩) (wl x1)).trans x1;have q2:=(hBn.cell (p:=⟨Bz,0,none⟩) (wl x2)).trans x2;have q3:=(hBn.cell (p:=⟨Bz,1,none⟩) (wl x3)).trans x3;have q4:=(hBn.cell (p:=⟨Bb,0,none⟩) (wl x4)).trans x4;have q5:=(hBn.cell (p:=⟨Bk,0,none⟩) (wl x5)).trans x5;have q6:=(hBn.cell (p:=⟨B13,0,none⟩) (wl y0)).trans y0;have q7:=(hBn.cell (p:=⟨B13,1,none⟩) (wl y1)).trans y1;have q8:=(hBn.cell (p:=⟨B14,0,none⟩) (wl y2)).trans y2;have q9:=(hBn.cell (p:=⟨B14,1,none⟩) (wl y3)).trans y3;have W2b:=W1b.trans (hBn.mono W1b.size);clear hb4 hBn W1b x0 x1 x2 x3 x4 x5 y0 y1 y2 y3;generalize w4.alloc (.cells #[.int .i64 sn,.int .i64 sd] 49)=W2 at *;generalize w4.heap.size=B15 at *;obtain⟨x0,x1,x2,x3,x4,x5,x6,x7,x8,x9,x10,x11⟩:W2.cell? ⟨w.heap.size,3,none⟩=some (.int .i64 m.rise)∧W2.cell? ⟨w.heap.size,4,none⟩=some (.int .i64 m.fall)∧W2.cell? ⟨Bz,0,none⟩=some (.int .i64 0)∧W2.cell? ⟨Bz,1,none⟩=some (.int .i64 1)∧W2.cell? ⟨Bb,0,none⟩=some (.int .i64 0)∧W2.cell? ⟨Bk,0,none⟩=some (.func (.func 121) #[] #[.pointer (some ⟨Bb,0,none⟩)])∧W2.cell? ⟨B13,0,none⟩=some (.int .i64 rn)∧W2.cell? ⟨B13,1,none⟩=some (.int .i64 rd)∧W2.cell? ⟨B14,0,none⟩=some (.int .i64 fn)∧W2.cell? ⟨B14,1,none⟩=some (.int .i64 fd)∧W2.cell? ⟨B15,0,none⟩=some (.int .i64 sn)∧W2.cell? ⟨B15,1,none⟩=some (.int .i64 sd):=⟨q0,q1,q2,q3,q4,q5,q6,q7,q8,q9,z0,z1⟩;clear q0 q1 q2 q3 q4 q5 q6 q7 q8 q9 z0 z1
  go_upto_region 14 with (fail)
  have HS:Hid (∀w',Below W2.heap.size W2 w'→Below W2.heap.size W2 w'∧w'.cell? ⟨w.heap.size,3,none⟩=some (.int .i64 m.rise)∧w'.cell? ⟨w.heap.size,4,none⟩=some (.int .i64 m.fall)∧w'.cell? ⟨Bz,0,none⟩=some (.int .i64 0)∧w'.cell? ⟨Bz,1,none⟩=some (.int .i64 1)∧w'.cell? ⟨Bb,0,none⟩=some (.int .i64 0)∧w'.cell? ⟨Bk,0,none⟩=some (.func (.func 121) #[] #[.pointer (some ⟨Bb,0,none⟩)])∧w'.cell? ⟨B13,0,none⟩=some (.int .i64 rn)∧w'.cell? ⟨B13,1,none⟩=some (.int .i64 rd)∧w'.cell? ⟨B14,0,none⟩=some (.int .i64 fn)∧w'.cell? ⟨B14,1,none⟩=some (.int .i64 fd)∧w'.cell? ⟨B15,0,none⟩=some (.int .i64 sn)∧w'.cell? ⟨B15,1,none⟩=some (.int .i64 sd)):=lh fun w' h=>⟨h,(h.cell (p:=⟨w.heap.size,3,none⟩) (wl x0)).trans x0,(h.cell (p:=⟨w.heap.size,4,none⟩) (wl x1)).trans x1,(h.cell (p:=⟨Bz,0,none⟩) (wl x2)).trans x2,(h.cell (p:=⟨Bz,1,none⟩) (wl x3)).trans x3,(h.cell (p:=⟨Bb,0,none⟩) (wl x4)).trans x4,(h.cell (p:=⟨Bk,0,none⟩) (wl x5)).trans x5,(h.cell (p:=⟨B13,0,none⟩) (wl x6)).trans x6,(h.cell (p:=⟨B13,1,none⟩) (wl x7)).trans x7,(h.cell (p:=⟨B14,0,none⟩) (wl x8)).trans x8,(h.cell (p:=⟨B14,1,none⟩) (wl x9)).trans x9,(h.cell (p:=⟨B15,0,none⟩) (wl x10)).trans x10,(h.cell (p:=⟨B15,1,none⟩) (wl x11)).trans x11⟩;have hbr:=Below.refl W2.heap.size W2;have hbd:=hbr.drew;have HS2:Hid (∀w',Below W2.heap.size W2 w'→Below W2.heap.size W2 w'∧w'.cell? ⟨Bk,0,none⟩=some (.func (.func 121) #[] #[.pointer (some ⟨Bb,0,none⟩)])∧w'.cell? ⟨B13,0,none⟩=some (.int .i64 rn)∧w'.cell? ⟨B13,1,none⟩=some (.int .i64 rd)∧w'.cell? ⟨B14,0,none⟩=some (.int .i64 fn)∧w'.cell? ⟨B14,1,none⟩=some (.int .i64 fd)):=lh fun w' h=>⟨h,(HS.out w' h).2.2.2.2.2.2.1,(HS.out w' h).2.2.2.2.2.2.2.1,(HS.out w' h).2.2.2.2.2.2.2.2.1,(HS.out w' h).2.2.2.2.2.2.2.2.2.1,(HS.out w' h).2.2.2.2.2.2.2.2.2.2.1⟩;refine cv14 HS2 S1 S2 ?_;intro u16 u20 u21 u22 u23 u24 u25 u26 u27 u28 u29 u30 u31 u32 u33 u34 u35 u36 u37 u38 u39 u40 u41 u42 u43 u44 u45 u46 u47 u48 u49 u50 u51 u52 u53 u54 u55 u56 u57 u58 u59 u60 u61 u62 u63 u64 u65 u66 u67 u68 u69 u70 u71 u72 u73 u74 u75 u76 u77 u78 u79 u80 u81 u82 u83 u84 u85 u86 u87 u88 u89 u90 u91 u92 u93 u94 u95 u96 u97 u98 u99 u100 u101 u102 u103 u104 u105 u106 u107 u108 u109 u110 u111 u112 u113 u114 u115 u116 u117 u118 u119 u120 u121 u122 u123 u124 u125 u126 u127 u128 u129 u130 u131 u132 u133 u134 u135 u136 u137 u138 u139 u140 u141 u142 u143 u144 u145 u146 u147 u148 u149 u150 u151 u152 u153 u154 u155 u156 wc hcut;clear HS2
  ·obtain⟨B16,rfl,hBn,⟨y0,y1⟩⟩:=hcut
   obtain⟨W3,rfl⟩:∃W:World,W=wc:=⟨_,rfl⟩;clear x0 x1 x2 x3 x4 x5 x6 x7 x8 x9 x10 x11;obtain⟨_,x0,x1,x2,x3,x4,x5,x6,x7,x8,x9,x10,x11⟩:=HS.out _ hBn;have W3b:=W2b.trans (hBn.mono W2b.size);clear HS hbd hbr hBn W2b;obtain⟨x12,x13⟩:FR W3 B16 kn kd:=⟨y0,y1⟩;clear y0 y1
   go_upto_region 15 with (fail)
   have HS:Hid (∀w',Below W3.heap.size W3 w'→Below W3.heap.size W3 w'∧w'.cell? ⟨w.heap.size,3,none⟩=some (.int .i64 m.rise)∧w'.cell? ⟨w.heap.size,4,none⟩=some (.int .i64 m.fall)∧w'.cell? ⟨Bz,0,none⟩=some (.int .i64 0)∧w'.cell? ⟨Bz,1,none⟩=some (.int .i64 1)∧w'.cell? ⟨Bb,0,none⟩=some (.int .i64 0)∧w'.cell? ⟨Bk,0,none⟩=some (.func (.func 121) #[] #[.pointer (some ⟨Bb,0,none⟩)])∧w'.cell? ⟨B13,0,none⟩=some (.int .i64 rn)∧w'.cell? ⟨B13,1,none⟩=some (.int .i64 rd)∧w'.cell? ⟨B14,0,none⟩=some (.int .i64 fn)∧w'.cell? ⟨B14,1,none⟩=some (.int .i64 fd)∧w'.cell? ⟨B15,0,none⟩=some (.int .i64 sn)∧w'.cell? ⟨B15,1,none⟩=some (.int .i64 sd)∧w'.cell? ⟨B16,0,none⟩=some (.int .i64 kn)∧w'.cell? ⟨B16,1,none⟩=some (.int .i64 kd)):=lh fun w' h=>⟨h,(h.cell (p:=⟨w.heap.size,3,none⟩) (wl x0)).trans x0,(h.cell (p:=⟨w.heap.size,4,none⟩) (wl x1)).trans x1,(h.cell (p:=⟨Bz,0,none⟩) (wl x2)).trans x2,(h.cell (p:=⟨Bz,1,none⟩) (wl x3)).trans x3,(h.cell (p:=⟨Bb,0,none⟩) (wl x4)).trans x4,(h.cell (p:=⟨Bk,0,none⟩) (wl x5)).trans x5,(h.cell (p:=⟨B13,0,none⟩) (wl x6)).trans x6,(h.cell (p:=⟨B13,1,none⟩) (wl x7)).trans x7,(h.cell (p:=⟨B14,0,none⟩) (wl x8)).trans x8,(h.cell (p:=⟨B14,1,none⟩) (wl x9)).trans x9,(h.cell (p:=⟨B15,0,none⟩) (wl x10)).trans x10,(h.cell (p:=⟨B15,1,none⟩) (wl x11)).trans x11,(h.cell (p:=⟨B16,0,none⟩) (wl x12)).trans x12,(h.cell (p:=⟨B16,1,none⟩) (wl x13)).trans x13⟩;have hbr:=Below.refl W3.heap.size W3;have hbd:=hbr.drew;have HS2:Hid (∀w',Below W3.heap.size W3 w'→Below W3.heap.size W3 w'∧w'.cell? ⟨Bk,0,none⟩=some (.func (.func 121) #[] #[.pointer (some ⟨Bb,0,none⟩)])∧w'.cell? ⟨B15,0,none⟩=some (.int .i64 sn)∧w'.cell? ⟨B15,1,none⟩=some (.int .i64 sd)∧w'.cell? ⟨B16,0,none⟩=some (.int .i64 kn)∧w'.cell? ⟨B16,1,none⟩=some (.int .i64 kd)):=lh fun w' h=>⟨h,(HS.out w' h).2.2.2.2.2.2.1,(HS.out w' h).2.2.2.2.2.2.2.2.2.2.2.1,(HS.out w' h).2.2.2.2.2.2.2.2.2.2.2.2.1,(HS.out w' h).2.2.2.2.2.2.2.2.2.2.2.2.2.1,(HS.out w' h).2.2.2.2.2.2.2.2.2.2.2.2.2.2⟩;refine cv15 HS2 V1 A1 ?_;intro u17 u20 u21 u22 u23 u24 u25 u26 u27 u28 u29 u30 u31 u32 u33 u34 u35 u36 u37 u38 u39 u40 u41 u42 u43 u44 u45 u46 u47 u48 u49 u50 u51 u52 u53 u54 u55 u56 u57 u58 u59 u60 u61 u62 u63 u64 u65 u66 u67 u68 u69 u70 u71 u72 u73 u74 u75 u76 u77 u78 u79 u80 u81 u82 u83 u84 u85 u86 u87 u88 u89 u90 u91 u92 u93 u94 u95 u96 u97 u98 u99 u100 u101 u102 u103 u104 u105 u106 u107 u108 u109 u110 u111 u112 u113 u114 u115 u116 u117 u118 u119 u120 u121 u122 u123 u124 u125 u126 u127 u128 u129 u130 u131 u132 u133 u134 u135 u136 u137 u138 u139 u140 u141 u142 u143 u144 u145 u146 u147 u148 u149 u150 u151 u152 u153 u154 u155 u156 wc hcut;clear HS2
   ·obtain⟨B17,rfl,hBn,⟨y0,y1⟩⟩:=hcut
    obtain⟨W4,rfl⟩:∃W:World,W=wc:=⟨_,rfl⟩;clear x0 x1 x2 x3 x4 x5 x6 x7 x8 x9 x10 x11 x12 x13;obtain⟨_,x0,x1,x2,x3,x4,x5,x6,x7,x8,x9,x10,x11,x12,x13⟩:=HS.out _ hBn;have W4b:=W3b.trans (hBn.mono W3b.size);clear HS hbd hbr hBn W3b;obtain⟨x14,x15⟩:FR W4 B17 pn pd:=⟨y0,y1⟩;clear y0 y1
    go_upto_region 16 with (fail)
    have HS:Hid (∀w',Below W4.heap.size W4 w'→Below W4.heap.size W4 w'∧w'.cell? ⟨w.heap.size,3,none⟩=some (.int .i64 m.rise)∧w'.cell? ⟨w.heap.size,4,none⟩=some (.int .i64 m.fall)∧w'.cell? ⟨Bz,0,none⟩=some (.int .i64 0)∧w'.cell? ⟨Bz,1,none⟩=some (.int .i64 1)∧w'.cell? ⟨Bb,0,none⟩=some (.int .i64 0)∧w'.cell? ⟨Bk,0,none⟩=some (.func (.func 121) #[] #[.pointer (some ⟨Bb,0,none⟩)])∧w'.cell? ⟨B13,0,none⟩=some (.int .i64 rn)∧w'.cell? ⟨B13,1,none⟩=some (.int .i64 rd)∧w'.cell? ⟨B14,0,none⟩=some (.int .i64 fn)∧w'.cell? ⟨B14,1,none⟩=some (.int .i64 fd)∧w'.cell? ⟨B15,0,none⟩=some (.int .i64 sn)∧w'.cell? ⟨B15,1,none⟩=some (.int .i64 sd)∧w'.cell? ⟨B16,0,none⟩=some (.int .i64 kn)∧w'.cell? ⟨B16,1,none⟩=some (.int .i64 kd)∧w'.cell? ⟨B17,0,none⟩=some (.int .i64 pn)∧w'.cell? ⟨B17,1,none⟩=some (.int .i64 pd)):=lh fun w' h=>⟨h,(h.cell (p:=⟨w.heap.size,3,none⟩) (wl x0)).trans x0,(h.cell (p:=⟨w.heap.size,4,none⟩) (wl x1)).trans x1,(h.cell (p:=⟨Bz,0,none⟩) (wl x2)).trans x2,(h.cell (p:=⟨Bz,1,none⟩) (wl x3)).trans x3,(h.cell (p:=⟨Bb,0,none⟩) (wl x4)).trans x4,(h.cell (p:=⟨Bk,0,none⟩) (wl x5)).trans x5,(h.cell (p:=⟨B13,0,none⟩) (wl x6)).trans x6,(h.cell (p:=⟨B13,1,none⟩) (wl x7)).trans x7,(h.cell (p:=⟨B14,0,none⟩) (wl x8)).trans x8,(h.cell (p:=⟨B14,1,none⟩) (wl x9)).trans x9,(h.cell (p:=⟨B15,0,none⟩) (wl x10)).trans x10,(h.cell (p:=⟨B15,1,none⟩) (wl x11)).trans x11,(h.cell (p:=⟨B16,0,none⟩) (wl x12)).trans x12,(h.cell (p:=⟨B16,1,none⟩) (wl x13)).trans x13,(h.cell (p:=⟨B17,0,none⟩) (wl x14)).trans x14,(h.cell (p:=⟨B17,1,none⟩) (wl x15)).trans x15⟩;have hbr:=Below.refl W4.heap.size W4;have hbd:=hbr.drew;have HS2:Hid (∀w',Below W4.heap.size W4 w'→Below W4.heap.size W4 w'∧w'.cell? ⟨w.heap.size,4,none⟩=some (.int .i64 m.fall)∧w'.cell? ⟨Bk,0,none⟩=some (.func (.func 121) #[] #[.pointer (some ⟨Bb,0,none⟩)])∧w'.cell? ⟨B17,0,none⟩=some (.int .i64 pn)∧w'.cell? ⟨B17,1,none⟩=some (.int .i64 pd)):=lh fun w' h=>⟨h,(HS.out w' h).2.2.1,(HS.out w' h).2.2.2.2.2.2.1,(HS.out w' h).2.2.2.2.2.2.2.2.2.2.2.2.2.2.2.1,(HS.out w' h).2.2.2.2.2.2.2.2.2.2.2.2.2.2.2.2⟩;refine cv16 HS2 M4 A2 ?_;intro u18 u20 u21 u22 u23 u24 u25 u26 u27 u28 u29 u30 u31 u32 u33 u34 u35 u36 u37 u38 u39 u40 u41 u42 u43 u44 u45 u46 u47 u48 u49 u50 u51 u52 u53 u54 u55 u56 u57 u58 u59 u60 u61 u62 u63 u64 u65 u66 u67 u68 u69 u70 u71 u72 u73 u74 u75 u76 u77 u78 u79 u80 u81 u82 u83 u84 u85 u86 u87 u88 u89 u90 u91 u92 u93 u94 u95 u96 u97 u98 u99 u100 u101 u102 u103 u104 u105 u106 u107 u108 u109 u110 u111 u112 u113 u114 u115 u116 u117 u118 u119 u120 u121 u122 u123 u124 u125 u126 u127 u128 u129 u130 u131 u132 u133 u134 u135 u136 u137 u138 u139 u140 u141 u142 u143 u144 u145 u146 u147 u148 u149 u150 u151 u152 u153 u154 u155 u156 wc hcut;clear HS2
    ·obtain⟨B18,rfl,hBn,⟨y0,y1⟩⟩:=hcut
     obtain⟨W5,rfl⟩:∃W:World,W=wc:=⟨_,rfl⟩;clear x0 x1 x2 x3 x4 x5 x6 x7 x8 x9 x10 x11 x12 x13 x14 x15;obtain⟨_,x0,x1,x2,x3,x4,x5,x6,x7,x8,x9,x10,x11,x12,x13,x14,x15⟩:=HS.out _ hBn;have W5b:=W4b.trans (hBn.mono W4b.size);clear HS hbd hbr hBn W4b;obtain⟨x16,x17⟩:FR W5 B18 en ed:=⟨y0,y1⟩;clear y0 y1
     go_upto_region 17 with (fail)
     have HS:Hid (∀w',Below W5.heap.size W5 w'→Below W5.heap.size W5 w'∧w'.cell? ⟨w.heap.size,3,none⟩=some (.int .i64 m.rise)∧w'.cell? ⟨w.heap.size,4,none⟩=some (.int .i64 m.fall)∧w'.cell? ⟨Bz,0,none⟩=some (.int .i64 0)∧w'.cell? ⟨Bz,1,none⟩=some (.int .i64 1)∧w'.cell? ⟨Bb,0,none⟩=some (.int .i64 0)∧w'.cell? ⟨Bk,0,none⟩=some (.func (.func 121) #[] #[.pointer (some ⟨Bb,0,none⟩)])∧w'.cell? ⟨B13,0,none⟩=some (.int .i64 rn)∧w'.cell? ⟨B13,1,none⟩=some (.int .i64 rd)∧w'.cell? ⟨B14,0,none⟩=some (.int .i64 fn)∧w'.cell? ⟨B14,1,none⟩=some (.int .i64 fd)∧w'.cell? ⟨B15,0,none⟩=some (.int .i64 sn)∧w'.cell? ⟨B15,1,none⟩=some (.int .i64 sd)∧w'.cell? ⟨B16,0,none⟩=some (.int .i64 kn)∧w'.cell? ⟨B16,1,none⟩=some (.int .i64 kd)∧w'.cell? ⟨B17,0,none⟩=some (.int .i64 pn)∧w'.cell? ⟨B17,1,none⟩=some (.int .i64 pd)∧w'.cell? ⟨B18,0,none⟩=some (.int .i64 en)∧w'.cell? ⟨B18,1,none⟩=some (.int .i64 ed)):=lh fun w' h=>⟨h,(h.cell (p:=⟨w.heap.size,3,none⟩) (wl x0)).trans x0,(h.cell (p:=⟨w.heap.size,4,none⟩) (wl x1)).trans x1,(h.cell (p:=⟨Bz,0,none⟩) (wl x2)).trans x2,(h.cell (p:=⟨Bz,1,none⟩) (wl x3)).trans x3,(h.cell (p:=⟨Bb,0,none⟩) (wl x4)).trans x4,(h.cell (p:=⟨Bk,0,none⟩) (wl x5)).trans x5,(h.cell (p:=⟨B13,0,none⟩) (wl x6)).trans x6,(h.cell (p:=⟨B13,1,none⟩) (wl x7)).trans x7,(h.cell (p:=⟨B14,0,none⟩) (wl x8)).trans x8,(h.cell (p:=⟨B14,1,none⟩) (wl x9)).trans x9,(h.cell (p:=⟨B15,0,none⟩) (wl x10)).trans x10,(h.cell (p:=⟨B15,1,none⟩) (wl x11)).trans x11,(h.cell (p:=⟨B16,0,none⟩) (wl x12)).trans x12,(h.cell (p:=⟨B16,1,none⟩) (wl x13)).trans x13,(h.cell (p:=⟨B17,0,none⟩) (wl x14)).trans x14,(h.cell (p:=⟨B17,1,none⟩) (wl x15)).trans x15,(h.cell (p:=⟨B18,0,none⟩) (wl x16)).trans x16,(h.cell (p:=⟨B18,1,none⟩) (wl x17)).trans x17⟩;have hbr:=Below.refl W5.heap.size W5;have hbd:=hbr.drew;obtain⟨i0,hi,hz0,hz1,hz2⟩:=info_parts piece_info;have W5s:=W5b.size;have HS2:Hid (∀w',Below W5.heap.size W5 w'→Below W5.heap.size W5 w'∧w'.cell? ⟨w.heap.size,3,none⟩=some (.int .i64 m.rise)∧w'.cell? ⟨Bz,0,none⟩=some (.int .i64 0)∧w'.cell? ⟨Bz,1,none⟩=some (.int .i64 1)∧w'.cell? ⟨Bk,0,none⟩=some (.func (.func 121) #[] #[.pointer (some ⟨Bb,0,none⟩)])):=lh fun w' h=>⟨h,(HS.out w' h).2.1,(HS.out w' h).2.2.2.1,(HS.out w' h).2.2.2.2.1,(HS.out w' h).2.2.2.2.2.2.1⟩;refine cv17 HS2 M5 ?_;intro u19 u20 u21 u22 u23 u24 u25 u26 u27 u28 u29 u30 u31 u32 u33 u34 u35 u36 u37 u38 u39 u40 u41 u42 u43 u44 u45 u46 u47 u48 u49 u50 u51 u52 u53 u54 u55 u56 u57 u58 u59 u60 u61 u62 u63 u64 u65 u66 u67 u68 u69 u70 u71 u72 u73 u74 u75 u76 u77 u78 u79 u80 u81 u82 u83 u84 u85 u86 u87 u88 u89 u90 u91 u92 u93 u94 u95 u96 u97 u98 u99 u100 u101 u102 u103 u104 u105 u106 u107 u108 u109 u110 u111 u112 u113 u114 u115 u116 u117 u118 u119 u120 u121 u122 u123 u124 u125 u126 u127 u128 u129 u130 u131 u132 u133 u134 u135 u136 u137 u138 u139 u140 u141 u142 u143 u144 u145 u146 u147 u148 u149 u150 u151 u152 u153 u154 u155 u156 wc hcut
     clear HS2
     ·obtain⟨HR,hBn⟩:=hcut
      obtain⟨r19,rfl⟩:∃x:Value,x=u19:=⟨_,rfl⟩;obtain⟨W6,rfl⟩:∃x:World,x=wc:=⟨_,rfl⟩;clear x0 x1 x2 x3 x4 x5 x6 x7 x8 x9 x10 x11 x12 x13 x14 x15 x16 x17;obtain⟨_,x0,x1,x2,x3,x4,x5,x6,x7,x8,x9,x10,x11,x12,x13,x14,x15,x16,x17⟩:=HS.out _ hBn
      go_upto_if 113 with (fail)
      go_cut [19] (fun v wx=>Hid (∃M:List Pc,M=[⟨0,1,0,1,0,1,cn,cd⟩]++(if kn=0 then[]else[⟨sn,sd,rn,rd,t,1,0,1⟩])∧wx.ownsRow W5.heap.size 122 8 v M.length (pcflat M))∧Below W5.heap.size W5 wx)
      case first=>
       by_cases hk:kn=0
       ·have z1:(kn !=0)=false:=by simpa using hk
        have z2:(kn==0)=true:=by simpa using hk
        go_wp2_with fail
        go_meet
        exact⟨lh ⟨_,rfl,by rw[if_pos hk];exact HR.out⟩,hBn⟩
       ·have z1:(kn !=0)=true:=by simpa using hk
        have z2:(kn==0)=false:=by simpa using hk
        have HS2:Hid (∀w',Below W5.heap.size W5 w'→Below W5.heap.size W5 w'∧w'.cell? ⟨Bz,0,none⟩=some (.int .i64 0)∧w'.cell? ⟨Bz,1,none⟩=some (.int .i64 1)∧w'.cell? ⟨B13,0,none⟩=some (.int .i64 rn)∧w'.cell? ⟨B13,1,none⟩=some (.int .i64 rd)∧w'.cell? ⟨B15,0,none⟩=some (.int .i64 sn)∧w'.cell? ⟨B15,1,none⟩=some (.int .i64 sd)):=lh fun w' h=>⟨h,(HS.out w' h).2.2.2.1,(HS.out w' h).2.2.2.2.1,(HS.out w' h).2.2.2.2.2.2.2.1,(HS.out w' h).2.2.2.2.2.2.2.2.1,(HS.out w' h).2.2.2.2.2.2.2.2.2.2.2.1,(HS.out w' h).2.2.2.2.2.2.2.2.2.2.2.2.1⟩;have HNK:=lh hk;clear hk
        go_upto_region 19 with (fail)
        clear z1 z2 x0 x1 x2 x3 x4 x5 x6 x7 x8 x9 x10 x11 x12 x13 x14 x15 x16 x17;refine cv19 HS2 HNK HR hBn ?_;intro u19 u20 u21 u22 u23 u24 u25 u26 u27 u28 u29 u30 u31 u32 u33 u34 u35 u36 u37 u38 u39 u40 u41 u42 u43 u44 u45 u46 u47 u48 u49 u50 u51 u52 u53 u54 u55 u56 u57 u58 u59 u60 u61 u62 u63 u64 u65 u66 u67 u68 u69 u70 u71 u72 u73 u74 u75 u76 u77 u78 u79 u80 u81 u82 u83 u84 u85 u86 u87 u88 u89 u90 u91 u92 u93 u94 u95 u96 u97 u98 u99 u100 u101 u102 u103 u104 u105 u106 u107 u108 u109 u110 u111 u112 u113 u114 u115 u116 u117 u118 u119 u120 u121 u122 u123 u124 u125 u126 u127 u128 u129 u130 u131 u132 u133 u134 u135 u136 u137 u138 u139 u140 u141 u142 u143 u144 u145 u146 u147 u148 u149 u150 u151 u152 u153 u154 u155 u156 wc hcut
        go_wp2_with fail
        go_meet
        exact hcut
      case rest=>
       obtain⟨HM,hBm⟩:=hcut;obtain⟨r20,rfl⟩:∃x:Value,x=u19:=⟨_,rfl⟩;obtain⟨W7,rfl⟩:∃x:World,x=wc:=⟨_,rfl⟩;clear hBn HR x0 x1 x2 x3 x4 x5 x6 x7 x8 x9 x10 x11 x12 x13 x14 x15 x16 x17;obtain⟨M,hM,hMo⟩:=HM.out;have HR:=lh hMo;have hMl:M.length≤2:=by rw[hM];split<;>simp
       have HMM:=lh hM;clear hM hMo HM;obtain⟨_,x0,x1,x2,x3,x4,x5,x6,x7,x8,x9,x10,x11,x12,x13,x14,x15,x16,x17⟩:=HS.out _ hBm
       go_upto_region 20 with (fail)
       have HS2:Hid (∀w',Below W5.heap.size W5 w'→Below W5.heap.size W5 w'∧w'.cell? ⟨w.heap.size,4,none⟩=some (.int .i64 m.fall)∧w'.cell? ⟨Bz,0,none⟩=some (.int .i64 0)∧w'.cell? ⟨Bz,1,none⟩=some (.int .i64 1)∧w'.cell? ⟨Bk,0,none⟩=some (.func (.func 121) #[] #[.pointer (some ⟨Bb,0,none⟩)])∧w'.cell? ⟨B14,0,none⟩=some (.int .i64 fn)∧w'.cell? ⟨B14,1,none⟩=some (.int .i64 fd)∧w'.cell? ⟨B17,0,none⟩=some (.int .i64 pn)∧w'.cell? ⟨B17,1,none⟩=some (.int .i64 pd)∧w'.cell? ⟨B18,0,none⟩=some (.int .i64 en)∧w'.cell? ⟨B18,1,none⟩=some (.int .i64 ed)):=lh fun w' h=>⟨h,(HS.out w' h).2.2.1,(HS.out w' h).2.2.2.1,(HS.out w' h).2.2.2.2.1,(HS.out w' h).2.2.2.2.2.2.1,(HS.out w' h).2.2.2.2.2.2.2.2.2.1,(HS.out w' h).2.2.2.2.2.2.2.2.2.2.1,(HS.out w' h).2.2.2.2.2.2.2.2.2.2.2.2.2.2.2.1,(HS.out w' h).2.2.2.2.2.2.2.2.2.2.2.2.2.2.2.2.1,(HS.out w' h).2.2.2.2.2.2.2.2.2.2.2.2.2.2.2.2.2.1,(HS.out w' h).2.2.2.2.2.2.2.2.2.2.2.2.2.2.2.2.2.2⟩;refine cv20 HS2 S3 M6 hMl hNF HR hBm ?_;intro u19 u20 u21 u22 u23 u24 u25 u26 u27 u28 u29 u30 u31 u32 u33 u34 u35 u36 u37 u38 u39 u40 u41 u42 u43 u44 u45 u46 u47 u48 u49 u50 u51 u52 u53 u54 u55 u56 u57 u58 u59 u60 u61 u62 u63 u64 u65 u66 u67 u68 u69 u70 u71 u72 u73 u74 u75 u76 u77 u78 u79 u80 u81 u82 u83 u84 u85 u86 u87 u88 u89 u90 u91 u92 u93 u94 u95 u96 u97 u98 u99 u100 u101 u102 u103 u104 u105 u106 u107 u108 u109 u110 u111 u112 u113 u114 u115 u116 u117 u118 u119 u120 u121 u122 u123 u124 u125 u126 u127 u128 u129 u130 u131 u132 u133 u134 u135 u136 u137 u138 u139 u140 u141 u142 u143 u144 u145 u146 u147 u148 u149 u150 u151 u152 u153 u154 u155 u156 wc hcut;clear HS2
       ·obtain⟨HF,hBf⟩:=hcut
        obtain⟨r21,rfl⟩:∃x:Value,x=u19:=⟨_,rfl⟩;obtain⟨W8,rfl⟩:∃x:World,x=wc:=⟨_,rfl⟩;clear x0 x1 x2 x3 x4 x5 x6 x7 x8 x9 x10 x11 x12 x13 x14 x15 x16 x17;obtain⟨_,x0,x1,x2,x3,x4,x5,x6,x7,x8,x9,x10,x11,x12,x13,x14,x15,x16,x17⟩:=HS.out _ hBf
        go_wp2_with fail
        go_ret2
        refine⟨lh ⟨_,rfl,?_⟩,W5b.trans (hBf.mono W5b.size)⟩;have e:L=(M++([⟨pn,pd,hn,hd,t,1,mn,md⟩,⟨en,ed,d,1,0,1,0,1⟩]:List Pc)):=by rw[HL.out,←HMM.out]
        rw[e];exact own_base HF.out W5b.size
theorem valid_neg{n d:Int}(h:validF n d=true):validF (-n) d=true:=by
 obtain⟨h1,h2,h3,h4,h5⟩:=(validF_iff _ _).1 h;exact(validF_iff _ _).2 ⟨h1,h2,by omega,by omega,by rw[Int.neg_gcd];exact h5⟩
theorem valid_flip{n d:Int}(h:validF n d=true)(hn:0<n):validF d n=true:=by
 obtain⟨h1,h2,h3,h4,h5⟩:=(validF_iff _ _).1 h;exact(validF_iff _ _).2 ⟨by omega,h4,by omega,h2,by rw[Int.gcd_comm];exact h5⟩
theorem sub_any(an ad bn bd:Int)(va:validF an ad=true)(vb:validF bn bd=true)(hsum:(an.natAbs:Int)*(bd/(Int.gcd ad bd:Int))+(bn.natAbs:Int)*(ad/(Int.gcd ad bd:Int))<18446744073709551616)(hden:ad*bd<18446744073709551616)(w:World):
  Calls Tryz.prog 102 #[.agg #[.int .i64 an,.int .i64 ad],.agg #[.int .i64 bn,.int .i64 bd]] w fun e w'=>e=.returned (.tuple #[.agg #[.int .i64 (addP an ad (-bn) bd).1,.int .i64 (addP an ad (-bn) bd).2.1],.int .i64 (addP an ad (-bn) bd).2.2])∧Below w.heap.size w w':=by
 obtain⟨P,hP⟩:=nm (addP an ad (-bn) bd);have HPP:=lh hP;rw[hP];clear hP;obtain⟨b1,b2,b3,b4,b5⟩:=(validF_iff _ _).1 vb;have wn:IntKind.i64.wrap (-bn)=-bn:=IntWalk.i64_in _ (by omega);have HVA:=lh va;have HVB:=lh vb;have HC:=lh (add_any an ad (-bn) bd va (valid_neg vb) (by rw[Int.natAbs_neg];exact hsum) hden);clear va vb hsum hden b5
 go_enter Tryz.func102,Tryz.ntmps102
 go_wp2_with (first
  | (go_at_call 68;(with_reducible refine(valid_any an ad _).mono ?_);rintro e w1 ⟨rfl,hb1⟩;rw[HVA.out];have z0:w1.cell? ⟨w.heap.size,0,none⟩=some (.int .i64 an):=(hb1.cell (p:=⟨w.heap.size,0,none⟩) (by simp<;>omega)).trans (by simp[go_sem,World.cell?_alloc_past]);have z1:w1.cell? ⟨w.heap.size,1,none⟩=some (.int .i64 ad):=(hb1.cell (p:=⟨w.heap.size,1,none⟩) (by simp<;>omega)).trans (by simp[go_sem,World.cell?_alloc_past]);have z2:w1.cell? ⟨w.heap.size+1,0,none⟩=some (.int .i64 bn):=(hb1.cell (p:=⟨w.heap.size+1,0,none⟩) (by simp<;>omega)).trans (by simp[go_sem,World.cell?_alloc_past]);have z3:w1.cell? ⟨w.heap.size+1,1,none⟩=some (.int .i64 bd):=(hb1.cell (p:=⟨w.heap.size+1,1,none⟩) (by simp<;>omega)).trans (by simp[go_sem,World.cell?_alloc_past]))
  | (go_at_call 68;(with_reducible refine(valid_any bn bd _).mono ?_);rintro e w2 ⟨rfl,hb2⟩;rw[HVB.out];have z4:w2.cell? ⟨w.heap.size,0,none⟩=some (.int .i64 an):=(hb2.cell (p:=⟨w.heap.size,0,none⟩) (wl z0)).trans z0;have z5:w2.cell? ⟨w.heap.size,1,none⟩=some (.int .i64 ad):=(hb2.cell (p:=⟨w.heap.size,1,none⟩) (wl z1)).trans z1;have z6:w2.cell? ⟨w.heap.size+1,0,none⟩=some (.int .i64 bn):=(hb2.cell (p:=⟨w.heap.size+1,0,none⟩) (wl z2)).trans z2;have z7:w2.cell? ⟨w.heap.size+1,1,none⟩=some (.int .i64 bd):=(hb2.cell (p:=⟨w.heap.size+1,1,none⟩) (wl z3)).trans z3)
  | (go_at_call 124;(with_reducible refine(HC.out _).mono ?_);rintro e w3 ⟨rfl,hb3⟩;rw[HPP.out];have hb4:=hb1.trans ((hb2.trans (hb3.mono hb2.size)).mono hb1.size);have l4:w3.cell? ⟨w.heap.size+1+1,0,none⟩=some (.int .i64 0):=(hb4.cell (p:=⟨w.heap.size+1+1,0,none⟩) (by simp<;>omega)).trans (by simp[go_sem]);have l5:w3.cell? ⟨w.heap.size+1+1,1,none⟩=some (.int .i64 0):=(hb4.cell (p:=⟨w.heap.size+1+1,1,none⟩) (by simp<;>omega)).trans (by simp[go_sem]);have l6:w3.frozen? ⟨w.heap.size+1+1,0,none⟩=false:=(hb4.frozen (p:=⟨w.heap.size+1+1,0,none⟩) (by simp<;>omega)).trans (by simp[go_sem]);have l7:w3.frozen? ⟨w.heap.size+1+1,1,none⟩=false:=(hb4.frozen (p:=⟨w.heap.size+1+1,1,none⟩) (by simp<;>omega)).trans (by simp[go_sem])))
 have s2:=(two_cells (v0:=.int .i64 P.1) (v1:=.int .i64 P.2.1) l4 l5).1;have s3:=(two_cells (v0:=.int .i64 P.1) (v1:=.int .i64 P.2.1) l4 l5).2;refine bodyPost_ret (v:=.tuple #[.agg #[.int .i64 P.1,.int .i64 P.2.1],.int .i64 P.2.2]) (by simp[results,Tryz.results102,go_sem,s2,s3]) rfl ⟨rfl,?_⟩;have hBW:=(((below_new w (.cells #[.int .i64 an,.int .i64 ad] 49)).alloc (by simp) (.cells #[.int .i64 bn,.int .i64 bd] 49)).alloc (by simp<;>omega) (.cells #[.int .i64 0,.int .i64 0] 49)).trans (hb4.mono (by simp<;>omega));exact(hBW.setCell (p:=⟨w.heap.size+1+1,0,none⟩) (by simp<;>omega) _).setCell (p:=⟨w.heap.size+1+1,1,none⟩) (by simp<;>omega) _

theorem divP_any(an ad bn bd:Int)(va:validF an ad=true)(vb:validF bn bd=true)(hn:0<bn)(w:World):
  Calls Tryz.prog 125 #[.agg #[.int .i64 an,.int .i64 ad],.agg #[.int .i64 bn,.int .i64 bd]] w fun e w'=>e=.returned (.tuple #[.agg #[.int .i64 (mulP an ad bd bn).1,.int .i64 (mulP an ad bd bn).2.1],.int .i64 (mulP an ad bd bn).2.2])∧Below w.heap.size w w':=by
 obtain⟨P,hP⟩:=nm (mulP an ad bd bn);have HPP:=lh hP;rw[hP];clear hP;obtain⟨b1,b2,b3,b4,b5⟩:=(validF_iff _ _).1 vb;have nz:(bn==0)=false:=by simp;omega
 have dn:decide (bn<0)=false:=dF (by omega);have HVA:=lh va;have HVB:=lh vb;have HC:=lh (mul_any an ad bd bn va (valid_flip vb hn));clear va vb b5
 go_enter Tryz.func125,Tryz.ntmps125
 go_wp2_with (first
  | (go_at_call 68;(with_reducible refine(valid_any an ad _).mono ?_);rintro e w1 ⟨rfl,hb1⟩;rw[HVA.out];have z0:w1.cell? ⟨w.heap.size,0,none⟩=some (.int .i64 an):=(hb1.cell (p:=⟨w.heap.size,0,none⟩) (by simp<;>omega)).trans (by simp[go_sem,World.cell?_alloc_past]);have z1:w1.cell? ⟨w.heap.size,1,none⟩=some (.int .i64 ad):=(hb1.cell (p:=⟨w.heap.size,1,none⟩) (by simp<;>omega)).trans (by simp[go_sem,World.cell?_alloc_past]);have z2:w1.cell? ⟨w.heap.size+1,0,none⟩=some (.int .i64 bn):=(hb1.cell (p:=⟨w.heap.size+1,0,none⟩) (by simp<;>omega)).trans (by simp[go_sem,World.cell?_alloc_past]);have z3:w1.cell? ⟨w.heap.size+1,1,none⟩=some (.int .i64 bd):=(hb1.cell (p:=⟨w.heap.size+1,1,none⟩) (by simp<;>omega)).trans (by simp[go_sem,World.cell?_alloc_past]))
  | (go_at_call 68;(with_reducible refine(valid_any bn bd _).mono ?_);rintro e w2 ⟨rfl,hb2⟩;rw[HVB.out];have z4:w2.cell? ⟨w.heap.size,0,none⟩=some (.int .i64 an):=(hb2.cell (p:=⟨w.heap.size,0,none⟩) (wl z0)).trans z0;have z5:w2.cell? ⟨w.heap.size,1,none⟩=some (.int .i64 ad):=(hb2.cell (p:=⟨w.heap.size,1,none⟩) (wl z1)).trans z1;have z6:w2.cell? ⟨w.heap.size+1,0,none⟩=some (.int .i64 bn):=(hb2.cell (p:=⟨w.heap.size+1,0,none⟩) (wl z2)).trans z2;have z7:w2.cell? ⟨w.heap.size+1,1,none⟩=some (.int .i64 bd):=(hb2.cell (p:=⟨w.heap.size+1,1,none⟩) (wl z3)).trans z3)
  | (go_at_call 75;(with_reducible refine(HC.out _).mono ?_);rintro e w3 ⟨rfl,hb3⟩;rw[HPP.out];have hb4:=hb1.trans ((hb2.trans (hb3.mono hb2.size)).mono hb1.size);have l4:w3.cell? ⟨w.heap.size+1+1,0,none⟩=some (.int .i64 0):=(hb4.cell (p:=⟨w.heap.size+1+1,0,none⟩) (by simp<;>omega)).trans (by simp[go_sem]);have l5:w3.cell? ⟨w.heap.size+1+1,1,none⟩=some (.int .i64 0):=(hb4.cell (p:=⟨w.heap.size+1+1,1,none⟩) (by simp<;>omega)).trans (by simp[go_sem]);have l6:w3.frozen? ⟨w.heap.size+1+1,0,none⟩=false:=(hb4.frozen (p:=⟨w.heap.size+1+1,0,none⟩) (by simp<;>omega)).trans (by simp[go_sem]);have l7:w3.frozen? ⟨w.heap.size+1+1,1,none⟩=false:=(hb4.frozen (p:=⟨w.heap.size+1+1,1,none⟩) (by simp<;>omega)).trans (by simp[go_sem])))
 have s2:=(two_cells (v0:=.int .i64 P.1) (v1:=.int .i64 P.2.1) l4 l5).1;have s3:=(two_cells (v0:=.int .i64 P.1) (v1:=.int .i64 P.2.1) l4 l5).2;refine bodyPost_ret (v:=.tuple #[.agg #[.int .i64 P.1,.int .i64 P.2.1],.int .i64 P.2.2]) (by simp[results,Tryz.results125,go_sem,s2,s3]) rfl ⟨rfl,?_⟩;have hBW:=(((below_new w (.cells #[.int .i64 an,.int .i64 ad] 49)).alloc (by simp) (.cells #[.int .i64 bn,.int .i64 bd] 49)).alloc (by simp<;>omega) (.cells #[.int .i64 0,.int .i64 0] 49)).trans (hb4.mono (by simp<;>omega));exact(hBW.setCell (p:=⟨w.heap.size+1+1,0,none⟩) (by simp<;>omega) _).setCell (p:=⟨w.heap.size+1+1,1,none⟩) (by simp<;>omega) _
theorem make_low{n d:Int}(hd:0<d):makeP n d=fitP (lowN n d) (lowD n d):=by
 unfold makeP;rw[if_neg (by omega)];have e1:((n.natAbs:Int))/(Int.gcd n d:Int)=((lowN n d).natAbs:Int):=by rw[lowN_abs,Int.natCast_ediv]
 have e2:((d.natAbs:Int))/(Int.gcd n d:Int)=lowD n d:=by rw[show(d.natAbs:Int)=d by omega];rfl
 rw[e1,e2];refine sign_fit ?_;have:=low_sign (n:=n) hd;rw[dF (show ¬d<0 by omega),Bool.eq_iff_iff]
 simp
 rw[this];omega
theorem fit_small{p q:Int}(h1:p.natAbs≤1152921504606846976)(h2:q≤1152921504606846976):fitP p q=(p,q,0):=by
 unfold fitP;rw[if_neg (by omega)]
theorem fit_low{n d:Int}(hd:0<d)(h1:-1152921504606846976≤n)(h1':n≤1152921504606846976)(h2:d≤1152921504606846976):fitP (lowN n d) (lowD n d)=(lowN n d,lowD n d,0):=by
 have a:=lowN_le n d;have b:=lowD_le (n:=n) hd;exact fit_small (by omega) (by omega)
theorem add_low{n1 d1 n2 d2 N D:Int}(h1:0<d1)(h2:0<d2)(hD:0<D)(h:(n1*d2+n2*d1)*D=N*(d1*d2)):
  lowN (lowN n1 d1*lowD n2 d2+lowN n2 d2*lowD n1 d1) (lowD n1 d1*lowD n2 d2)=lowN N D∧lowD (lowN n1 d1*lowD n2 d2+lowN n2 d2*lowD n1 d1) (lowD n1 d1*lowD n2 d2)=lowD N D:=by
 have a1:=lowN_mul n1 d1;have a2:=lowD_mul n1 d1;have b1:=lowN_mul n2 d2;have b2:=lowD_mul n2 d2;have g1:=gcd_posR (n:=n1) h1;have g2:=gcd_posR (n:=n2) h2;have p1:=lowD_pos (n:=n1) h1;have p2:=lowD_pos (n:=n2) h2;refine low_same (Int.mul_pos p1 p2) hD ?_;generalize lowN n1 d1=x1 at *;generalize lowD n1 d1=y1 at *;generalize lowN n2 d2=x2 at *;generalize lowD n2 d2=y2 at *;generalize (Int.gcd n1 d1:Int)=u at *;generalize (Int.gcd n2 d2:Int)=v at *;subst a1 a2 b1 b2;have huv:u*v≠0:=by have:=Int.mul_pos g1 g2;omega
 refine Int.eq_of_mul_eq_mul_right huv ?_
 have e1:(x1*y2+x2*y1)*D*(u*v)=(x1*u*(y2*v)+x2*v*(y1*u))*D:=by
  have:(x1*u*(y2*v)+x2*v*(y1*u))=(x1*y2+x2*y1)*(u*v):=by
   rw[Int.add_mul];congr 1<;>ac_rfl
  rw[this];ac_rfl
 rw[e1,h]
 ac_rfl
theorem mul_low2{n1 d1 n2 d2 N D:Int}(h1:0<d1)(h2:0<d2)(hD:0<D)(h:n1*n2*D=N*(d1*d2)):
  lowN (lowN n1 d1*lowN n2 d2) (lowD n1 d1*lowD n2 d2)=lowN N D∧lowD (lowN n1 d1*lowN n2 d2) (lowD n1 d1*lowD n2 d2)=lowD N D:=by
 have a1:=lowN_mul n1 d1;have a2:=lowD_mul n1 d1;have b1:=lowN_mul n2 d2;have b2:=lowD_mul n2 d2;have g1:=gcd_posR (n:=n1) h1;have g2:=gcd_posR (n:=n2) h2;have p1:=lowD_pos (n:=n1) h1;have p2:=lowD_pos (n:=n2) h2;refine low_same (Int.mul_pos p1 p2) hD ?_;generalize lowN n1 d1=x1 at *;generalize lowD n1 d1=y1 at *;generalize lowN n2 d2=x2 at *;generalize lowD n2 d2=y2 at *;generalize (Int.gcd n1 d1:Int)=u at *;generalize (Int.gcd n2 d2:Int)=v at *;subst a1 a2 b1 b2;have huv:u*v≠0:=by have:=Int.mul_pos g1 g2;omega
 refine Int.eq_of_mul_eq_mul_right huv ?_;have e1:x1*x2*D*(u*v)=x1*u*(x2*v)*D:=by ac_rfl
 rw[e1,h]
 ac_rfl
theorem addP_low{n1 d1 n2 d2 N D:Int}(h1:0<d1)(h2:0<d2)(hD:0<D)(h:(n1*d2+n2*d1)*D=N*(d1*d2))(b1:-1152921504606846976≤N)(b2:N≤1152921504606846976)(b3:D≤1152921504606846976):
  addP (lowN n1 d1) (lowD n1 d1) (lowN n2 d2) (lowD n2 d2)=(lowN N D,lowD N D,0):=by
 unfold addP;obtain⟨e1,e2⟩:=add_low h1 h2 hD h;rw[e1,e2];exact fit_low hD b1 b2 b3
theorem mulP_low{n1 d1 n2 d2 N D:Int}(h1:0<d1)(h2:0<d2)(hD:0<D)(h:n1*n2*D=N*(d1*d2))(b1:-1152921504606846976≤N)(b2:N≤1152921504606846976)(b3:D≤1152921504606846976):
  mulP (lowN n1 d1) (lowD n1 d1) (lowN n2 d2) (lowD n2 d2)=(lowN N D,lowD N D,0):=by
 unfold mulP;obtain⟨e1,e2⟩:=mul_low2 h1 h2 hD h;rw[e1,e2];exact fit_low hD b1 b2 b3
theorem low_one(n:Int):lowN n 1=n∧lowD n 1=1:=low_self (by simp)
def kP(d R F t:Int):Int:=2*R*F*d-t*t*(R+F)
def curveL(d R F t:Int):List Pc:=if d=0 then[⟨0,1,0,1,0,1,0,1⟩]else
 [⟨0,1,0,1,0,1,lowN R 2,lowD R 2⟩]++(if kP d R F t=0 then[]else[⟨lowN t R,lowD t R,lowN (t*t) (2*R),lowD (t*t) (2*R),t,1,0,1⟩])++
 [⟨lowN (2*F*(t*t)+kP d R F t) (2*R*F*t),lowD (2*F*(t*t)+kP d R F t) (2*R*F*t),lowN (2*F*d-t*t) (2*F),lowD (2*F*d-t*t) (2*F),t,1,lowN (-F) 2,lowD (-F) 2⟩,
  ⟨lowN (2*F*(t*t)+kP d R F t+2*R*(t*t)) (2*R*F*t),lowD (2*F*(t*t)+kP d R F t+2*R*(t*t)) (2*R*F*t),d,1,0,1,0,1⟩]
theorem top_pos{d V R F t:Int}(hd:1≤d)(hR:1≤R)(hF:1≤F)(hV:1≤V)(h:IsTop d V R F t):1≤t:=by
 obtain⟨t0,t1,t2,t3⟩:=h;rcases Int.lt_or_le 0 t with l | l
 ·exact l
 ·obtain rfl:t=0:=by omega
  rcases t3 with e | e
  ·omega
  ·refine absurd ?_ e
   unfold Room;have h1:R*1≤R*F:=Int.mul_le_mul_of_nonneg_left hF (by omega);have h2:1*F≤R*F:=Int.mul_le_mul_of_nonneg_right hR (by omega);have h3:R*F*1≤R*F*d:=Int.mul_le_mul_of_nonneg_left hd (Int.mul_nonneg (by omega) (by omega));have e1:2*R*F*d=2*(R*F*d):=by rw[Int.mul_assoc 2,Int.mul_assoc 2]
   rw[e1];omega
structure CurveB(d R F t:Int):Prop where
 T0:1≤t*t
 T1:t*t≤67108864
 k0:0≤kP d R F t
 k1:kP d R F t≤562949953421312
 rf0:1≤2*R*F
 rf1:2*R*F≤536870912
 w0:1≤2*R*F*t
 w1:2*R*F*t≤4398046511104
 a0:1≤2*F*(t*t)
 a1:2*F*(t*t)≤2199023255552
 b0:1≤2*R*(t*t)
 b1:2*R*(t*t)≤2199023255552
 c0:0≤2*R*d
 c1:2*R*d≤34359738368
 e0:0≤2*F*d
 e1:2*F*d≤34359738368
theorem curve_b{d V R F t:Int}(d1:1≤d)(d2:d≤1048576)(R0:1≤R)(R1:R≤16384)(F0:1≤F)(F1:F≤16384)(V0:1≤V)(V1:V≤8192)(h:IsTop d V R F t):CurveB d R F t:=by
 have t0:=top_pos d1 R0 F0 V0 h;obtain⟨_,t1,t2,_⟩:=h;unfold Room at t2;have T0:1*1≤t*t:=Int.mul_le_mul t0 t0 (by decide) (by omega);have T1:t*t≤8192*8192:=Int.mul_le_mul (by omega) (by omega) (by omega) (by decide);have S0:1*1≤t*t*(R+F):=Int.mul_le_mul (by omega) (by omega) (by decide) (by omega);have r0:1*1≤2*R*F:=Int.mul_le_mul (by omega) F0 (by decide) (by omega);have r1:2*R*F≤32768*16384:=Int.mul_le_mul (by omega) F1 (by omega) (by decide);have q1:2*R*F*d≤536870912*1048576:=Int.mul_le_mul (by omega) d2 (by omega) (by decide);have u0:1*1≤2*R*F*t:=Int.mul_le_mul (by omega) t0 (by decide) (by omega);have u1:2*R*F*t≤536870912*8192:=Int.mul_le_mul (by omega) (by omega) (by omega) (by decide);have v0:1*1≤2*F*(t*t):=Int.mul_le_mul (by omega) (by omega) (by decide) (by omega);have v1:2*F*(t*t)≤32768*67108864:=Int.mul_le_mul (by omega) (by omega) (by omega) (by decide);have x0:1*1≤2*R*(t*t):=Int.mul_le_mul (by omega) (by omega) (by decide) (by omega);have x1:2*R*(t*t)≤32768*67108864:=Int.mul_le_mul (by omega) (by omega) (by omega) (by decide);have y0:=Int.mul_nonneg (show 0≤2*R by omega) (show 0≤d by omega);have y1:2*R*d≤32768*1048576:=Int.mul_le_mul (by omega) d2 (by omega) (by decide);have z0:=Int.mul_nonneg (show 0≤2*F by omega) (show 0≤d by omega);have z1:2*F*d≤32768*1048576:=Int.mul_le_mul (by omega) d2 (by omega) (by decide);exact⟨by omega,by omega,by unfold kP;omega,by unfold kP;omega,by omega,by omega,by omega,by omega,by omega,by omega,by omega,by omega,y0,by omega,z0,by omega⟩
theorem cross1(d R t:Int):(d*(2*R)+-(t*t)*1)*(2*R)=(2*R*d-t*t)*(1*(2*R)):=by
 rw[Int.one_mul,Int.mul_one,Int.mul_comm d (2*R)];rfl
theorem cross2(d R F t:Int):((2*R*d-t*t)*(2*F)+-(t*t)*(2*R))*(2*R*F)=kP d R F t*(2*R*(2*F)):=by
 unfold kP
 grind
theorem cross4(d R F t:Int):(t*(2*R*F*t)+kP d R F t*R)*(2*R*F*t)=(2*F*(t*t)+kP d R F t)*(R*(2*R*F*t)):=by
 generalize kP d R F t=k
 grind
theorem cross5(d R F t:Int):((2*F*(t*t)+kP d R F t)*F+t*(2*R*F*t))*(2*R*F*t)=(2*F*(t*t)+kP d R F t+2*R*(t*t))*(2*R*F*t*F):=by
 generalize kP d R F t=k
 grind
theorem cross6(d F t:Int):(d*(2*F)+-(t*t)*1)*(2*F)=(2*F*d-t*t)*(1*(2*F)):=by
 rw[Int.one_mul,Int.mul_one,Int.mul_comm d (2*F)];rfl

theorem valid_low{n d:Int}(hd:0<d)(h1:-1152921504606846976≤n)(h2:n≤1152921504606846976)(h3:d≤1152921504606846976):validF (lowN n d) (lowD n d)=true:=by
 have a:=lowN_le n d;have b:=lowD_le (n:=n) hd;have c:=lowD_pos (n:=n) hd;exact(validF_iff _ _).2 ⟨by omega,by omega,by omega,by omega,low_cop hd⟩
theorem gives_make{n d:Int}(hn:¬n=0)(hd:0<d)(h1:-1152921504606846976≤n)(h2:n≤1152921504606846976)(h3:d≤1152921504606846976):Gives 53 #[.int .i64 n,.int .i64 d] (lowN n d) (lowD n d):=fun w=>by
 have h:=make_any n d hn (by omega) (by omega) (by omega) (by omega) w;rw[make_low hd,fit_low hd h1 h2 h3]at h;exact h
theorem sum_le{an ad bn bd n1 d1 n2 d2:Int}(ha:0<ad)(hb:0<bd)(h1:an.natAbs≤n1.natAbs)(h2:ad≤d1)(h3:bn.natAbs≤n2.natAbs)(h4:bd≤d2)(h:(n1.natAbs:Int)*d2+(n2.natAbs:Int)*d1<18446744073709551616):
  (an.natAbs:Int)*(bd/(Int.gcd ad bd:Int))+(bn.natAbs:Int)*(ad/(Int.gcd ad bd:Int))<18446744073709551616:=by
 have g:=gcd_posR (n:=ad) hb;have e1:bd/(Int.gcd ad bd:Int)≤d2:=Int.le_trans (Int.ediv_le_self _ (by omega)) h4;have e2:ad/(Int.gcd ad bd:Int)≤d1:=Int.le_trans (Int.ediv_le_self _ (by omega)) h2;have p1:0≤bd/(Int.gcd ad bd:Int):=Int.ediv_nonneg (by omega) (by omega);have p2:0≤ad/(Int.gcd ad bd:Int):=Int.ediv_nonneg (by omega) (by omega);have q1:(an.natAbs:Int)*(bd/(Int.gcd ad bd:Int))≤(n1.natAbs:Int)*d2:=Int.mul_le_mul (by omega) e1 p1 (by omega);have q2:(bn.natAbs:Int)*(ad/(Int.gcd ad bd:Int))≤(n2.natAbs:Int)*d1:=Int.mul_le_mul (by omega) e2 p2 (by omega);omega
theorem gives_add{n1 d1 n2 d2 N D:Int}(h1:0<d1)(h2:0<d2)(hD:0<D)(hc:(n1*d2+n2*d1)*D=N*(d1*d2))(b1:-1152921504606846976≤N)(b2:N≤1152921504606846976)(b3:D≤1152921504606846976)
  (c1:-1152921504606846976≤n1) (c2:n1≤1152921504606846976) (c3:d1≤1152921504606846976) (c4:-1152921504606846976≤n2) (c5:n2≤1152921504606846976) (c6:d2≤1152921504606846976)
  (hs:(n1.natAbs:Int)*d2+(n2.natAbs:Int)*d1<18446744073709551616) (hd:d1*d2<18446744073709551616):
  Gives 124 #[.agg #[.int .i64 (lowN n1 d1),.int .i64 (lowD n1 d1)],.agg #[.int .i64 (lowN n2 d2),.int .i64 (lowD n2 d2)]] (lowN N D) (lowD N D):=fun w=>by
 have p1:=lowD_pos (n:=n1) h1;have p2:=lowD_pos (n:=n2) h2;have l1:=lowD_le (n:=n1) h1;have l2:=lowD_le (n:=n2) h2
 have h:=add_any (lowN n1 d1) (lowD n1 d1) (lowN n2 d2) (lowD n2 d2) (valid_low h1 c1 c2 c3) (valid_low h2 c4 c5 c6) (sum_le p1 p2 (lowN_le _ _) l1 (lowN_le _ _) l2 hs)
  (by have:=Int.mul_le_mul l1 l2 (by omega) (by omega);omega) w
 rw[addP_low h1 h2 hD hc b1 b2 b3]at h;exact h
theorem gives_sub{n1 d1 n2 d2 N D:Int}(h1:0<d1)(h2:0<d2)(hD:0<D)(hc:(n1*d2+-n2*d1)*D=N*(d1*d2))(b1:-1152921504606846976≤N)(b2:N≤1152921504606846976)(b3:D≤1152921504606846976)
  (c1:-1152921504606846976≤n1) (c2:n1≤1152921504606846976) (c3:d1≤1152921504606846976) (c4:-1152921504606846976≤n2) (c5:n2≤1152921504606846976) (c6:d2≤1152921504606846976)
  (hs:(n1.natAbs:Int)*d2+(n2.natAbs:Int)*d1<18446744073709551616) (hd:d1*d2<18446744073709551616):
  Gives 102 #[.agg #[.int .i64 (lowN n1 d1),.int .i64 (lowD n1 d1)],.agg #[.int .i64 (lowN n2 d2),.int .i64 (lowD n2 d2)]] (lowN N D) (lowD N D):=fun w=>by
 have p1:=lowD_pos (n:=n1) h1;have p2:=lowD_pos (n:=n2) h2;have l1:=lowD_le (n:=n1) h1;have l2:=lowD_le (n:=n2) h2
 have h:=sub_any (lowN n1 d1) (lowD n1 d1) (lowN n2 d2) (lowD n2 d2) (valid_low h1 c1 c2 c3) (valid_low h2 c4 c5 c6) (sum_le p1 p2 (lowN_le _ _) l1 (lowN_le _ _) l2 hs)
  (by have:=Int.mul_le_mul l1 l2 (by omega) (by omega);omega) w
 rw[←lowN_neg,show lowD n2 d2=lowD (-n2) d2 from(lowD_neg _ _).symm,addP_low h1 h2 hD hc b1 b2 b3]at h;rw[show lowD n2 d2=lowD (-n2) d2 from(lowD_neg _ _).symm];exact h
theorem gives_div{n1 d1 t:Int}(h1:0<d1)(ht:1≤t)(ht2:t≤8192)(b1:-1152921504606846976≤n1)(b2:n1≤1152921504606846976)(b3:d1*t≤1152921504606846976)(c3:d1≤1152921504606846976):
  Gives 125 #[.agg #[.int .i64 (lowN n1 d1),.int .i64 (lowD n1 d1)],.agg #[.int .i64 t,.int .i64 1]] (lowN n1 (d1*t)) (lowD n1 (d1*t)):=fun w=>by
 have hv:validF t 1=true:=(validF_iff _ _).2 ⟨by omega,by omega,by omega,by omega,by simp⟩;have h:=divP_any (lowN n1 d1) (lowD n1 d1) t 1 (valid_low h1 b1 b2 c3) hv (by omega) w;have e:=low_self (p:=1) (q:=t) (by simp)
 have h2:mulP (lowN n1 d1) (lowD n1 d1) 1 t=(lowN n1 (d1*t),lowD n1 (d1*t),0):=by
  have h3:=mulP_low (n1:=n1) (d1:=d1) (n2:=1) (d2:=t) (N:=n1) (D:=d1*t) h1 (by omega) (Int.mul_pos h1 (by omega)) (by rw[Int.mul_one]) b1 b2 b3;rw[e.1,e.2]at h3;exact h3
 rw[h2]at h;exact h
theorem abs_le{n:Int}{b:Int}(h1:0≤n)(h2:n≤b):(n.natAbs:Int)≤b:=by omega

theorem curve_any(d:Int)(m:Mv)(t:Int)(hg:givenP d m=0)(hd0:¬d=0)(ht:IsTop d m.spd m.rise m.fall t)(w:World):
  Calls Tryz.prog 80 #[.int .i64 d,.agg #[.string m.name,.int .i64 m.to,.int .i64 m.spd,.int .i64 m.rise,.int .i64 m.fall]] w fun e w'=>Hid (∃v,e=.returned (.tuple #[v,.int .i64 0])∧w'.ownsRow w.heap.size 122 8 v (curveL d m.rise m.fall t).length (pcflat (curveL d m.rise m.fall t)))∧Below w.heap.size w w':=by
 obtain⟨hv,hd⟩:=given_ok hg;obtain⟨V0,V1,R0,R1,F0,F1⟩:=valid_bds hv;obtain⟨d1,d2⟩:=inB_iff.1 hd;have t0:=top_pos (by omega) R0 F0 V0 ht;have t1:t≤8192:=by have:=ht.2.1;omega
 have B:=curve_b (by omega) d2 R0 R1 F0 F1 V0 V1 ht;obtain⟨T0,T1,k0,k1,rf0,rf1,w0,w1,a0,a1,b0,b1,c0,c1,e0,e1⟩:=B;have o1:=low_one d;have o2:=low_one t
 refine curve_walk d m t (t*t) (2*m.rise) (2*m.fall) (lowN (t*t) (2*m.rise)) (lowD (t*t) (2*m.rise)) (lowN (t*t) (2*m.fall)) (lowD (t*t) (2*m.fall)) (lowN t m.rise) (lowD t m.rise)
  (lowN (2*m.rise*d-t*t) (2*m.rise)) (lowD (2*m.rise*d-t*t) (2*m.rise)) (lowN (kP d m.rise m.fall t) (2*m.rise*m.fall)) (lowD (kP d m.rise m.fall t) (2*m.rise*m.fall))
  (lowN (kP d m.rise m.fall t) (2*m.rise*m.fall*t)) (lowD (kP d m.rise m.fall t) (2*m.rise*m.fall*t))
  (lowN (2*m.fall*(t*t)+kP d m.rise m.fall t) (2*m.rise*m.fall*t)) (lowD (2*m.fall*(t*t)+kP d m.rise m.fall t) (2*m.rise*m.fall*t))
  (lowN t m.fall) (lowD t m.fall)
  (lowN (2*m.fall*(t*t)+kP d m.rise m.fall t+2*m.rise*(t*t)) (2*m.rise*m.fall*t)) (lowD (2*m.fall*(t*t)+kP d m.rise m.fall t+2*m.rise*(t*t)) (2*m.rise*m.fall*t))
  (lowN m.rise 2) (lowD m.rise 2) (lowN (2*m.fall*d-t*t) (2*m.fall)) (lowD (2*m.fall*d-t*t) (2*m.fall)) (lowN (-m.fall) 2) (lowD (-m.fall) 2)
  hg hd0 ht (IntWalk.i64_in _ (by omega)) (IntWalk.i64_in _ (by omega)) (IntWalk.i64_in _ (by omega)) (IntWalk.i64_in _ (by omega))
  (gives_make (by omega) (by omega) (by omega) (by omega) (by omega)) (gives_make (by omega) (by omega) (by omega) (by omega) (by omega)) (gives_make (by omega) (by omega) (by omega) (by omega) (by omega))
  (gives_make (by omega) (by omega) (by omega) (by omega) (by omega)) (gives_make (by omega) (by omega) (by omega) (by omega) (by omega)) (gives_make (by omega) (by omega) (by omega) (by omega) (by omega))
  ?_ ?_ ?_ ?_ ?_ ?_ _ ?_ w
 ·have h:=gives_sub (n1:=d) (d1:=1) (n2:=t*t) (d2:=2*m.rise) (N:=2*m.rise*d-t*t) (D:=2*m.rise) (by omega) (by omega) (by omega) (cross1 d m.rise t) (by omega) (by omega) (by omega) (by omega) (by omega) (by omega) (by omega) (by omega) (by omega)
   (by have:=Int.mul_le_mul (abs_le (by omega) d2) (show 2*m.rise≤32768 by omega) (by omega) (by decide);have:=abs_le (n:=t*t) (by omega) T1;omega) (by omega)
  rw[o1.1,o1.2]at h;exact h
 ·exact gives_sub (n1:=2*m.rise*d-t*t) (d1:=2*m.rise) (n2:=t*t) (d2:=2*m.fall) (N:=kP d m.rise m.fall t) (D:=2*m.rise*m.fall) (by omega) (by omega) (by omega) (cross2 d m.rise m.fall t) (by omega) (by omega) (by omega) (by omega) (by omega) (by omega) (by omega) (by omega) (by omega)
   (by have:=Int.mul_le_mul (show((2*m.rise*d-t*t).natAbs:Int)≤34359738368 by omega) (show 2*m.fall≤32768 by omega) (by omega) (by decide);have:=Int.mul_le_mul (abs_le (n:=t*t) (by omega) T1) (show 2*m.rise≤32768 by omega) (by omega) (by decide);omega)
   (by have:=Int.mul_le_mul (show 2*m.rise≤32768 by omega) (show 2*m.fall≤32768 by omega) (by omega) (by decide);omega)
 ·have h:=gives_sub (n1:=d) (d1:=1) (n2:=t*t) (d2:=2*m.fall) (N:=2*m.fall*d-t*t) (D:=2*m.fall) (by omega) (by omega) (by omega) (cross6 d m.fall t) (by omega) (by omega) (by omega) (by omega) (by omega) (by omega) (by omega) (by omega) (by omega)
   (by have:=Int.mul_le_mul (abs_le (by omega) d2) (show 2*m.fall≤32768 by omega) (by omega) (by decide);have:=abs_le (n:=t*t) (by omega) T1;omega) (by omega)
  rw[o1.1,o1.2]at h;exact h
 ·exact gives_div (by omega) t0 t1 (by omega) (by omega) (by omega) (by omega)
 ·exact gives_add (n1:=t) (d1:=m.rise) (n2:=kP d m.rise m.fall t) (d2:=2*m.rise*m.fall*t) (N:=2*m.fall*(t*t)+kP d m.rise m.fall t) (D:=2*m.rise*m.fall*t) (by omega) (by omega) (by omega) (cross4 d m.rise m.fall t) (by omega) (by omega) (by omega) (by omega) (by omega) (by omega) (by omega) (by omega) (by omega)
   (by have:=Int.mul_le_mul (abs_le (n:=t) (by omega) t1) w1 (by omega) (by decide);have:=Int.mul_le_mul (abs_le k0 k1) R1 (by omega) (by decide);omega)
   (by have:=Int.mul_le_mul R1 w1 (by omega) (by decide);omega)
 ·exact gives_add (n1:=2*m.fall*(t*t)+kP d m.rise m.fall t) (d1:=2*m.rise*m.fall*t) (n2:=t) (d2:=m.fall) (N:=2*m.fall*(t*t)+kP d m.rise m.fall t+2*m.rise*(t*t)) (D:=2*m.rise*m.fall*t) (by omega) (by omega) (by omega) (cross5 d m.rise m.fall t) (by omega) (by omega) (by omega) (by omega) (by omega) (by omega) (by omega) (by omega) (by omega)
   (by have:=Int.mul_le_mul (abs_le (n:=2*m.fall*(t*t)+kP d m.rise m.fall t) (b:=565148976676864) (by omega) (by omega)) F1 (by omega) (by decide);have:=Int.mul_le_mul (abs_le (n:=t) (by omega) t1) w1 (by omega) (by decide);omega)
   (by have:=Int.mul_le_mul w1 F1 (by omega) (by decide);omega)
 ·unfold curveL
  rw[if_neg hd0]
  have hk:(lowN (kP d m.rise m.fall t) (2*m.rise*m.fall)=0)=(kP d m.rise m.fall t=0):=by
   refine propext ⟨lowN_zero,fun e=>?_⟩;rw[e];exact(low_zero (by omega)).1
  simp only[hk]
theorem fr_info:(Tryz.prog.info? 49).map (fun i=>(i.zero,i.size,i.bytes))=some (some (.agg #[.int .i64 0,.int .i64 0]),2,16):=by kernel_rfl

theorem fr_append{ops:Array Oper}{rest:List Oper}{o:Oper}{a:Act}{w:World}{Q:Exit→Act→World→Prop}(hgd:o.guard=none)(s x:Operand)
  (ho:o.op=.call {callee:=.builtin .append,args:=#[s,x],argTypes:=#[42,42]})
  (base:Nat) (v:Value) (L:List (Int×Int)) (hs:a.eval s=v) (hown:w.ownsRow base 49 2 v L.length (frflat L))
  (bl:Nat) (y:Int×Int) (hx:a.eval x=.slice (some ⟨bl,0,none⟩) 1 1) (hc:w.cell? ⟨bl,0,none⟩=some (.int .i64 y.1)∧w.cell? ⟨bl,1,none⟩=some (.int .i64 y.2)) (hl:L.length≤1000000) (hbase:base≤w.heap.size)
  (h:∀v' w',w'.ownsRow base 49 2 v' (L++[y]).length (frflat (L++[y]))→w.grownBy w' v.ownBlock→wpList Tryz.prog ops Q rest (a.put o.dst v') w'):wpList Tryz.prog ops Q (o::rest) a w:=by
 obtain⟨i0,hi,hz0,hz1,hz2⟩:=info_parts fr_info;refine wpList_append_own _ hgd s x 42 ho base 49 i0 _ 2 16 Tryz.underlying42 hi hz0 hz1 hz2 rfl (by decide) v L.length (frflat L) hs hown ⟨bl,0,none⟩ 1 1 [.int .i64 y.1,.int .i64 y.2] hx rfl ?_ (by simp[Value.oneCell']) (by unfold maxLen;omega) (by omega) hbase ?_
 ·obtain⟨c0,c1⟩:=hc
  intro j u hj;rw[Go.WideShapes.add_plain,Nat.zero_add]
  match j,hj with
  | 0,hj=>simp at hj;subst hj;exact c0
  | 1,hj=>simp at hj;subst hj;exact c1
 ·intro v' w' h1 h2 _
  refine h v' w' ?_ h2;rw[frflat_snoc,List.length_append];exact h1
def CurveV(w w':World)(d:Int)(m:Mv)(t:Int)(v:Value):Prop:=(givenP d m=0→w'.ownsRow w.heap.size 122 8 v (curveL d m.rise m.fall t).length (pcflat (curveL d m.rise m.fall t)))∧(¬givenP d m=0→v=.slice none 0 0)

theorem Curve_any(d:Int)(m:Mv)(t:Int)(ht:givenP d m=0→IsTop d m.spd m.rise m.fall t)(w:World):
  Calls Tryz.prog 80 #[.int .i64 d,.agg #[.string m.name,.int .i64 m.to,.int .i64 m.spd,.int .i64 m.rise,.int .i64 m.fall]] w fun e w'=>Hid (∃v,e=.returned (.tuple #[v,.int .i64 (givenP d m)])∧CurveV w w' d m t v)∧Below w.heap.size w w':=by
 by_cases hg:givenP d m=0
 ·by_cases hd:d=0
  ·have HG:=lh hg
   have HL:Hid (curveL d m.rise m.fall t=[⟨0,1,0,1,0,1,0,1⟩]):=lh (by unfold curveL;rw[if_pos hd]);have hd':(d==0)=true:=by simpa using hd
   clear hg ht hd
   go_enter Tryz.func80,Tryz.ntmps80
   go_wp2_with (go_at_call 119;(with_reducible refine(given_any d m _).mono ?_);rintro e w1 ⟨rfl,hb1⟩;rw[HG.out];have hB1:=(below_new w (.cells #[.string m.name,.int .i64 m.to,.int .i64 m.spd,.int .i64 m.rise,.int .i64 m.fall] 94)).trans (hb1.mono (by simp)))
   go_ret2
   refine⟨lh ⟨_,congrArg (fun x=>Ending.returned (.tuple #[_,.int .i64 x])) HG.out.symm,fun _=>?_,fun h=>absurd HG.out h⟩,?_⟩
   ·rw[HL.out]
    have h:=World.ownsRow_lit (base:=w.heap.size) (e:=122) (size:=8) (w1.alloc (.cells #[.int .i64 0,.int .i64 1] 49)) #[.int .i64 0,.int .i64 1,.int .i64 0,.int .i64 1,.int .i64 0,.int .i64 1,.int .i64 0,.int .i64 1] 1 (by have:=hB1.size;simp<;>omega) (by unfold maxLen;omega) rfl;rw[World.size_alloc]at h;exact h
   ·exact(hB1.alloc hB1.size _).alloc (by have:=hB1.size;simp<;>omega) _
  ·refine(curve_any d m t hg hd (ht hg) w).mono fun e w' h=>⟨lh ?_,h.2⟩
   obtain⟨v,he,hr⟩:=h.1.out;exact⟨v,by rw[he,hg],fun _=>hr,fun h=>absurd hg h⟩
 ·obtain⟨g,hgg⟩:=nm (givenP d m)
  have HG:=lh hgg;have hg':(g==0)=false:=by rw[←hgg];simpa using hg
  have hg'':(g !=0)=true:=by rw[←hgg];simpa using hg
  have HN:=lh hg;clear hgg ht hg
  go_enter Tryz.func80,Tryz.ntmps80
  go_wp2_with (go_at_call 119;(with_reducible refine(given_any d m _).mono ?_);rintro e w1 ⟨rfl,hb1⟩;rw[HG.out];have hB1:=(below_new w (.cells #[.string m.name,.int .i64 m.to,.int .i64 m.spd,.int .i64 m.rise,.int .i64 m.fall] 94)).trans (hb1.mono (by simp)))
  go_ret2
  exact⟨lh ⟨_,congrArg (fun x=>Ending.returned (.tuple #[_,.int .i64 x])) HG.out.symm,fun h=>absurd h HN.out,fun _=>rfl⟩,hB1⟩

def knTo(L:List Pc):Nat→List (Int×Int)
 | 0=>[]
 | k+1=>knTo L k++[((pcg L k).f0,(pcg L k).f1)]
theorem knTo_len(L:List Pc)(k:Nat):(knTo L k).length=k:=by
 induction k with
 | zero=>rfl
 | succ k ih=>simp[knTo,ih]
def knotsL(d R F t:Int):List (Int×Int):=knTo (curveL d R F t) (curveL d R F t).length
theorem curveL_len(d R F t:Int):1≤(curveL d R F t).length∧(curveL d R F t).length≤4:=by
 unfold curveL
 split
 ·simp
 ·split<;>simp
def KnotsV(w w':World)(d:Int)(m:Mv)(t:Int)(v:Value):Prop:=(givenP d m=0→w'.ownsRow w.heap.size 49 2 v (knotsL d m.rise m.fall t).length (frflat (knotsL d m.rise m.fall t)))∧(¬givenP d m=0→v=.slice none 0 0)

theorem Knots_any(d:Int)(m:Mv)(t:Int)(ht:givenP d m=0→IsTop d m.spd m.rise m.fall t)(w:World):
  Calls Tryz.prog 156 #[.int .i64 d,.agg #[.string m.name,.int .i64 m.to,.int .i64 m.spd,.int .i64 m.rise,.int .i64 m.fall]] w fun e w'=>Hid (∃v,e=.returned (.tuple #[v,.int .i64 (givenP d m)])∧KnotsV w w' d m t v)∧Below w.heap.size w w':=by
 have HC:=lh (Curve_any d m t ht);obtain⟨g,hgg⟩:=nm (givenP d m);have HGG:=lh hgg
 by_cases hg:g=0
 ·have HG0:Hid (givenP d m=0):=lh (hgg.trans hg)
  subst hg;obtain⟨L,hL⟩:=nm (curveL d m.rise m.fall t);have hl:=curveL_len d m.rise m.fall t;rw[hL]at hl;have HL:=lh hL;clear hgg ht hL
  go_enter Tryz.func156,Tryz.ntmps156
  go_wp2_with (go_at_call 80;(with_reducible refine(HC.out _).mono ?_);rintro e w1 ⟨hv,hb1⟩;obtain⟨v,rfl,hrow⟩:=hv.out;rw[HG0.out];have hr1:=hrow.1 HG0.out;rw[HL.out]at hr1;obtain⟨pa,pcap,rfl,hpc1,hpc2,_,hP⟩:=pc_of_row hr1;have HP:=lh hP;have hB1:=(below_new w (.cells #[.string m.name,.int .i64 m.to,.int .i64 m.spd,.int .i64 m.rise,.int .i64 m.fall] 94)).trans (hb1.mono (by simp));clear hrow hr1 hP hv)
  go_loopw [8,22] (fun v i wr=>∃k:Nat,k≤L.length∧i=.int .i64 k∧Below w1.heap.size w1 wr∧Hid (wr.ownsRow w1.heap.size 49 2 v (knTo L k).length (frflat (knTo L k)))) (fun _ i _=>L.length-(intOf i).toNat)
  case atStart=>exact⟨0,Nat.zero_le _,rfl,br,lh (World.ownsRow_nil _ _ _ _)⟩
  case round=>
   obtain⟨k,hk,rfl,hC,HR⟩:=hrel;have hcs:=hC.size
   by_cases hlt:k<L.length
   ·obtain⟨b,off,rfl,hb,hc⟩:=HP.out (by omega)
    obtain⟨c0,c1,c2,c3,c4,c5,c6,c7⟩:=hc k hlt;have d0:=(hC.cell (p:=⟨b,off+k*8,none⟩) hb).trans c0;have d1:=(hC.cell (p:=⟨b,off+k*8+1,none⟩) hb).trans c1;have d2:=(hC.cell (p:=⟨b,off+k*8+2,none⟩) hb).trans c2;have d3:=(hC.cell (p:=⟨b,off+k*8+3,none⟩) hb).trans c3;have d4:=(hC.cell (p:=⟨b,off+k*8+4,none⟩) hb).trans c4;have d5:=(hC.cell (p:=⟨b,off+k*8+5,none⟩) hb).trans c5;have d6:=(hC.cell (p:=⟨b,off+k*8+6,none⟩) hb).trans c6;have d7:=(hC.cell (p:=⟨b,off+k*8+7,none⟩) hb).trans c7;have hkl:(knTo L k).length≤1000000:=by rw[knTo_len];omega
    clear hc c0 c1 c2 c3 c4 c5 c6 c7
    go_wp2_with (at_builtin;refine fr_append rfl _ _ rfl w1.heap.size _ (knTo L k) rfl ((HR.out.alloc (.cells #[.int .i64 (pcg L k).f0,.int .i64 (pcg L k).f1,.int .i64 (pcg L k).a0,.int .i64 (pcg L k).a1,.int .i64 (pcg L k).b0,.int .i64 (pcg L k).b1,.int .i64 (pcg L k).c0,.int .i64 (pcg L k).c1] 122)).alloc (.cells #[.int .i64 (pcg L k).f0,.int .i64 (pcg L k).f1] 49)) _ ((pcg L k).f0,(pcg L k).f1) rfl (by simp) hkl (by first | omega | (simp;omega)) ?_;intro v5 w5 hown5 hg5;have hBn:Below w1.heap.size w1 w5:=grown_own ((HR.out.alloc (.cells #[.int .i64 (pcg L k).f0,.int .i64 (pcg L k).f1,.int .i64 (pcg L k).a0,.int .i64 (pcg L k).a1,.int .i64 (pcg L k).b0,.int .i64 (pcg L k).b1,.int .i64 (pcg L k).c0,.int .i64 (pcg L k).c1] 122)).alloc (.cells #[.int .i64 (pcg L k).f0,.int .i64 (pcg L k).f1] 49)) hg5 ((hC.alloc hcs (.cells #[.int .i64 (pcg L k).f0,.int .i64 (pcg L k).f1,.int .i64 (pcg L k).a0,.int .i64 (pcg L k).a1,.int .i64 (pcg L k).b0,.int .i64 (pcg L k).b1,.int .i64 (pcg L k).c0,.int .i64 (pcg L k).c1] 122)).alloc (by first | omega | (simp;omega)) (.cells #[.int .i64 (pcg L k).f0,.int .i64 (pcg L k).f1] 49)) (by first | omega | (simp;omega)) (Nat.le_refl _))
    go_roundw
    case rel=>exact⟨k+1,by omega,by go_num,hBn,lh hown5⟩
    case measure=>simp[intOf];omega
   ·obtain rfl:k=L.length:=by omega
    go_wp2_with fail
    go_ret2
    refine⟨lh ⟨_,congrArg (fun x=>Ending.returned (.tuple #[_,.int .i64 x])) HG0.out.symm,fun _=>?_,fun h=>absurd HG0.out h⟩,hB1.trans (hC.mono hB1.size)⟩;have hr:=HR.out;unfold knotsL;rw[HL.out];exact own_base hr hB1.size
 ·have HN:Hid (¬givenP d m=0):=lh (by rw[hgg];exact hg)
  have hg':(g==0)=false:=by simpa using hg
  have hg'':(g !=0)=true:=by simpa using hg
  clear hgg ht hg
  go_enter Tryz.func156,Tryz.ntmps156
  go_wp2_with (go_at_call 80;(with_reducible refine(HC.out _).mono ?_);rintro e w1 ⟨hv,hb1⟩;obtain⟨v,rfl,hrow⟩:=hv.out;rw[HGG.out];have hB1:=(below_new w (.cells #[.string m.name,.int .i64 m.to,.int .i64 m.spd,.int .i64 m.rise,.int .i64 m.fall] 94)).trans (hb1.mono (by simp)))
  go_ret2
  exact⟨lh ⟨_,congrArg (fun x=>Ending.returned (.tuple #[_,.int .i64 x])) HGG.out.symm,fun h=>absurd h HN.out,fun _=>rfl⟩,hB1⟩

theorem knTo_at(L:List Pc)(n k:Nat)(h:k<n):frg (knTo L n) k=((pcg L k).f0,(pcg L k).f1):=by
 induction n with
 | zero=>omega
 | succ n ih=>
  unfold knTo;rcases Nat.lt_or_ge k n with l | l
  ·rw[frg_old _ _ _ (by rw[knTo_len];exact l)];exact ih l
  ·obtain rfl:k=n:=by omega
   have:=frg_new (knTo L k) ((pcg L k).f0,(pcg L k).f1)
   rwa [knTo_len]at this
def timeP(d:Int)(m:Mv)(t:Int):Int×Int:=if givenP d m=0 then frg (knotsL d m.rise m.fall t) ((knotsL d m.rise m.fall t).length-1)else(0,0)

theorem Time_any(d:Int)(m:Mv)(t:Int)(ht:givenP d m=0→IsTop d m.spd m.rise m.fall t)(w:World):
  Calls Tryz.prog 108 #[.int .i64 d,.agg #[.string m.name,.int .i64 m.to,.int .i64 m.spd,.int .i64 m.rise,.int .i64 m.fall]] w fun e w'=>e=.returned (.tuple #[.agg #[.int .i64 (timeP d m t).1,.int .i64 (timeP d m t).2],.int .i64 (givenP d m)])∧Below w.heap.size w w':=by
 have HC:=lh (Knots_any d m t ht);obtain⟨g,hgg⟩:=nm (givenP d m);have HGG:=lh hgg;obtain⟨P,hP⟩:=nm (timeP d m t)
 by_cases hg:g=0
 ·have HG0:Hid (givenP d m=0):=lh (hgg.trans hg)
  subst hg;rw[HG0.out,hP];obtain⟨L,hL⟩:=nm (knotsL d m.rise m.fall t);have hl:=curveL_len d m.rise m.fall t;have hl2:L.length=(curveL d m.rise m.fall t).length:=by rw[←hL];exact knTo_len _ _
  have HPP:Hid (frg L (L.length-1)=P):=lh (by rw[←hP,←hL];unfold timeP;rw[if_pos HG0.out]);rw[←hl2]at hl;have HL:=lh hL;have s1:IntKind.i64.wrap ((L.length:Int)-1)=(L.length:Int)-1:=IntWalk.i64_in _ (by omega);clear hgg ht hL hP hl2
  go_enter Tryz.func108,Tryz.ntmps108
  go_wp2_with (go_at_call 156;(with_reducible refine(HC.out _).mono ?_);rintro e w1 ⟨hv,hb1⟩;obtain⟨v,rfl,hrow⟩:=hv.out;rw[HG0.out];have hr1:=hrow.1 HG0.out;rw[HL.out]at hr1;obtain⟨pa,pcap,rfl,hpc1,hpc2,_,hP⟩:=fr_of_row hr1;obtain⟨b,off,rfl,hb,hc⟩:=hP (by omega);obtain⟨c0,c1⟩:=hc (L.length-1) (by omega);rw[HPP.out]at c0 c1;have hB1:=((below_new w (.cells #[.string m.name,.int .i64 m.to,.int .i64 m.spd,.int .i64 m.rise,.int .i64 m.fall] 94)).alloc (by simp) (.cells #[.int .i64 0,.int .i64 0] 49)).trans (hb1.mono (by simp<;>omega));clear hrow hr1 hc hv;have l4:w1.cell? ⟨w.heap.size+1,0,none⟩=some (.int .i64 0):=(hb1.cell (p:=⟨w.heap.size+1,0,none⟩) (by simp)).trans (by simp);have l5:w1.cell? ⟨w.heap.size+1,1,none⟩=some (.int .i64 0):=(hb1.cell (p:=⟨w.heap.size+1,1,none⟩) (by simp)).trans (by simp);have l6:w1.frozen? ⟨w.heap.size+1,0,none⟩=false:=(hb1.frozen (p:=⟨w.heap.size+1,0,none⟩) (by simp)).trans (by simp);have l7:w1.frozen? ⟨w.heap.size+1,1,none⟩=false:=(hb1.frozen (p:=⟨w.heap.size+1,1,none⟩) (by simp)).trans (by simp))
  have s2:=(two_cells (v0:=.int .i64 P.1) (v1:=.int .i64 P.2) l4 l5).1;have s3:=(two_cells (v0:=.int .i64 P.1) (v1:=.int .i64 P.2) l4 l5).2;refine bodyPost_ret (v:=.tuple #[.agg #[.int .i64 P.1,.int .i64 P.2],.int .i64 0]) (by simp[results,Tryz.results108,go_sem,s2,s3]) rfl ⟨rfl,?_⟩;exact(hB1.setCell (p:=⟨w.heap.size+1,0,none⟩) (by simp) _).setCell (p:=⟨w.heap.size+1,1,none⟩) (by simp) _
 ·have HN:Hid (¬givenP d m=0):=lh (by rw[hgg];exact hg)
  have e:P=(0,0):=by rw[←hP];unfold timeP;rw[if_neg HN.out]
  rw[hgg,hP,e];have hg':(g==0)=false:=by simpa using hg
  have hg'':(g !=0)=true:=by simpa using hg
  clear hgg ht hg hP e
  go_enter Tryz.func108,Tryz.ntmps108
  go_wp2_with (go_at_call 156;(with_reducible refine(HC.out _).mono ?_);rintro e w1 ⟨hv,hb1⟩;obtain⟨v,rfl,hrow⟩:=hv.out;rw[HGG.out];have hB1:=((below_new w (.cells #[.string m.name,.int .i64 m.to,.int .i64 m.spd,.int .i64 m.rise,.int .i64 m.fall] 94)).alloc (by simp) (.cells #[.int .i64 0,.int .i64 0] 49)).trans (hb1.mono (by simp<;>omega));have l4:w1.cell? ⟨w.heap.size+1,0,none⟩=some (.int .i64 0):=(hb1.cell (p:=⟨w.heap.size+1,0,none⟩) (by simp)).trans (by simp);have l5:w1.cell? ⟨w.heap.size+1,1,none⟩=some (.int .i64 0):=(hb1.cell (p:=⟨w.heap.size+1,1,none⟩) (by simp)).trans (by simp);have l6:w1.frozen? ⟨w.heap.size+1,0,none⟩=false:=(hb1.frozen (p:=⟨w.heap.size+1,0,none⟩) (by simp)).trans (by simp);have l7:w1.frozen? ⟨w.heap.size+1,1,none⟩=false:=(hb1.frozen (p:=⟨w.heap.size+1,1,none⟩) (by simp)).trans (by simp))
  have s2:=(two_cells (v0:=.int .i64 0) (v1:=.int .i64 0) l4 l5).1;have s3:=(two_cells (v0:=.int .i64 0) (v1:=.int .i64 0) l4 l5).2;refine bodyPost_ret (v:=.tuple #[.agg #[.int .i64 0,.int .i64 0],.int .i64 g]) (by simp[results,Tryz.results108,go_sem,s2,s3]) rfl ⟨rfl,?_⟩;exact(hB1.setCell (p:=⟨w.heap.size+1,0,none⟩) (by simp) _).setCell (p:=⟨w.heap.size+1,1,none⟩) (by simp) _
theorem rcmp_any(an ad bn bd:Int)(a0:0≤an)(a1:an≤9223372036854775807)(a2:0≤ad)(a3:ad≤9223372036854775807)(b0:0≤bn)(b1:bn≤9223372036854775807)(b2:0≤bd)(b3:bd≤9223372036854775807)(w:World):
  Calls Tryz.prog 40 #[.agg #[.int .i64 an,.int .i64 ad],.agg #[.int .i64 bn,.int .i64 bd]] w fun e w'=>e=.returned (.int .i64 (cmpP (an*bd) (bn*ad)))∧Below w.heap.size w w':=by
 have n1:(an.natAbs:Int)=an:=by omega
 have n2:(ad.natAbs:Int)=ad:=by omega
 have n3:(bn.natAbs:Int)=bn:=by omega
 have n4:(bd.natAbs:Int)=bd:=by omega
 have z1:=rsize_any an (by omega) (by omega);have z2:=rsize_any ad (by omega) (by omega);have z3:=rsize_any bn (by omega) (by omega);have z4:=rsize_any bd (by omega) (by omega);rw[n1]at z1;rw[n2]at z2;rw[n3]at z3;rw[n4]at z4;have x1:=rmul_any an bd a0 (by omega) b2 (by omega);have x2:=rmul_any bn ad b0 (by omega) a2 (by omega);generalize an*bd=x at *;generalize bn*ad=y at *;have hL:=lessU_of x y;obtain⟨xh,hxh⟩:=nm (x/18446744073709551616);obtain⟨xl,hxl⟩:=nm (x%18446744073709551616);obtain⟨yh,hyh⟩:=nm (y/18446744073709551616);obtain⟨yl,hyl⟩:=nm (y%18446744073709551616);rw[hxh,hxl]at x1;rw[hyh,hyl]at x2;rw[hxh,hxl,hyh,hyl]at hL;have hE:x=y↔(xh=yh∧xl=yl):=by omega
 have X1:=lh x1;have X2:=lh x2;have Z1:=lh z1;have Z2:=lh z2;have Z3:=lh z3;have Z4:=lh z4;have HL:=lh hL;have HE:=lh hE;clear n1 n2 n3 n4 z1 z2 z3 z4 x1 x2 hL hE hxh hxl hyh hyl;have g1:decide (an<0)=false:=dF (by omega);have g2:decide (0≤an)=true:=decide_eq_true a0;have g3:decide (bn<0)=false:=dF (by omega);have W0b:Below w.heap.size w ((w.alloc (.cells #[.int .i64 an,.int .i64 ad] 49)).alloc (.cells #[.int .i64 bn,.int .i64 bd] 49)):=below_a _ (below_new _ _);obtain⟨c,hc⟩:=nm (cmpP x y);rw[hc];have HC:=lh hc;clear hc
 go_enter Tryz.func40,Tryz.ntmps40
 go_upto_region 1 with (fail)
 have c0:((w.alloc (.cells #[.int .i64 an,.int .i64 ad] 49)).alloc (.cells #[.int .i64 bn,.int .i64 bd] 49)).cell? ⟨w.heap.size,0,none⟩=some (.int .i64 an):=by simp
 have c1:((w.alloc (.cells #[.int .i64 an,.int .i64 ad] 49)).alloc (.cells #[.int .i64 bn,.int .i64 bd] 49)).cell? ⟨w.heap.size,1,none⟩=some (.int .i64 ad):=by simp
 have c2:((w.alloc (.cells #[.int .i64 an,.int .i64 ad] 49)).alloc (.cells #[.int .i64 bn,.int .i64 bd] 49)).cell? ⟨w.heap.size+1,0,none⟩=some (.int .i64 bn):=by simp
 have c3:((w.alloc (.cells #[.int .i64 an,.int .i64 ad] 49)).alloc (.cells #[.int .i64 bn,.int .i64 bd] 49)).cell? ⟨w.heap.size+1,1,none⟩=some (.int .i64 bd):=by simp
 obtain⟨Bb,hBb⟩:=nm (w.heap.size+1);simp only[hBb]at c2 c3⊢;clear hBb;generalize (w.alloc (.cells #[.int .i64 an,.int .i64 ad] 49)).alloc (.cells #[.int .i64 bn,.int .i64 bd] 49)=W0 at *
 have HS:Hid (∀w',Below W0.heap.size W0 w'→Below W0.heap.size W0 w'∧w'.cell? ⟨w.heap.size,0,none⟩=some (.int .i64 an)∧w'.cell? ⟨w.heap.size,1,none⟩=some (.int .i64 ad)∧w'.cell? ⟨Bb,0,none⟩=some (.int .i64 bn)∧w'.cell? ⟨Bb,1,none⟩=some (.int .i64 bd)):=lh fun w' h=>
  ⟨h,(h.cell (p:=⟨w.heap.size,0,none⟩) (wl c0)).trans c0,(h.cell (p:=⟨w.heap.size,1,none⟩) (wl c1)).trans c1,(h.cell (p:=⟨Bb,0,none⟩) (wl c2)).trans c2,(h.cell (p:=⟨Bb,1,none⟩) (wl c3)).trans c3⟩
 refine rcmp1 HS Z1 Z2 Z3 Z4 X1 X2 ?_;intro u5 u6 u7 u8 u9 u10 u11 u12 u13 u14 u15 u16 u17 u18 u19 u20 u21 u22 u23 u24 u25 u26 u27 u28 u29 u30 u31 u32 u33 u34 u35 u36 u37 u38 u39 u40 u41 u42 u43 u44 u45 u46 wc hcut
 ·obtain⟨B5,B6,rfl,rfl,hBn,⟨y0,y1⟩,⟨y2,y3⟩⟩:=hcut
  obtain⟨W1,rfl⟩:∃W:World,W=wc:=⟨_,rfl⟩;clear c0 c1 c2 c3;obtain⟨_,c0,c1,c2,c3⟩:=HS.out _ hBn;have W1b:=W0b.trans (hBn.mono W0b.size);clear HS hBn W0b
  by_cases he:x=y
  ·have HR:Hid (c=0):=lh (by rw[←HC.out];unfold cmpP;rw[if_pos he])
   obtain⟨e1,e2⟩:=HE.out.1 he;have q1:(xh==yh)=true:=by simpa using e1
   have q2:(xl==yl)=true:=by simpa using e2
   clear he e1 e2 g3
   go_wp2_with fail
   go_ret;exact⟨ret_u HR.out.symm,W1b⟩
  ·have hne:¬(xh=yh∧xl=yl):=fun h=>he (HE.out.2 h)
   have HX:Hid (c=if x<y then -1 else 1):=lh (by rw[←HC.out];unfold cmpP;rw[if_neg he])
   by_cases hl:x<y
   all_goals
    first
     | (have hl':decide (x<y)=true:=decide_eq_true hl
        have HR:Hid (c=-1):=lh (by rw[HX.out,if_pos hl]);rw[hl']at HL)
     | (have hl':decide (x<y)=false:=decide_eq_false hl
        have HR:Hid (c=1):=lh (by rw[HX.out,if_neg hl]);rw[hl']at HL)
    have hw1:Below W1.heap.size W1 W1:=br;clear he hl hl'
    by_cases hh:xh=yh
    all_goals
     first
      | (have q1:(xh==yh)=true:=by simpa using hh
         have q2:(xl==yl)=false:=by simpa using fun h=>hne ⟨hh,h⟩
         clear hh hne)
      | (have q1:(xh==yh)=false:=by simpa using hh
         clear hh hne)
     go_upto_region 8 with (fail)
     have HS8:Hid (∀w',Below W1.heap.size W1 w'→Below W1.heap.size W1 w'∧w'.cell? ⟨w.heap.size,0,none⟩=some (.int .i64 an)∧w'.cell? ⟨B5,0,none⟩=some (.int .u64 xh)∧w'.cell? ⟨B5,1,none⟩=some (.int .u64 xl)∧w'.cell? ⟨B6,0,none⟩=some (.int .u64 yh)∧w'.cell? ⟨B6,1,none⟩=some (.int .u64 yl)):=lh fun w' h=>
      ⟨h,(h.cell (p:=⟨w.heap.size,0,none⟩) (wl c0)).trans c0,(h.cell (p:=⟨B5,0,none⟩) (wl y0)).trans y0,(h.cell (p:=⟨B5,1,none⟩) (wl y1)).trans y1,(h.cell (p:=⟨B6,0,none⟩) (wl y2)).trans y2,(h.cell (p:=⟨B6,1,none⟩) (wl y3)).trans y3⟩
     have hbd8:=hw1.drew;clear c0 c1 c2 c3 y0 y1 y2 y3 q1
     go_region_held3 (fun w'=>Below W1.heap.size W1 w'∧w'.cell? ⟨w.heap.size,0,none⟩=some (.int .i64 an)∧w'.cell? ⟨B5,0,none⟩=some (.int .u64 xh)∧w'.cell? ⟨B5,1,none⟩=some (.int .u64 xl)∧w'.cell? ⟨B6,0,none⟩=some (.int .u64 yh)∧w'.cell? ⟨B6,1,none⟩=some (.int .u64 yl))
      (first | exact HS8.out _ hbd8 | exact HS8.out _ hx8)
      (first
       | (go_at_call 72;go_split_ands;(with_reducible refine(rlessU_any xh xl yh yl _).mono ?_);rw[HL.out];rintro e w8 ⟨rfl,hb8⟩;have hx8:Below W1.heap.size W1 w8:=hbd8.trans hb8))
     all_goals go_wp2_with fail
     all_goals go_ret
     all_goals exact⟨ret_u HR.out.symm,W1b.trans (hx8.mono W1b.size)⟩
end
section
theorem time_num(d R F t:Int):2*F*(t*t)+kP d R F t+2*R*(t*t)=tN d R F t:=by
 unfold kP tN;rw[Int.mul_add];have e1:2*F*(t*t)=2*(t*t*F):=by ac_rfl
 have e2:2*R*(t*t)=2*(t*t*R):=by ac_rfl
 rw[e1,e2];omega
theorem time_zero{m:Mv}{t:Int}(hg:givenP 0 m=0):timeP 0 m t=(0,1):=by
 unfold timeP;rw[if_pos hg]
 rfl
theorem time_pos{d:Int}{m:Mv}{t:Int}(hg:givenP d m=0)(hd:¬d=0):timeP d m t=(lowN (tN d m.rise m.fall t) (tD m.rise m.fall t),lowD (tN d m.rise m.fall t) (tD m.rise m.fall t)):=by
 have hl:=curveL_len d m.rise m.fall t;unfold timeP;rw[if_pos hg];unfold knotsL;rw[knTo_len,knTo_at _ _ _ (by omega)];unfold curveL;rw[if_neg hd,time_num]
 split<;>rfl
theorem time_bd{d:Int}{m:Mv}{t:Int}(hg:givenP d m=0)(ht:IsTop d m.spd m.rise m.fall t):
  0≤(timeP d m t).1∧(timeP d m t).1≤1152921504606846976∧0<(timeP d m t).2∧(timeP d m t).2≤1152921504606846976:=by
 by_cases hd:d=0
 ·subst hd
  rw[time_zero hg]
  decide
 ·rw[time_pos hg hd]
  obtain⟨hv,hdd⟩:=given_ok hg;obtain⟨V0,V1,R0,R1,F0,F1⟩:=valid_bds hv;obtain⟨d1,d2⟩:=inB_iff.1 hdd;have tp:=top_pos (show 1≤d by omega) R0 F0 V0 ht;have t1:=ht.2.1;obtain⟨B1,B2,B3,B4,_,_,_,_,_,B5,B6⟩:=room_bd (d:=d) (R:=m.rise) (F:=m.fall) (w:=t) d1 d2 (by omega) R1 (by omega) F1 (by omega) (by omega);have B7:2*m.rise*m.fall*d≤536870912*1048576:=Int.mul_le_mul B6 d2 d1 (by decide);have B8:=Int.mul_nonneg B5 d1;have B9:2*m.rise*m.fall*t≤536870912*8192:=Int.mul_le_mul B6 (by omega) (by omega) (by decide);have B10:0<2*m.rise*m.fall*t:=Int.mul_pos (posD R0 F0) (by omega);have n0:0≤tN d m.rise m.fall t:=by unfold tN;omega
  have n1:tN d m.rise m.fall t≤1152921504606846976:=by unfold tN;omega
  have q0:0<tD m.rise m.fall t:=by unfold tD;omega
  have q1:tD m.rise m.fall t≤1152921504606846976:=by unfold tD;omega
  have a:=lowN_le (tN d m.rise m.fall t) (tD m.rise m.fall t);have b:=lowD_le (n:=tN d m.rise m.fall t) q0;have c:=lowD_pos (n:=tN d m.rise m.fall t) q0;have e:=low_sign (n:=tN d m.rise m.fall t) q0;omega
end
end Go.Proofs.YtebofaenlhhkaaaGreat
