import Derived.Test.YtebofaenlhhkaaaGreatY8
import Derived.Test.YtebofaenlhhkaaaGreatY9
import Derived.Test.YtebofaenlhhkaaaGreatY10
import Derived.Test.YtebofaenlhhkaaaGreatY20
import Derived.Test.YtebofaenlhhkaaaGreatY21
import Derived.Test.YtebofaenlhhkaaaGreatY22
import Derived.Test.YtebofaenlhhkaaaGreatY13
import Derived.Test.YtebofaenlhhkaaaGreatY14
namespace Go.Proofs.YtebofaenlhhkaaaGreat
set_option maxRecDepth 100000
set_option maxHeartbeats 80000000
section
open Go.RowKit Go.Shelf
theorem AGf(d:Int)(m:Mv)(t tt R2 F2 rn rd fn fd sn sd un ud kn kd qn qd pn pd gn gd en ed cn cd hn hd mn md:Int)
  (hg:Ck d m=0) (hd0:¬d=0) (ht:Hd d m.spd m.rise m.fall t)
  (htt:IntKind.i64.wrap (t*t)=tt) (hR2:IntKind.i64.wrap (2*m.rise)=R2) (hF2:IntKind.i64.wrap (2*m.fall)=F2) (hNF:IntKind.i64.wrap (-m.fall)=-m.fall)
  (m1:Ev 53 #[.int .i64 tt,.int .i64 R2] rn rd)
  (m2:Ev 53 #[.int .i64 tt,.int .i64 F2] fn fd)
  (m3:Ev 53 #[.int .i64 t,.int .i64 m.rise] sn sd)
  (m4:Ev 53 #[.int .i64 t,.int .i64 m.fall] gn gd)
  (m5:Ev 53 #[.int .i64 m.rise,.int .i64 2] cn cd)
  (m6:Ev 53 #[.int .i64 (-m.fall),.int .i64 2] mn md)
  (s1:Ev 102 #[.agg #[.int .i64 d,.int .i64 1],.agg #[.int .i64 rn,.int .i64 rd]] un ud)
  (s2:Ev 102 #[.agg #[.int .i64 un,.int .i64 ud],.agg #[.int .i64 fn,.int .i64 fd]] kn kd)
  (s3:Ev 102 #[.agg #[.int .i64 d,.int .i64 1],.agg #[.int .i64 fn,.int .i64 fd]] hn hd)
  (v1:Ev 125 #[.agg #[.int .i64 kn,.int .i64 kd],.agg #[.int .i64 t,.int .i64 1]] qn qd)
  (a1:Ev 124 #[.agg #[.int .i64 sn,.int .i64 sd],.agg #[.int .i64 qn,.int .i64 qd]] pn pd)
  (a2:Ev 124 #[.agg #[.int .i64 pn,.int .i64 pd],.agg #[.int .i64 gn,.int .i64 gd]] en ed)
  (L:List Pc) (hL:L=[⟨0,1,0,1,0,1,cn,cd⟩]++(if kn=0 then[]else[⟨sn,sd,rn,rd,t,1,0,1⟩])++[⟨pn,pd,hn,hd,t,1,mn,md⟩,⟨en,ed,d,1,0,1,0,1⟩]) (w:World):
  Calls Tryz.prog 80 #[.int .i64 d,.agg #[.string m.name,.int .i64 m.to,.int .i64 m.spd,.int .i64 m.rise,.int .i64 m.fall]] w fun e w'=>Hid (∃v,e=.returned (.tuple #[v,.int .i64 0])∧w'.ownsRow w.heap.size 122 8 v L.length (Ce L))∧Below w.heap.size w w':=by
 have HG:=lh hg;have HC:=lh (ASi d m t hg ht);have hd':(d==0)=false:=by simpa using hd0
 have HL:=lh hL;have M1:=lh m1;have M2:=lh m2;have M3:=lh m3;have M4:=lh m4;have M5:=lh m5;have M6:=lh m6;have S1:=lh s1;have S2:=lh s2;have S3:=lh s3;have V1:=lh v1;have A1:=lh a1;have A2:=lh a2;clear hg ht hd0 hL m1 m2 m3 m4 m5 m6 s1 s2 s3 v1 a1 a2
 go_enter Tryz.func80,Tryz.ntmps80
 go_upto_region 12 with (first
   | (go_at_call 119;go_fit (Ug d m _);rintro e w1 ⟨rfl,hb1⟩;rw[HG.out];have hB1:=(Aa w (.cells #[.string m.name,.int .i64 m.to,.int .i64 m.spd,.int .i64 m.rise,.int .i64 m.fall] 94)).trans (hb1.mono (by simp));have kz:w.heap.size<w1.heap.size:=Nat.lt_of_lt_of_le (by simp) hb1.size;have k0:w1.cell? ⟨w.heap.size,0,none⟩=some (.string m.name):=(hb1.cell (p:=⟨w.heap.size,0,none⟩) (by simp)).trans (by simp);have k1:w1.cell? ⟨w.heap.size,1,none⟩=some (.int .i64 m.to):=(hb1.cell (p:=⟨w.heap.size,1,none⟩) (by simp)).trans (by simp);have k2:w1.cell? ⟨w.heap.size,2,none⟩=some (.int .i64 m.spd):=(hb1.cell (p:=⟨w.heap.size,2,none⟩) (by simp)).trans (by simp);have k3:w1.cell? ⟨w.heap.size,3,none⟩=some (.int .i64 m.rise):=(hb1.cell (p:=⟨w.heap.size,3,none⟩) (by simp)).trans (by simp);have k4:w1.cell? ⟨w.heap.size,4,none⟩=some (.int .i64 m.fall):=(hb1.cell (p:=⟨w.heap.size,4,none⟩) (by simp)).trans (by simp))
   | (go_at_call 120;go_fit (HC.out _);rintro e w2 ⟨rfl,hb2⟩;have j0:w2.cell? ⟨w.heap.size,0,none⟩=some (.string m.name):=(hb2.cell (p:=⟨w.heap.size,0,none⟩) (by simp<;>omega)).trans ((World.cell?_alloc_lt _ _ _ kz).trans k0);have j1:w2.cell? ⟨w.heap.size,1,none⟩=some (.int .i64 m.to):=(hb2.cell (p:=⟨w.heap.size,1,none⟩) (by simp<;>omega)).trans ((World.cell?_alloc_lt _ _ _ kz).trans k1);have j2:w2.cell? ⟨w.heap.size,2,none⟩=some (.int .i64 m.spd):=(hb2.cell (p:=⟨w.heap.size,2,none⟩) (by simp<;>omega)).trans ((World.cell?_alloc_lt _ _ _ kz).trans k2);have j3:w2.cell? ⟨w.heap.size,3,none⟩=some (.int .i64 m.rise):=(hb2.cell (p:=⟨w.heap.size,3,none⟩) (by simp<;>omega)).trans ((World.cell?_alloc_lt _ _ _ kz).trans k3);have j4:w2.cell? ⟨w.heap.size,4,none⟩=some (.int .i64 m.fall):=(hb2.cell (p:=⟨w.heap.size,4,none⟩) (by simp<;>omega)).trans ((World.cell?_alloc_lt _ _ _ kz).trans k4);have j5:w2.cell? ⟨w1.heap.size,0,none⟩=some (.int .i64 0):=(hb2.cell (p:=⟨w1.heap.size,0,none⟩) (by simp)).trans (by simp);have j6:w2.cell? ⟨w1.heap.size,1,none⟩=some (.int .i64 1):=(hb2.cell (p:=⟨w1.heap.size,1,none⟩) (by simp)).trans (by simp)))
 have hW2:Below w.heap.size w w2:=(hB1.alloc hB1.size _).trans (hb2.mono (by simp<;>omega));have hz0:w.heap.size<w2.heap.size:=wl j0;have hz1:w1.heap.size<w2.heap.size:=wl j5;obtain⟨FK,hFK⟩:=nm (Value.func (.func 121) #[] #[.pointer (some ⟨w2.heap.size,0,none⟩)]:Value);have W0b:Below w.heap.size w ((w2.alloc (.cells #[.int .i64 0] 35)).alloc (.cells #[Value.func (.func 121) #[] #[.pointer (some ⟨w2.heap.size,0,none⟩)]] 171)):=(hW2.alloc hW2.size _).alloc (by have:=hW2.size;simp<;>omega) _;have x0:((w2.alloc (.cells #[.int .i64 0] 35)).alloc (.cells #[Value.func (.func 121) #[] #[.pointer (some ⟨w2.heap.size,0,none⟩)]] 171)).cell? ⟨w.heap.size,3,none⟩=some (.int .i64 m.rise):=(World.cell?_alloc_lt _ _ _ (by simp<;>omega)).trans ((World.cell?_alloc_lt _ _ _ hz0).trans j3);have x1:((w2.alloc (.cells #[.int .i64 0] 35)).alloc (.cells #[Value.func (.func 121) #[] #[.pointer (some ⟨w2.heap.size,0,none⟩)]] 171)).cell? ⟨w.heap.size,4,none⟩=some (.int .i64 m.fall):=(World.cell?_alloc_lt _ _ _ (by simp<;>omega)).trans ((World.cell?_alloc_lt _ _ _ hz0).trans j4);have x2:((w2.alloc (.cells #[.int .i64 0] 35)).alloc (.cells #[Value.func (.func 121) #[] #[.pointer (some ⟨w2.heap.size,0,none⟩)]] 171)).cell? ⟨w1.heap.size,0,none⟩=some (.int .i64 0):=(World.cell?_alloc_lt _ _ _ (by simp<;>omega)).trans ((World.cell?_alloc_lt _ _ _ hz1).trans j5);have x3:((w2.alloc (.cells #[.int .i64 0] 35)).alloc (.cells #[Value.func (.func 121) #[] #[.pointer (some ⟨w2.heap.size,0,none⟩)]] 171)).cell? ⟨w1.heap.size,1,none⟩=some (.int .i64 1):=(World.cell?_alloc_lt _ _ _ (by simp<;>omega)).trans ((World.cell?_alloc_lt _ _ _ hz1).trans j6);have x4:((w2.alloc (.cells #[.int .i64 0] 35)).alloc (.cells #[Value.func (.func 121) #[] #[.pointer (some ⟨w2.heap.size,0,none⟩)]] 171)).cell? ⟨w2.heap.size,0,none⟩=some (.int .i64 0):=by simp
 have x5:((w2.alloc (.cells #[.int .i64 0] 35)).alloc (.cells #[Value.func (.func 121) #[] #[.pointer (some ⟨w2.heap.size,0,none⟩)]] 171)).cell? ⟨(w2.heap.size+1),0,none⟩=some (.func (.func 121) #[] #[.pointer (some ⟨w2.heap.size,0,none⟩)]):=by simp
 clear hFK FK hb1 hB1 kz k0 k1 k2 k3 k4 hb2 j0 j1 j2 j3 j4 j5 j6 hW2 hz0 hz1;generalize ((w2.alloc (.cells #[.int .i64 0] 35)).alloc (.cells #[Value.func (.func 121) #[] #[.pointer (some ⟨w2.heap.size,0,none⟩)]] 171))=W0 at *;obtain⟨Bk,hBk⟩:=nm (w2.heap.size+1);simp only[hBk]at *;clear hBk;generalize w2.heap.size=Bb at *;generalize w1.heap.size=Bz at *;have HS:Hid (∀w',Below W0.heap.size W0 w'→Below W0.heap.size W0 w'∧w'.cell? ⟨w.heap.size,3,none⟩=some (.int .i64 m.rise)∧w'.cell? ⟨w.heap.size,4,none⟩=some (.int .i64 m.fall)∧w'.cell? ⟨Bz,0,none⟩=some (.int .i64 0)∧w'.cell? ⟨Bz,1,none⟩=some (.int .i64 1)∧w'.cell? ⟨Bb,0,none⟩=some (.int .i64 0)∧w'.cell? ⟨Bk,0,none⟩=some (.func (.func 121) #[] #[.pointer (some ⟨Bb,0,none⟩)])):=lh fun w' h=>⟨h,(ct h x0 (wl x0)),(ct h x1 (wl x1)),(ct h x2 (wl x2)),(ct h x3 (wl x3)),(ct h x4 (wl x4)),(ct h x5 (wl x5))⟩;have hbr:=Below.refl W0.heap.size W0;have hbd:=hbr.drew;have HS2:Hid (∀w',Below W0.heap.size W0 w'→Below W0.heap.size W0 w'∧w'.cell? ⟨w.heap.size,3,none⟩=some (.int .i64 m.rise)∧w'.cell? ⟨w.heap.size,4,none⟩=some (.int .i64 m.fall)∧w'.cell? ⟨Bk,0,none⟩=some (.func (.func 121) #[] #[.pointer (some ⟨Bb,0,none⟩)])):=lh fun w' h=>⟨h,(HS.out w' h).2.1,(HS.out w' h).2.2.1,(HS.out w' h).2.2.2.2.2.2⟩;refine AWa HS2 M1 M2 htt hR2 hF2 ?_;intro u13 u14 u20 u21 u22 u23 u24 u25 u26 u27 u28 u29 u30 u31 u32 u33 u34 u35 u36 u37 u38 u39 u40 u41 u42 u43 u44 u45 u46 u47 u48 u49 u50 u51 u52 u53 u54 u55 u56 u57 u58 u59 u60 u61 u62 u63 u64 u65 u66 u67 u68 u69 u70 u71 u72 u73 u74 u75 u76 u77 u78 u79 u80 u81 u82 u83 u84 u85 u86 u87 u88 u89 u90 u91 u92 u93 u94 u95 u96 u97 u98 u99 u100 u101 u102 u103 u104 u105 u106 u107 u108 u109 u110 u111 u112 u113 u114 u115 u116 u117 u118 u119 u120 u121 u122 u123 u124 u125 u126 u127 u128 u129 u130 u131 u132 u133 u134 u135 u136 u137 u138 u139 u140 u141 u142 u143 u144 u145 u146 u147 u148 u149 u150 u151 u152 u153 u154 u155 u156 wc hcut;clear HS2
 ·obtain⟨B13,B14,rfl,rfl,hBn,⟨y0,y1⟩,⟨y2,y3⟩⟩:=hcut
  obtain⟨W1,rfl⟩:∃W:World,W=wc:=⟨_,rfl⟩;clear x0 x1 x2 x3 x4 x5;obtain⟨_,x0,x1,x2,x3,x4,x5⟩:=HS.out _ hBn;have W1b:=W0b.trans (hBn.mono W0b.size);clear HS hbd hbr hBn W0b
  go_upto_region 14 with (first
   | (go_at_call 123;go_fit (Ml t m.rise sn sd M3.out Bk (.pointer (some ⟨Bb,0,none⟩)) _ ?_);(next=>exact x5);rintro e w4 ⟨rfl,hb4⟩))
  have hBn:Below W1.heap.size W1 (w4.alloc (.cells #[.int .i64 sn,.int .i64 sd] 49)):=Aw _ hb4;have z0:(w4.alloc (.cells #[.int .i64 sn,.int .i64 sd] 49)).cell? ⟨w4.heap.size,0,none⟩=some (.int .i64 sn):=by simp
  have z1:(w4.alloc (.cells #[.int .i64 sn,.int .i64 sd] 49)).cell? ⟨w4.heap.size,1,none⟩=some (.int .i64 sd):=by simp
  have q0:=(ct hBn x0 (wl x0));have q1:=(ct hBn x1 (wl x1));have q2:=(ct hBn x2 (wl x2));have q3:=(ct hBn x3 (wl x3));have q4:=(ct hBn x4 (wl x4));have q5:=(ct hBn x5 (wl x5));have q6:=(ct hBn y0 (wl y0));have q7:=(ct hBn y1 (wl y1));have q8:=(ct hBn y2 (wl y2));have q9:=(ct hBn y3 (wl y3));have W2b:=W1b.trans (hBn.mono W1b.size);clear hb4 hBn W1b x0 x1 x2 x3 x4 x5 y0 y1 y2 y3;generalize w4.alloc (.cells #[.int .i64 sn,.int .i64 sd] 49)=W2 at *;generalize w4.heap.size=B15 at *;obtain⟨x0,x1,x2,x3,x4,x5,x6,x7,x8,x9,x10,x11⟩:W2.cell? ⟨w.heap.size,3,none⟩=some (.int .i64 m.rise)∧W2.cell? ⟨w.heap.size,4,none⟩=some (.int .i64 m.fall)∧W2.cell? ⟨Bz,0,none⟩=some (.int .i64 0)∧W2.cell? ⟨Bz,1,none⟩=some (.int .i64 1)∧W2.cell? ⟨Bb,0,none⟩=some (.int .i64 0)∧W2.cell? ⟨Bk,0,none⟩=some (.func (.func 121) #[] #[.pointer (some ⟨Bb,0,none⟩)])∧W2.cell? ⟨B13,0,none⟩=some (.int .i64 rn)∧W2.cell? ⟨B13,1,none⟩=some (.int .i64 rd)∧W2.cell? ⟨B14,0,none⟩=some (.int .i64 fn)∧W2.cell? ⟨B14,1,none⟩=some (.int .i64 fd)∧W2.cell? ⟨B15,0,none⟩=some (.int .i64 sn)∧W2.cell? ⟨B15,1,none⟩=some (.int .i64 sd):=⟨q0,q1,q2,q3,q4,q5,q6,q7,q8,q9,z0,z1⟩;clear q0 q1 q2 q3 q4 q5 q6 q7 q8 q9 z0 z1
  go_upto_region 14 with (fail)
  have HS:Hid (∀w',Below W2.heap.size W2 w'→Below W2.heap.size W2 w'∧w'.cell? ⟨w.heap.size,3,none⟩=some (.int .i64 m.rise)∧w'.cell? ⟨w.heap.size,4,none⟩=some (.int .i64 m.fall)∧w'.cell? ⟨Bz,0,none⟩=some (.int .i64 0)∧w'.cell? ⟨Bz,1,none⟩=some (.int .i64 1)∧w'.cell? ⟨Bb,0,none⟩=some (.int .i64 0)∧w'.cell? ⟨Bk,0,none⟩=some (.func (.func 121) #[] #[.pointer (some ⟨Bb,0,none⟩)])∧w'.cell? ⟨B13,0,none⟩=some (.int .i64 rn)∧w'.cell? ⟨B13,1,none⟩=some (.int .i64 rd)∧w'.cell? ⟨B14,0,none⟩=some (.int .i64 fn)∧w'.cell? ⟨B14,1,none⟩=some (.int .i64 fd)∧w'.cell? ⟨B15,0,none⟩=some (.int .i64 sn)∧w'.cell? ⟨B15,1,none⟩=some (.int .i64 sd)):=lh fun w' h=>⟨h,(ct h x0 (wl x0)),(ct h x1 (wl x1)),(ct h x2 (wl x2)),(ct h x3 (wl x3)),(ct h x4 (wl x4)),(ct h x5 (wl x5)),(ct h x6 (wl x6)),(ct h x7 (wl x7)),(ct h x8 (wl x8)),(ct h x9 (wl x9)),(ct h x10 (wl x10)),(ct h x11 (wl x11))⟩;have hbr:=Below.refl W2.heap.size W2;have hbd:=hbr.drew;have HS2:Hid (∀w',Below W2.heap.size W2 w'→Below W2.heap.size W2 w'∧w'.cell? ⟨Bk,0,none⟩=some (.func (.func 121) #[] #[.pointer (some ⟨Bb,0,none⟩)])∧w'.cell? ⟨B13,0,none⟩=some (.int .i64 rn)∧w'.cell? ⟨B13,1,none⟩=some (.int .i64 rd)∧w'.cell? ⟨B14,0,none⟩=some (.int .i64 fn)∧w'.cell? ⟨B14,1,none⟩=some (.int .i64 fd)):=lh fun w' h=>⟨h,(HS.out w' h).2.2.2.2.2.2.1,(HS.out w' h).2.2.2.2.2.2.2.1,(HS.out w' h).2.2.2.2.2.2.2.2.1,(HS.out w' h).2.2.2.2.2.2.2.2.2.1,(HS.out w' h).2.2.2.2.2.2.2.2.2.2.1⟩;refine AVo HS2 S1 S2 ?_;intro u16 u20 u21 u22 u23 u24 u25 u26 u27 u28 u29 u30 u31 u32 u33 u34 u35 u36 u37 u38 u39 u40 u41 u42 u43 u44 u45 u46 u47 u48 u49 u50 u51 u52 u53 u54 u55 u56 u57 u58 u59 u60 u61 u62 u63 u64 u65 u66 u67 u68 u69 u70 u71 u72 u73 u74 u75 u76 u77 u78 u79 u80 u81 u82 u83 u84 u85 u86 u87 u88 u89 u90 u91 u92 u93 u94 u95 u96 u97 u98 u99 u100 u101 u102 u103 u104 u105 u106 u107 u108 u109 u110 u111 u112 u113 u114 u115 u116 u117 u118 u119 u120 u121 u122 u123 u124 u125 u126 u127 u128 u129 u130 u131 u132 u133 u134 u135 u136 u137 u138 u139 u140 u141 u142 u143 u144 u145 u146 u147 u148 u149 u150 u151 u152 u153 u154 u155 u156 wc hcut;clear HS2
  ·obtain⟨B16,rfl,hBn,⟨y0,y1⟩⟩:=hcut
   obtain⟨W3,rfl⟩:∃W:World,W=wc:=⟨_,rfl⟩;clear x0 x1 x2 x3 x4 x5 x6 x7 x8 x9 x10 x11;obtain⟨_,x0,x1,x2,x3,x4,x5,x6,x7,x8,x9,x10,x11⟩:=HS.out _ hBn;have W3b:=W2b.trans (hBn.mono W2b.size);clear HS hbd hbr hBn W2b;obtain⟨x12,x13⟩:FR W3 B16 kn kd:=⟨y0,y1⟩;clear y0 y1
   go_upto_region 15 with (fail)
   have HS:Hid (∀w',Below W3.heap.size W3 w'→Below W3.heap.size W3 w'∧w'.cell? ⟨w.heap.size,3,none⟩=some (.int .i64 m.rise)∧w'.cell? ⟨w.heap.size,4,none⟩=some (.int .i64 m.fall)∧w'.cell? ⟨Bz,0,none⟩=some (.int .i64 0)∧w'.cell? ⟨Bz,1,none⟩=some (.int .i64 1)∧w'.cell? ⟨Bb,0,none⟩=some (.int .i64 0)∧w'.cell? ⟨Bk,0,none⟩=some (.func (.func 121) #[] #[.pointer (some ⟨Bb,0,none⟩)])∧w'.cell? ⟨B13,0,none⟩=some (.int .i64 rn)∧w'.cell? ⟨B13,1,none⟩=some (.int .i64 rd)∧w'.cell? ⟨B14,0,none⟩=some (.int .i64 fn)∧w'.cell? ⟨B14,1,none⟩=some (.int .i64 fd)∧w'.cell? ⟨B15,0,none⟩=some (.int .i64 sn)∧w'.cell? ⟨B15,1,none⟩=some (.int .i64 sd)∧w'.cell? ⟨B16,0,none⟩=some (.int .i64 kn)∧w'.cell? ⟨B16,1,none⟩=some (.int .i64 kd)):=lh fun w' h=>⟨h,(ct h x0 (wl x0)),(ct h x1 (wl x1)),(ct h x2 (wl x2)),(ct h x3 (wl x3)),(ct h x4 (wl x4)),(ct h x5 (wl x5)),(ct h x6 (wl x6)),(ct h x7 (wl x7)),(ct h x8 (wl x8)),(ct h x9 (wl x9)),(ct h x10 (wl x10)),(ct h x11 (wl x11)),(ct h x12 (wl x12)),(ct h x13 (wl x13))⟩;have hbr:=Below.refl W3.heap.size W3;have hbd:=hbr.drew;have HS2:Hid (∀w',Below W3.heap.size W3 w'→Below W3.heap.size W3 w'∧w'.cell? ⟨Bk,0,none⟩=some (.func (.func 121) #[] #[.pointer (some ⟨Bb,0,none⟩)])∧w'.cell? ⟨B15,0,none⟩=some (.int .i64 sn)∧w'.cell? ⟨B15,1,none⟩=some (.int .i64 sd)∧w'.cell? ⟨B16,0,none⟩=some (.int .i64 kn)∧w'.cell? ⟨B16,1,none⟩=some (.int .i64 kd)):=lh fun w' h=>⟨h,(HS.out w' h).2.2.2.2.2.2.1,(HS.out w' h).2.2.2.2.2.2.2.2.2.2.2.1,(HS.out w' h).2.2.2.2.2.2.2.2.2.2.2.2.1,(HS.out w' h).2.2.2.2.2.2.2.2.2.2.2.2.2.1,(HS.out w' h).2.2.2.2.2.2.2.2.2.2.2.2.2.2⟩;refine AVs HS2 V1 A1 ?_;intro u17 u20 u21 u22 u23 u24 u25 u26 u27 u28 u29 u30 u31 u32 u33 u34 u35 u36 u37 u38 u39 u40 u41 u42 u43 u44 u45 u46 u47 u48 u49 u50 u51 u52 u53 u54 u55 u56 u57 u58 u59 u60 u61 u62 u63 u64 u65 u66 u67 u68 u69 u70 u71 u72 u73 u74 u75 u76 u77 u78 u79 u80 u81 u82 u83 u84 u85 u86 u87 u88 u89 u90 u91 u92 u93 u94 u95 u96 u97 u98 u99 u100 u101 u102 u103 u104 u105 u106 u107 u108 u109 u110 u111 u112 u113 u114 u115 u116 u117 u118 u119 u120 u121 u122 u123 u124 u125 u126 u127 u128 u129 u130 u131 u132 u133 u134 u135 u136 u137 u138 u139 u140 u141 u142 u143 u144 u145 u146 u147 u148 u149 u150 u151 u152 u153 u154 u155 u156 wc hcut;clear HS2
   ·obtain⟨B17,rfl,hBn,⟨y0,y1⟩⟩:=hcut
    obtain⟨W4,rfl⟩:∃W:World,W=wc:=⟨_,rfl⟩;clear x0 x1 x2 x3 x4 x5 x6 x7 x8 x9 x10 x11 x12 x13;obtain⟨_,x0,x1,x2,x3,x4,x5,x6,x7,x8,x9,x10,x11,x12,x13⟩:=HS.out _ hBn;have W4b:=W3b.trans (hBn.mono W3b.size);clear HS hbd hbr hBn W3b;obtain⟨x14,x15⟩:FR W4 B17 pn pd:=⟨y0,y1⟩;clear y0 y1
    go_upto_region 16 with (fail)
    have HS:Hid (∀w',Below W4.heap.size W4 w'→Below W4.heap.size W4 w'∧w'.cell? ⟨w.heap.size,3,none⟩=some (.int .i64 m.rise)∧w'.cell? ⟨w.heap.size,4,none⟩=some (.int .i64 m.fall)∧w'.cell? ⟨Bz,0,none⟩=some (.int .i64 0)∧w'.cell? ⟨Bz,1,none⟩=some (.int .i64 1)∧w'.cell? ⟨Bb,0,none⟩=some (.int .i64 0)∧w'.cell? ⟨Bk,0,none⟩=some (.func (.func 121) #[] #[.pointer (some ⟨Bb,0,none⟩)])∧w'.cell? ⟨B13,0,none⟩=some (.int .i64 rn)∧w'.cell? ⟨B13,1,none⟩=some (.int .i64 rd)∧w'.cell? ⟨B14,0,none⟩=some (.int .i64 fn)∧w'.cell? ⟨B14,1,none⟩=some (.int .i64 fd)∧w'.cell? ⟨B15,0,none⟩=some (.int .i64 sn)∧w'.cell? ⟨B15,1,none⟩=some (.int .i64 sd)∧w'.cell? ⟨B16,0,none⟩=some (.int .i64 kn)∧w'.cell? ⟨B16,1,none⟩=some (.int .i64 kd)∧w'.cell? ⟨B17,0,none⟩=some (.int .i64 pn)∧w'.cell? ⟨B17,1,none⟩=some (.int .i64 pd)):=lh fun w' h=>⟨h,(ct h x0 (wl x0)),(ct h x1 (wl x1)),(ct h x2 (wl x2)),(ct h x3 (wl x3)),(ct h x4 (wl x4)),(ct h x5 (wl x5)),(ct h x6 (wl x6)),(ct h x7 (wl x7)),(ct h x8 (wl x8)),(ct h x9 (wl x9)),(ct h x10 (wl x10)),(ct h x11 (wl x11)),(ct h x12 (wl x12)),(ct h x13 (wl x13)),(ct h x14 (wl x14)),(ct h x15 (wl x15))⟩;have hbr:=Below.refl W4.heap.size W4;have hbd:=hbr.drew;have HS2:Hid (∀w',Below W4.heap.size W4 w'→Below W4.heap.size W4 w'∧w'.cell? ⟨w.heap.size,4,none⟩=some (.int .i64 m.fall)∧w'.cell? ⟨Bk,0,none⟩=some (.func (.func 121) #[] #[.pointer (some ⟨Bb,0,none⟩)])∧w'.cell? ⟨B17,0,none⟩=some (.int .i64 pn)∧w'.cell? ⟨B17,1,none⟩=some (.int .i64 pd)):=lh fun w' h=>⟨h,(HS.out w' h).2.2.1,(HS.out w' h).2.2.2.2.2.2.1,(HS.out w' h).2.2.2.2.2.2.2.2.2.2.2.2.2.2.2.1,(HS.out w' h).2.2.2.2.2.2.2.2.2.2.2.2.2.2.2.2⟩;refine AVv HS2 M4 A2 ?_;intro u18 u20 u21 u22 u23 u24 u25 u26 u27 u28 u29 u30 u31 u32 u33 u34 u35 u36 u37 u38 u39 u40 u41 u42 u43 u44 u45 u46 u47 u48 u49 u50 u51 u52 u53 u54 u55 u56 u57 u58 u59 u60 u61 u62 u63 u64 u65 u66 u67 u68 u69 u70 u71 u72 u73 u74 u75 u76 u77 u78 u79 u80 u81 u82 u83 u84 u85 u86 u87 u88 u89 u90 u91 u92 u93 u94 u95 u96 u97 u98 u99 u100 u101 u102 u103 u104 u105 u106 u107 u108 u109 u110 u111 u112 u113 u114 u115 u116 u117 u118 u119 u120 u121 u122 u123 u124 u125 u126 u127 u128 u129 u130 u131 u132 u133 u134 u135 u136 u137 u138 u139 u140 u141 u142 u143 u144 u145 u146 u147 u148 u149 u150 u151 u152 u153 u154 u155 u156 wc hcut;clear HS2
    ·obtain⟨B18,rfl,hBn,⟨y0,y1⟩⟩:=hcut
     obtain⟨W5,rfl⟩:∃W:World,W=wc:=⟨_,rfl⟩;clear x0 x1 x2 x3 x4 x5 x6 x7 x8 x9 x10 x11 x12 x13 x14 x15;obtain⟨_,x0,x1,x2,x3,x4,x5,x6,x7,x8,x9,x10,x11,x12,x13,x14,x15⟩:=HS.out _ hBn;have W5b:=W4b.trans (hBn.mono W4b.size);clear HS hbd hbr hBn W4b;obtain⟨x16,x17⟩:FR W5 B18 en ed:=⟨y0,y1⟩;clear y0 y1
     go_upto_region 17 with (fail)
     have HS:Hid (∀w',Below W5.heap.size W5 w'→Below W5.heap.size W5 w'∧w'.cell? ⟨w.heap.size,3,none⟩=some (.int .i64 m.rise)∧w'.cell? ⟨w.heap.size,4,none⟩=some (.int .i64 m.fall)∧w'.cell? ⟨Bz,0,none⟩=some (.int .i64 0)∧w'.cell? ⟨Bz,1,none⟩=some (.int .i64 1)∧w'.cell? ⟨Bb,0,none⟩=some (.int .i64 0)∧w'.cell? ⟨Bk,0,none⟩=some (.func (.func 121) #[] #[.pointer (some ⟨Bb,0,none⟩)])∧w'.cell? ⟨B13,0,none⟩=some (.int .i64 rn)∧w'.cell? ⟨B13,1,none⟩=some (.int .i64 rd)∧w'.cell? ⟨B14,0,none⟩=some (.int .i64 fn)∧w'.cell? ⟨B14,1,none⟩=some (.int .i64 fd)∧w'.cell? ⟨B15,0,none⟩=some (.int .i64 sn)∧w'.cell? ⟨B15,1,none⟩=some (.int .i64 sd)∧w'.cell? ⟨B16,0,none⟩=some (.int .i64 kn)∧w'.cell? ⟨B16,1,none⟩=some (.int .i64 kd)∧w'.cell? ⟨B17,0,none⟩=some (.int .i64 pn)∧w'.cell? ⟨B17,1,none⟩=some (.int .i64 pd)∧w'.cell? ⟨B18,0,none⟩=some (.int .i64 en)∧w'.cell? ⟨B18,1,none⟩=some (.int .i64 ed)):=lh fun w' h=>⟨h,(ct h x0 (wl x0)),(ct h x1 (wl x1)),(ct h x2 (wl x2)),(ct h x3 (wl x3)),(ct h x4 (wl x4)),(ct h x5 (wl x5)),(ct h x6 (wl x6)),(ct h x7 (wl x7)),(ct h x8 (wl x8)),(ct h x9 (wl x9)),(ct h x10 (wl x10)),(ct h x11 (wl x11)),(ct h x12 (wl x12)),(ct h x13 (wl x13)),(ct h x14 (wl x14)),(ct h x15 (wl x15)),(ct h x16 (wl x16)),(ct h x17 (wl x17))⟩;have hbr:=Below.refl W5.heap.size W5;have hbd:=hbr.drew;obtain⟨i0,hi,hz0,hz1,hz2⟩:=info_parts Lh;have W5s:=W5b.size;have HS2:Hid (∀w',Below W5.heap.size W5 w'→Below W5.heap.size W5 w'∧w'.cell? ⟨w.heap.size,3,none⟩=some (.int .i64 m.rise)∧w'.cell? ⟨Bz,0,none⟩=some (.int .i64 0)∧w'.cell? ⟨Bz,1,none⟩=some (.int .i64 1)∧w'.cell? ⟨Bk,0,none⟩=some (.func (.func 121) #[] #[.pointer (some ⟨Bb,0,none⟩)])):=lh fun w' h=>⟨h,(HS.out w' h).2.1,(HS.out w' h).2.2.2.1,(HS.out w' h).2.2.2.2.1,(HS.out w' h).2.2.2.2.2.2.1⟩;refine AWb HS2 M5 ?_;intro u19 u20 u21 u22 u23 u24 u25 u26 u27 u28 u29 u30 u31 u32 u33 u34 u35 u36 u37 u38 u39 u40 u41 u42 u43 u44 u45 u46 u47 u48 u49 u50 u51 u52 u53 u54 u55 u56 u57 u58 u59 u60 u61 u62 u63 u64 u65 u66 u67 u68 u69 u70 u71 u72 u73 u74 u75 u76 u77 u78 u79 u80 u81 u82 u83 u84 u85 u86 u87 u88 u89 u90 u91 u92 u93 u94 u95 u96 u97 u98 u99 u100 u101 u102 u103 u104 u105 u106 u107 u108 u109 u110 u111 u112 u113 u114 u115 u116 u117 u118 u119 u120 u121 u122 u123 u124 u125 u126 u127 u128 u129 u130 u131 u132 u133 u134 u135 u136 u137 u138 u139 u140 u141 u142 u143 u144 u145 u146 u147 u148 u149 u150 u151 u152 u153 u154 u155 u156 wc hcut
     clear HS2
     ·obtain⟨HR,hBn⟩:=hcut
      obtain⟨r19,rfl⟩:∃x:Value,x=u19:=⟨_,rfl⟩;obtain⟨W6,rfl⟩:∃x:World,x=wc:=⟨_,rfl⟩;clear x0 x1 x2 x3 x4 x5 x6 x7 x8 x9 x10 x11 x12 x13 x14 x15 x16 x17;obtain⟨_,x0,x1,x2,x3,x4,x5,x6,x7,x8,x9,x10,x11,x12,x13,x14,x15,x16,x17⟩:=HS.out _ hBn
      go_upto_if 113 with (fail)
      go_cut [19] (fun v wx=>Hid (∃M:List Pc,M=[⟨0,1,0,1,0,1,cn,cd⟩]++(if kn=0 then[]else[⟨sn,sd,rn,rd,t,1,0,1⟩])∧wx.ownsRow W5.heap.size 122 8 v M.length (Ce M))∧Below W5.heap.size W5 wx)
      case first=>
       by_cases hk:kn=0
       ·have z1:(kn !=0)=false:=by simpa using hk
        have z2:(kn==0)=true:=by simpa using hk
        go_wp2_with fail
        go_meet
        exact⟨lh ⟨_,rfl,by rw[if_pos hk];exact HR.out⟩,hBn⟩
       ·have z1:(kn !=0)=true:=by simpa using hk
        have z2:(kn==0)=false:=by simpa using hk
        have HS2:Hid (∀w',Below W5.heap.size W5 w'→Below W5.heap.size W5 w'∧w'.cell? ⟨Bz,0,none⟩=some (.int .i64 0)∧w'.cell? ⟨Bz,1,none⟩=some (.int .i64 1)∧w'.cell? ⟨B13,0,none⟩=some (.int .i64 rn)∧w'.cell? ⟨B13,1,none⟩=some (.int .i64 rd)∧w'.cell? ⟨B15,0,none⟩=some (.int .i64 sn)∧w'.cell? ⟨B15,1,none⟩=some (.int .i64 sd)):=lh fun w' h=>⟨h,(HS.out w' h).2.2.2.1,(HS.out w' h).2.2.2.2.1,(HS.out w' h).2.2.2.2.2.2.2.1,(HS.out w' h).2.2.2.2.2.2.2.2.1,(HS.out w' h).2.2.2.2.2.2.2.2.2.2.2.1,(HS.out w' h).2.2.2.2.2.2.2.2.2.2.2.2.1⟩;have HNK:=lh hk;clear hk
        go_upto_region 19 with (fail)
        clear z1 z2 x0 x1 x2 x3 x4 x5 x6 x7 x8 x9 x10 x11 x12 x13 x14 x15 x16 x17;refine AVp HS2 HNK HR hBn ?_;intro u19 u20 u21 u22 u23 u24 u25 u26 u27 u28 u29 u30 u31 u32 u33 u34 u35 u36 u37 u38 u39 u40 u41 u42 u43 u44 u45 u46 u47 u48 u49 u50 u51 u52 u53 u54 u55 u56 u57 u58 u59 u60 u61 u62 u63 u64 u65 u66 u67 u68 u69 u70 u71 u72 u73 u74 u75 u76 u77 u78 u79 u80 u81 u82 u83 u84 u85 u86 u87 u88 u89 u90 u91 u92 u93 u94 u95 u96 u97 u98 u99 u100 u101 u102 u103 u104 u105 u106 u107 u108 u109 u110 u111 u112 u113 u114 u115 u116 u117 u118 u119 u120 u121 u122 u123 u124 u125 u126 u127 u128 u129 u130 u131 u132 u133 u134 u135 u136 u137 u138 u139 u140 u141 u142 u143 u144 u145 u146 u147 u148 u149 u150 u151 u152 u153 u154 u155 u156 wc hcut
        go_wp2_with fail
        go_meet
        exact hcut
      case rest=>
       obtain⟨HM,hBm⟩:=hcut;obtain⟨r20,rfl⟩:∃x:Value,x=u19:=⟨_,rfl⟩;obtain⟨W7,rfl⟩:∃x:World,x=wc:=⟨_,rfl⟩;clear hBn HR x0 x1 x2 x3 x4 x5 x6 x7 x8 x9 x10 x11 x12 x13 x14 x15 x16 x17;obtain⟨M,hM,hMo⟩:=HM.out;have HR:=lh hMo;have hMl:M.length≤2:=by rw[hM];split<;>simp
       have HMM:=lh hM;clear hM hMo HM;obtain⟨_,x0,x1,x2,x3,x4,x5,x6,x7,x8,x9,x10,x11,x12,x13,x14,x15,x16,x17⟩:=HS.out _ hBm
       go_upto_region 20 with (fail)
       have HS2:Hid (∀w',Below W5.heap.size W5 w'→Below W5.heap.size W5 w'∧w'.cell? ⟨w.heap.size,4,none⟩=some (.int .i64 m.fall)∧w'.cell? ⟨Bz,0,none⟩=some (.int .i64 0)∧w'.cell? ⟨Bz,1,none⟩=some (.int .i64 1)∧w'.cell? ⟨Bk,0,none⟩=some (.func (.func 121) #[] #[.pointer (some ⟨Bb,0,none⟩)])∧w'.cell? ⟨B14,0,none⟩=some (.int .i64 fn)∧w'.cell? ⟨B14,1,none⟩=some (.int .i64 fd)∧w'.cell? ⟨B17,0,none⟩=some (.int .i64 pn)∧w'.cell? ⟨B17,1,none⟩=some (.int .i64 pd)∧w'.cell? ⟨B18,0,none⟩=some (.int .i64 en)∧w'.cell? ⟨B18,1,none⟩=some (.int .i64 ed)):=lh fun w' h=>⟨h,(HS.out w' h).2.2.1,(HS.out w' h).2.2.2.1,(HS.out w' h).2.2.2.2.1,(HS.out w' h).2.2.2.2.2.2.1,(HS.out w' h).2.2.2.2.2.2.2.2.2.1,(HS.out w' h).2.2.2.2.2.2.2.2.2.2.1,(HS.out w' h).2.2.2.2.2.2.2.2.2.2.2.2.2.2.2.1,(HS.out w' h).2.2.2.2.2.2.2.2.2.2.2.2.2.2.2.2.1,(HS.out w' h).2.2.2.2.2.2.2.2.2.2.2.2.2.2.2.2.2.1,(HS.out w' h).2.2.2.2.2.2.2.2.2.2.2.2.2.2.2.2.2.2⟩;refine AVu HS2 S3 M6 hMl hNF HR hBm ?_;intro u19 u20 u21 u22 u23 u24 u25 u26 u27 u28 u29 u30 u31 u32 u33 u34 u35 u36 u37 u38 u39 u40 u41 u42 u43 u44 u45 u46 u47 u48 u49 u50 u51 u52 u53 u54 u55 u56 u57 u58 u59 u60 u61 u62 u63 u64 u65 u66 u67 u68 u69 u70 u71 u72 u73 u74 u75 u76 u77 u78 u79 u80 u81 u82 u83 u84 u85 u86 u87 u88 u89 u90 u91 u92 u93 u94 u95 u96 u97 u98 u99 u100 u101 u102 u103 u104 u105 u106 u107 u108 u109 u110 u111 u112 u113 u114 u115 u116 u117 u118 u119 u120 u121 u122 u123 u124 u125 u126 u127 u128 u129 u130 u131 u132 u133 u134 u135 u136 u137 u138 u139 u140 u141 u142 u143 u144 u145 u146 u147 u148 u149 u150 u151 u152 u153 u154 u155 u156 wc hcut;clear HS2
       ·obtain⟨HF,hBf⟩:=hcut
        obtain⟨r21,rfl⟩:∃x:Value,x=u19:=⟨_,rfl⟩;obtain⟨W8,rfl⟩:∃x:World,x=wc:=⟨_,rfl⟩;clear x0 x1 x2 x3 x4 x5 x6 x7 x8 x9 x10 x11 x12 x13 x14 x15 x16 x17;obtain⟨_,x0,x1,x2,x3,x4,x5,x6,x7,x8,x9,x10,x11,x12,x13,x14,x15,x16,x17⟩:=HS.out _ hBf
        go_wp2_with fail
        go_ret2
        refine⟨lh ⟨_,rfl,?_⟩,W5b.trans (hBf.mono W5b.size)⟩;have e:L=(M++([⟨pn,pd,hn,hd,t,1,mn,md⟩,⟨en,ed,d,1,0,1,0,1⟩]:List Pc)):=by rw[HL.out,←HMM.out]
        rw[e];exact ACn HF.out W5b.size
theorem AKj{n d:Int}(h:Cf n d=true):Cf (-n) d=true:=by
 obtain⟨h1,h2,h3,h4,h5⟩:=(Bj _ _).1 h;exact(Bj _ _).2 ⟨h1,h2,by omega,by omega,by rw[Int.neg_gcd];exact h5⟩
theorem AFi{n d:Int}(h:Cf n d=true)(hn:0<n):Cf d n=true:=by
 obtain⟨h1,h2,h3,h4,h5⟩:=(Bj _ _).1 h;exact(Bj _ _).2 ⟨by omega,h4,by omega,h2,by rw[Int.gcd_comm];exact h5⟩
theorem APk(an ad bn bd:Int)(va:Cf an ad=true)(vb:Cf bn bd=true)(hn:0<bn)(w:World):
  Calls Tryz.prog 125 #[.agg #[.int .i64 an,.int .i64 ad],.agg #[.int .i64 bn,.int .i64 bd]] w fun e w'=>e=.returned (.tuple #[.agg #[.int .i64 (Ng an ad bd bn).1,.int .i64 (Ng an ad bd bn).2.1],.int .i64 (Ng an ad bd bn).2.2])∧Below w.heap.size w w':=by
 obtain⟨P,hP⟩:=nm (Ng an ad bd bn);have HPP:=lh hP;rw[hP];clear hP;obtain⟨b1,b2,b3,b4,b5⟩:=(Bj _ _).1 vb;have nz:(bn==0)=false:=by simp;omega
 have dn:decide (bn<0)=false:=dF (by omega);have HVA:=lh va;have HVB:=lh vb;have HC:=lh (AAu an ad bd bn va (AFi vb hn));clear va vb b5
 go_enter Tryz.func125,Tryz.ntmps125
 go_wp2_with (first
  | (go_at_call 68;go_fit (Df an ad _);rintro e w1 ⟨rfl,hb1⟩;rw[HVA.out];have z0:w1.cell? ⟨w.heap.size,0,none⟩=some (.int .i64 an):=(hb1.cell (p:=⟨w.heap.size,0,none⟩) (by simp<;>omega)).trans (by simp[go_sem,World.cell?_alloc_past]);have z1:w1.cell? ⟨w.heap.size,1,none⟩=some (.int .i64 ad):=(hb1.cell (p:=⟨w.heap.size,1,none⟩) (by simp<;>omega)).trans (by simp[go_sem,World.cell?_alloc_past]);have z2:w1.cell? ⟨w.heap.size+1,0,none⟩=some (.int .i64 bn):=(hb1.cell (p:=⟨w.heap.size+1,0,none⟩) (by simp<;>omega)).trans (by simp[go_sem,World.cell?_alloc_past]);have z3:w1.cell? ⟨w.heap.size+1,1,none⟩=some (.int .i64 bd):=(hb1.cell (p:=⟨w.heap.size+1,1,none⟩) (by simp<;>omega)).trans (by simp[go_sem,World.cell?_alloc_past]))
  | (go_at_call 68;go_fit (Df bn bd _);rintro e w2 ⟨rfl,hb2⟩;rw[HVB.out];have z4:w2.cell? ⟨w.heap.size,0,none⟩=some (.int .i64 an):=(ct hb2 z0 (wl z0));have z5:w2.cell? ⟨w.heap.size,1,none⟩=some (.int .i64 ad):=(ct hb2 z1 (wl z1));have z6:w2.cell? ⟨w.heap.size+1,0,none⟩=some (.int .i64 bn):=(ct hb2 z2 (wl z2));have z7:w2.cell? ⟨w.heap.size+1,1,none⟩=some (.int .i64 bd):=(ct hb2 z3 (wl z3)))
  | (go_at_call 75;go_fit (HC.out _);rintro e w3 ⟨rfl,hb3⟩;rw[HPP.out];have hb4:=hb1.trans ((hb2.trans (hb3.mono hb2.size)).mono hb1.size);have l4:w3.cell? ⟨w.heap.size+1+1,0,none⟩=some (.int .i64 0):=(hb4.cell (p:=⟨w.heap.size+1+1,0,none⟩) (by simp<;>omega)).trans (by simp[go_sem]);have l5:w3.cell? ⟨w.heap.size+1+1,1,none⟩=some (.int .i64 0):=(hb4.cell (p:=⟨w.heap.size+1+1,1,none⟩) (by simp<;>omega)).trans (by simp[go_sem]);have l6:w3.frozen? ⟨w.heap.size+1+1,0,none⟩=false:=(hb4.frozen (p:=⟨w.heap.size+1+1,0,none⟩) (by simp<;>omega)).trans (by simp[go_sem]);have l7:w3.frozen? ⟨w.heap.size+1+1,1,none⟩=false:=(hb4.frozen (p:=⟨w.heap.size+1+1,1,none⟩) (by simp<;>omega)).trans (by simp[go_sem])))
 have s2:=(Ag (v0:=.int .i64 P.1) (v1:=.int .i64 P.2.1) l4 l5).1;have s3:=(Ag (v0:=.int .i64 P.1) (v1:=.int .i64 P.2.1) l4 l5).2;refine bodyPost_ret (v:=.tuple #[.agg #[.int .i64 P.1,.int .i64 P.2.1],.int .i64 P.2.2]) (by simp[results,Tryz.results125,go_sem,s2,s3]) rfl ⟨rfl,?_⟩;have hBW:=(((Aa w (.cells #[.int .i64 an,.int .i64 ad] 49)).alloc (by simp) (.cells #[.int .i64 bn,.int .i64 bd] 49)).alloc (by simp<;>omega) (.cells #[.int .i64 0,.int .i64 0] 49)).trans (hb4.mono (by simp<;>omega));exact(hBW.setCell (p:=⟨w.heap.size+1+1,0,none⟩) (by simp<;>omega) _).setCell (p:=⟨w.heap.size+1+1,1,none⟩) (by simp<;>omega) _
theorem ABp(an ad bn bd:Int)(va:Cf an ad=true)(vb:Cf bn bd=true)(w:World):
  Calls Tryz.prog 102 #[.agg #[.int .i64 an,.int .i64 ad],.agg #[.int .i64 bn,.int .i64 bd]] w fun e w'=>e=.returned (.tuple #[.agg #[.int .i64 (Jn an ad (-bn) bd).1,.int .i64 (Jn an ad (-bn) bd).2.1],.int .i64 (Jn an ad (-bn) bd).2.2])∧Below w.heap.size w w':=by
 obtain⟨P,hP⟩:=nm (Jn an ad (-bn) bd);have HPP:=lh hP;rw[hP];clear hP;obtain⟨b1,b2,b3,b4,b5⟩:=(Bj _ _).1 vb;have wn:IntKind.i64.wrap (-bn)=-bn:=IntWalk.i64_in _ (by omega);have HVA:=lh va;have HVB:=lh vb;have HC:=lh (Ss an ad (-bn) bd va (AKj vb));clear va vb b5
 go_enter Tryz.func102,Tryz.ntmps102
 go_wp2_with (first
  | (go_at_call 68;go_fit (Df an ad _);rintro e w1 ⟨rfl,hb1⟩;rw[HVA.out];have z0:w1.cell? ⟨w.heap.size,0,none⟩=some (.int .i64 an):=(hb1.cell (p:=⟨w.heap.size,0,none⟩) (by simp<;>omega)).trans (by simp[go_sem,World.cell?_alloc_past]);have z1:w1.cell? ⟨w.heap.size,1,none⟩=some (.int .i64 ad):=(hb1.cell (p:=⟨w.heap.size,1,none⟩) (by simp<;>omega)).trans (by simp[go_sem,World.cell?_alloc_past]);have z2:w1.cell? ⟨w.heap.size+1,0,none⟩=some (.int .i64 bn):=(hb1.cell (p:=⟨w.heap.size+1,0,none⟩) (by simp<;>omega)).trans (by simp[go_sem,World.cell?_alloc_past]);have z3:w1.cell? ⟨w.heap.size+1,1,none⟩=some (.int .i64 bd):=(hb1.cell (p:=⟨w.heap.size+1,1,none⟩) (by simp<;>omega)).trans (by simp[go_sem,World.cell?_alloc_past]))
  | (go_at_call 68;go_fit (Df bn bd _);rintro e w2 ⟨rfl,hb2⟩;rw[HVB.out];have z4:w2.cell? ⟨w.heap.size,0,none⟩=some (.int .i64 an):=(ct hb2 z0 (wl z0));have z5:w2.cell? ⟨w.heap.size,1,none⟩=some (.int .i64 ad):=(ct hb2 z1 (wl z1));have z6:w2.cell? ⟨w.heap.size+1,0,none⟩=some (.int .i64 bn):=(ct hb2 z2 (wl z2));have z7:w2.cell? ⟨w.heap.size+1,1,none⟩=some (.int .i64 bd):=(ct hb2 z3 (wl z3)))
  | (go_at_call 124;go_fit (HC.out _);rintro e w3 ⟨rfl,hb3⟩;rw[HPP.out];have hb4:=hb1.trans ((hb2.trans (hb3.mono hb2.size)).mono hb1.size);have l4:w3.cell? ⟨w.heap.size+1+1,0,none⟩=some (.int .i64 0):=(hb4.cell (p:=⟨w.heap.size+1+1,0,none⟩) (by simp<;>omega)).trans (by simp[go_sem]);have l5:w3.cell? ⟨w.heap.size+1+1,1,none⟩=some (.int .i64 0):=(hb4.cell (p:=⟨w.heap.size+1+1,1,none⟩) (by simp<;>omega)).trans (by simp[go_sem]);have l6:w3.frozen? ⟨w.heap.size+1+1,0,none⟩=false:=(hb4.frozen (p:=⟨w.heap.size+1+1,0,none⟩) (by simp<;>omega)).trans (by simp[go_sem]);have l7:w3.frozen? ⟨w.heap.size+1+1,1,none⟩=false:=(hb4.frozen (p:=⟨w.heap.size+1+1,1,none⟩) (by simp<;>omega)).trans (by simp[go_sem])))
 have s2:=(Ag (v0:=.int .i64 P.1) (v1:=.int .i64 P.2.1) l4 l5).1;have s3:=(Ag (v0:=.int .i64 P.1) (v1:=.int .i64 P.2.1) l4 l5).2;refine bodyPost_ret (v:=.tuple #[.agg #[.int .i64 P.1,.int .i64 P.2.1],.int .i64 P.2.2]) (by simp[results,Tryz.results102,go_sem,s2,s3]) rfl ⟨rfl,?_⟩;have hBW:=(((Aa w (.cells #[.int .i64 an,.int .i64 ad] 49)).alloc (by simp) (.cells #[.int .i64 bn,.int .i64 bd] 49)).alloc (by simp<;>omega) (.cells #[.int .i64 0,.int .i64 0] 49)).trans (hb4.mono (by simp<;>omega));exact(hBW.setCell (p:=⟨w.heap.size+1+1,0,none⟩) (by simp<;>omega) _).setCell (p:=⟨w.heap.size+1+1,1,none⟩) (by simp<;>omega) _
theorem ACm{n d:Int}(hd:0<d):Mo n d=Kx (Ay n d) (Ar n d):=by
 unfold Mo;rw[if_neg (by omega)];have e1:((n.natAbs:Int))/(Int.gcd n d:Int)=((Ay n d).natAbs:Int):=by rw[ACx,Int.natCast_ediv]
 have e2:((d.natAbs:Int))/(Int.gcd n d:Int)=Ar n d:=by rw[show(d.natAbs:Int)=d by omega];rfl
 rw[e1,e2];refine Wa ?_;have:=Rz (n:=n) hd;rw[dF (show ¬d<0 by omega),Bool.eq_iff_iff]
 simp
 rw[this];omega
theorem AKy{p q:Int}(h1:p.natAbs≤1152921504606846976)(h2:q≤1152921504606846976):Kx p q=(p,q,0):=by
 unfold Kx;rw[if_neg (by omega)]
theorem Vc{n d:Int}(hd:0<d)(h1:-1152921504606846976≤n)(h1':n≤1152921504606846976)(h2:d≤1152921504606846976):Kx (Ay n d) (Ar n d)=(Ay n d,Ar n d,0):=by
 have a:=Nq n d;have b:=Qd (n:=n) hd;exact AKy (by omega) (by omega)
theorem ARw{n1 d1 n2 d2 N D:Int}(h1:0<d1)(h2:0<d2)(hD:0<D)(h:(n1*d2+n2*d1)*D=N*(d1*d2)):
  Ay (Ay n1 d1*Ar n2 d2+Ay n2 d2*Ar n1 d1) (Ar n1 d1*Ar n2 d2)=Ay N D∧Ar (Ay n1 d1*Ar n2 d2+Ay n2 d2*Ar n1 d1) (Ar n1 d1*Ar n2 d2)=Ar N D:=by
 have a1:=Kv n1 d1;have a2:=Mr n1 d1;have b1:=Kv n2 d2;have b2:=Mr n2 d2;have g1:=Dn (n:=n1) h1;have g2:=Dn (n:=n2) h2;have p1:=Eg (n:=n1) h1;have p2:=Eg (n:=n2) h2;refine ADa (Int.mul_pos p1 p2) hD ?_;generalize Ay n1 d1=x1 at *;generalize Ar n1 d1=y1 at *;generalize Ay n2 d2=x2 at *;generalize Ar n2 d2=y2 at *;generalize (Int.gcd n1 d1:Int)=u at *;generalize (Int.gcd n2 d2:Int)=v at *;subst a1 a2 b1 b2;have huv:u*v≠0:=by have:=Int.mul_pos g1 g2;omega
 refine Int.eq_of_mul_eq_mul_right huv ?_
 have e1:(x1*y2+x2*y1)*D*(u*v)=(x1*u*(y2*v)+x2*v*(y1*u))*D:=by
  have:(x1*u*(y2*v)+x2*v*(y1*u))=(x1*y2+x2*y1)*(u*v):=by
   rw[Int.add_mul];congr 1<;>ac_rfl
  rw[this];ac_rfl
 rw[e1,h]
 ac_rfl
theorem AQa{n1 d1 n2 d2 N D:Int}(h1:0<d1)(h2:0<d2)(hD:0<D)(h:n1*n2*D=N*(d1*d2)):
  Ay (Ay n1 d1*Ay n2 d2) (Ar n1 d1*Ar n2 d2)=Ay N D∧Ar (Ay n1 d1*Ay n2 d2) (Ar n1 d1*Ar n2 d2)=Ar N D:=by
 have a1:=Kv n1 d1;have a2:=Mr n1 d1;have b1:=Kv n2 d2;have b2:=Mr n2 d2;have g1:=Dn (n:=n1) h1;have g2:=Dn (n:=n2) h2;have p1:=Eg (n:=n1) h1;have p2:=Eg (n:=n2) h2;refine ADa (Int.mul_pos p1 p2) hD ?_;generalize Ay n1 d1=x1 at *;generalize Ar n1 d1=y1 at *;generalize Ay n2 d2=x2 at *;generalize Ar n2 d2=y2 at *;generalize (Int.gcd n1 d1:Int)=u at *;generalize (Int.gcd n2 d2:Int)=v at *;subst a1 a2 b1 b2;have huv:u*v≠0:=by have:=Int.mul_pos g1 g2;omega
 refine Int.eq_of_mul_eq_mul_right huv ?_;have e1:x1*x2*D*(u*v)=x1*u*(x2*v)*D:=by ac_rfl
 rw[e1,h]
 ac_rfl
theorem ADd{n1 d1 n2 d2 N D:Int}(h1:0<d1)(h2:0<d2)(hD:0<D)(h:(n1*d2+n2*d1)*D=N*(d1*d2))(b1:-1152921504606846976≤N)(b2:N≤1152921504606846976)(b3:D≤1152921504606846976):
  Jn (Ay n1 d1) (Ar n1 d1) (Ay n2 d2) (Ar n2 d2)=(Ay N D,Ar N D,0):=by
 unfold Jn;obtain⟨e1,e2⟩:=ARw h1 h2 hD h;rw[e1,e2];exact Vc hD b1 b2 b3
theorem AQc{n1 d1 n2 d2 N D:Int}(h1:0<d1)(h2:0<d2)(hD:0<D)(h:n1*n2*D=N*(d1*d2))(b1:-1152921504606846976≤N)(b2:N≤1152921504606846976)(b3:D≤1152921504606846976):
  Ng (Ay n1 d1) (Ar n1 d1) (Ay n2 d2) (Ar n2 d2)=(Ay N D,Ar N D,0):=by
 unfold Ng;obtain⟨e1,e2⟩:=AQa h1 h2 hD h;rw[e1,e2];exact Vc hD b1 b2 b3
theorem AIu(n:Int):Ay n 1=n∧Ar n 1=1:=ACk (by simp)
def kP(d R F t:Int):Int:=2*R*F*d-t*t*(R+F)
def Dg(d R F t:Int):List Pc:=if d=0 then[⟨0,1,0,1,0,1,0,1⟩]else
 [⟨0,1,0,1,0,1,Ay R 2,Ar R 2⟩]++(if kP d R F t=0 then[]else[⟨Ay t R,Ar t R,Ay (t*t) (2*R),Ar (t*t) (2*R),t,1,0,1⟩])++
 [⟨Ay (2*F*(t*t)+kP d R F t) (2*R*F*t),Ar (2*F*(t*t)+kP d R F t) (2*R*F*t),Ay (2*F*d-t*t) (2*F),Ar (2*F*d-t*t) (2*F),t,1,Ay (-F) 2,Ar (-F) 2⟩,
  ⟨Ay (2*F*(t*t)+kP d R F t+2*R*(t*t)) (2*R*F*t),Ar (2*F*(t*t)+kP d R F t+2*R*(t*t)) (2*R*F*t),d,1,0,1,0,1⟩]
theorem Pw{d V R F t:Int}(hd:1≤d)(hR:1≤R)(hF:1≤F)(hV:1≤V)(h:Hd d V R F t):1≤t:=by
 obtain⟨t0,t1,t2,t3⟩:=h;rcases Int.lt_or_le 0 t with l | l
 ·exact l
 ·obtain rfl:t=0:=by omega
  rcases t3 with e | e
  ·omega
  ·refine absurd ?_ e
   unfold Km;have h1:R*1≤R*F:=Int.mul_le_mul_of_nonneg_left hF (by omega);have h2:1*F≤R*F:=Int.mul_le_mul_of_nonneg_right hR (by omega);have h3:R*F*1≤R*F*d:=Int.mul_le_mul_of_nonneg_left hd (Int.mul_nonneg (by omega) (by omega));have e1:2*R*F*d=2*(R*F*d):=by rw[Int.mul_assoc 2,Int.mul_assoc 2]
   rw[e1];omega
structure ATy(d R F t:Int):Prop where
 T0:1≤t*t
 T1:t*t≤67108864
 k0:0≤kP d R F t
 k1:kP d R F t≤562949953421312
 rf0:1≤2*R*F
 rf1:2*R*F≤536870912
 w0:1≤2*R*F*t
 w1:2*R*F*t≤4398046511104
 a0:1≤2*F*(t*t)
 a1:2*F*(t*t)≤2199023255552
 b0:1≤2*R*(t*t)
 b1:2*R*(t*t)≤2199023255552
 c0:0≤2*R*d
 c1:2*R*d≤34359738368
 e0:0≤2*F*d
 e1:2*F*d≤34359738368
theorem AIs{d V R F t:Int}(d1:1≤d)(d2:d≤1048576)(R0:1≤R)(R1:R≤16384)(F0:1≤F)(F1:F≤16384)(V0:1≤V)(V1:V≤8192)(h:Hd d V R F t):ATy d R F t:=by
 have t0:=Pw d1 R0 F0 V0 h;obtain⟨_,t1,t2,_⟩:=h;unfold Km at t2;have T0:1*1≤t*t:=Int.mul_le_mul t0 t0 (by decide) (by omega);have T1:t*t≤8192*8192:=Int.mul_le_mul (by omega) (by omega) (by omega) (by decide);have S0:1*1≤t*t*(R+F):=Int.mul_le_mul (by omega) (by omega) (by decide) (by omega);have r0:1*1≤2*R*F:=Int.mul_le_mul (by omega) F0 (by decide) (by omega);have r1:2*R*F≤32768*16384:=Int.mul_le_mul (by omega) F1 (by omega) (by decide);have q1:2*R*F*d≤536870912*1048576:=Int.mul_le_mul (by omega) d2 (by omega) (by decide);have u0:1*1≤2*R*F*t:=Int.mul_le_mul (by omega) t0 (by decide) (by omega);have u1:2*R*F*t≤536870912*8192:=Int.mul_le_mul (by omega) (by omega) (by omega) (by decide);have v0:1*1≤2*F*(t*t):=Int.mul_le_mul (by omega) (by omega) (by decide) (by omega);have v1:2*F*(t*t)≤32768*67108864:=Int.mul_le_mul (by omega) (by omega) (by omega) (by decide);have x0:1*1≤2*R*(t*t):=Int.mul_le_mul (by omega) (by omega) (by decide) (by omega);have x1:2*R*(t*t)≤32768*67108864:=Int.mul_le_mul (by omega) (by omega) (by omega) (by decide);have y0:=Int.mul_nonneg (show 0≤2*R by omega) (show 0≤d by omega);have y1:2*R*d≤32768*1048576:=Int.mul_le_mul (by omega) d2 (by omega) (by decide);have z0:=Int.mul_nonneg (show 0≤2*F by omega) (show 0≤d by omega);have z1:2*F*d≤32768*1048576:=Int.mul_le_mul (by omega) d2 (by omega) (by decide);exact⟨by omega,by omega,by unfold kP;omega,by unfold kP;omega,by omega,by omega,by omega,by omega,by omega,by omega,by omega,by omega,y0,by omega,z0,by omega⟩
theorem AUd(d R t:Int):(d*(2*R)+-(t*t)*1)*(2*R)=(2*R*d-t*t)*(1*(2*R)):=by
 rw[Int.one_mul,Int.mul_one,Int.mul_comm d (2*R)];rfl
theorem AUa(d R F t:Int):((2*R*d-t*t)*(2*F)+-(t*t)*(2*R))*(2*R*F)=kP d R F t*(2*R*(2*F)):=by
 unfold kP
 grind
theorem ATn(d R F t:Int):(t*(2*R*F*t)+kP d R F t*R)*(2*R*F*t)=(2*F*(t*t)+kP d R F t)*(R*(2*R*F*t)):=by
 generalize kP d R F t=k
 grind
theorem ATl(d R F t:Int):((2*F*(t*t)+kP d R F t)*F+t*(2*R*F*t))*(2*R*F*t)=(2*F*(t*t)+kP d R F t+2*R*(t*t))*(2*R*F*t*F):=by
 generalize kP d R F t=k
 grind
theorem AUk(d F t:Int):(d*(2*F)+-(t*t)*1)*(2*F)=(2*F*d-t*t)*(1*(2*F)):=by
 rw[Int.one_mul,Int.mul_one,Int.mul_comm d (2*F)];rfl

theorem Ey{n d:Int}(hd:0<d)(h1:-1152921504606846976≤n)(h2:n≤1152921504606846976)(h3:d≤1152921504606846976):Cf (Ay n d) (Ar n d)=true:=by
 have a:=Nq n d;have b:=Qd (n:=n) hd;have c:=Eg (n:=n) hd;exact(Bj _ _).2 ⟨by omega,by omega,by omega,by omega,Kl hd⟩
theorem Jf{n d:Int}(hn:¬n=0)(hd:0<d)(h1:-1152921504606846976≤n)(h2:n≤1152921504606846976)(h3:d≤1152921504606846976):Ev 53 #[.int .i64 n,.int .i64 d] (Ay n d) (Ar n d):=fun w=>by
 have h:=AEe n d hn (by omega) (by omega) (by omega) (by omega) w;rw[ACm hd,Vc hd h1 h2 h3]at h;exact h
theorem Ze{n1 d1 n2 d2 N D:Int}(h1:0<d1)(h2:0<d2)(hD:0<D)(hc:(n1*d2+n2*d1)*D=N*(d1*d2))(b1:-1152921504606846976≤N)(b2:N≤1152921504606846976)(b3:D≤1152921504606846976)
  (c1:-1152921504606846976≤n1) (c2:n1≤1152921504606846976) (c3:d1≤1152921504606846976) (c4:-1152921504606846976≤n2) (c5:n2≤1152921504606846976) (c6:d2≤1152921504606846976)
  (_:(n1.natAbs:Int)*d2+(n2.natAbs:Int)*d1<18446744073709551616) (_:d1*d2<18446744073709551616):
  Ev 124 #[.agg #[.int .i64 (Ay n1 d1),.int .i64 (Ar n1 d1)],.agg #[.int .i64 (Ay n2 d2),.int .i64 (Ar n2 d2)]] (Ay N D) (Ar N D):=fun w=>by
 have h:=Ss (Ay n1 d1) (Ar n1 d1) (Ay n2 d2) (Ar n2 d2) (Ey h1 c1 c2 c3) (Ey h2 c4 c5 c6) w;rw[ADd h1 h2 hD hc b1 b2 b3]at h;exact h
theorem Tv{n1 d1 n2 d2 N D:Int}(h1:0<d1)(h2:0<d2)(hD:0<D)(hc:(n1*d2+-n2*d1)*D=N*(d1*d2))(b1:-1152921504606846976≤N)(b2:N≤1152921504606846976)(b3:D≤1152921504606846976)
  (c1:-1152921504606846976≤n1) (c2:n1≤1152921504606846976) (c3:d1≤1152921504606846976) (c4:-1152921504606846976≤n2) (c5:n2≤1152921504606846976) (c6:d2≤1152921504606846976)
  (_:(n1.natAbs:Int)*d2+(n2.natAbs:Int)*d1<18446744073709551616) (_:d1*d2<18446744073709551616):
  Ev 102 #[.agg #[.int .i64 (Ay n1 d1),.int .i64 (Ar n1 d1)],.agg #[.int .i64 (Ay n2 d2),.int .i64 (Ar n2 d2)]] (Ay N D) (Ar N D):=fun w=>by
 have h:=ABp (Ay n1 d1) (Ar n1 d1) (Ay n2 d2) (Ar n2 d2) (Ey h1 c1 c2 c3) (Ey h2 c4 c5 c6) w;rw[←ADs,show Ar n2 d2=Ar (-n2) d2 from(Xp _ _).symm,ADd h1 h2 hD hc b1 b2 b3]at h;rw[show Ar n2 d2=Ar (-n2) d2 from(Xp _ _).symm];exact h
theorem AJp{n1 d1 t:Int}(h1:0<d1)(ht:1≤t)(ht2:t≤8192)(b1:-1152921504606846976≤n1)(b2:n1≤1152921504606846976)(b3:d1*t≤1152921504606846976)(c3:d1≤1152921504606846976):
  Ev 125 #[.agg #[.int .i64 (Ay n1 d1),.int .i64 (Ar n1 d1)],.agg #[.int .i64 t,.int .i64 1]] (Ay n1 (d1*t)) (Ar n1 (d1*t)):=fun w=>by
 have hv:Cf t 1=true:=(Bj _ _).2 ⟨by omega,by omega,by omega,by omega,by simp⟩;have h:=APk (Ay n1 d1) (Ar n1 d1) t 1 (Ey h1 b1 b2 c3) hv (by omega) w;have e:=ACk (p:=1) (q:=t) (by simp)
 have h2:Ng (Ay n1 d1) (Ar n1 d1) 1 t=(Ay n1 (d1*t),Ar n1 (d1*t),0):=by
  have h3:=AQc (n1:=n1) (d1:=d1) (n2:=1) (d2:=t) (N:=n1) (D:=d1*t) h1 (by omega) (Int.mul_pos h1 (by omega)) (by rw[Int.mul_one]) b1 b2 b3;rw[e.1,e.2]at h3;exact h3
 rw[h2]at h;exact h
theorem My{n:Int}{b:Int}(h1:0≤n)(h2:n≤b):(n.natAbs:Int)≤b:=by omega

theorem AKu(d:Int)(m:Mv)(t:Int)(hg:Ck d m=0)(hd0:¬d=0)(ht:Hd d m.spd m.rise m.fall t)(w:World):
  Calls Tryz.prog 80 #[.int .i64 d,.agg #[.string m.name,.int .i64 m.to,.int .i64 m.spd,.int .i64 m.rise,.int .i64 m.fall]] w fun e w'=>Hid (∃v,e=.returned (.tuple #[v,.int .i64 0])∧w'.ownsRow w.heap.size 122 8 v (Dg d m.rise m.fall t).length (Ce (Dg d m.rise m.fall t)))∧Below w.heap.size w w':=by
 obtain⟨hv,hd⟩:=Hk hg;obtain⟨V0,V1,R0,R1,F0,F1⟩:=Gb hv;obtain⟨d1,d2⟩:=Fj.1 hd;have t0:=Pw (by omega) R0 F0 V0 ht;have t1:t≤8192:=by have:=ht.2.1;omega
 have B:=AIs (by omega) d2 R0 R1 F0 F1 V0 V1 ht;obtain⟨T0,T1,k0,k1,rf0,rf1,w0,w1,a0,a1,b0,b1,c0,c1,e0,e1⟩:=B;have o1:=AIu d;have o2:=AIu t
 refine AGf d m t (t*t) (2*m.rise) (2*m.fall) (Ay (t*t) (2*m.rise)) (Ar (t*t) (2*m.rise)) (Ay (t*t) (2*m.fall)) (Ar (t*t) (2*m.fall)) (Ay t m.rise) (Ar t m.rise)
  (Ay (2*m.rise*d-t*t) (2*m.rise)) (Ar (2*m.rise*d-t*t) (2*m.rise)) (Ay (kP d m.rise m.fall t) (2*m.rise*m.fall)) (Ar (kP d m.rise m.fall t) (2*m.rise*m.fall))
  (Ay (kP d m.rise m.fall t) (2*m.rise*m.fall*t)) (Ar (kP d m.rise m.fall t) (2*m.rise*m.fall*t))
  (Ay (2*m.fall*(t*t)+kP d m.rise m.fall t) (2*m.rise*m.fall*t)) (Ar (2*m.fall*(t*t)+kP d m.rise m.fall t) (2*m.rise*m.fall*t))
  (Ay t m.fall) (Ar t m.fall)
  (Ay (2*m.fall*(t*t)+kP d m.rise m.fall t+2*m.rise*(t*t)) (2*m.rise*m.fall*t)) (Ar (2*m.fall*(t*t)+kP d m.rise m.fall t+2*m.rise*(t*t)) (2*m.rise*m.fall*t))
  (Ay m.rise 2) (Ar m.rise 2) (Ay (2*m.fall*d-t*t) (2*m.fall)) (Ar (2*m.fall*d-t*t) (2*m.fall)) (Ay (-m.fall) 2) (Ar (-m.fall) 2)
  hg hd0 ht (IntWalk.i64_in _ (by omega)) (IntWalk.i64_in _ (by omega)) (IntWalk.i64_in _ (by omega)) (IntWalk.i64_in _ (by omega))
  (Jf (by omega) (by omega) (by omega) (by omega) (by omega)) (Jf (by omega) (by omega) (by omega) (by omega) (by omega)) (Jf (by omega) (by omega) (by omega) (by omega) (by omega))
  (Jf (by omega) (by omega) (by omega) (by omega) (by omega)) (Jf (by omega) (by omega) (by omega) (by omega) (by omega)) (Jf (by omega) (by omega) (by omega) (by omega) (by omega))
  ?_ ?_ ?_ ?_ ?_ ?_ _ ?_ w
 ·have h:=Tv (n1:=d) (d1:=1) (n2:=t*t) (d2:=2*m.rise) (N:=2*m.rise*d-t*t) (D:=2*m.rise) (by omega) (by omega) (by omega) (AUd d m.rise t) (by omega) (by omega) (by omega) (by omega) (by omega) (by omega) (by omega) (by omega) (by omega)
   (by have:=Int.mul_le_mul (My (by omega) d2) (show 2*m.rise≤32768 by omega) (by omega) (by decide);have:=My (n:=t*t) (by omega) T1;omega) (by omega)
  rw[o1.1,o1.2]at h;exact h
 ·exact Tv (n1:=2*m.rise*d-t*t) (d1:=2*m.rise) (n2:=t*t) (d2:=2*m.fall) (N:=kP d m.rise m.fall t) (D:=2*m.rise*m.fall) (by omega) (by omega) (by omega) (AUa d m.rise m.fall t) (by omega) (by omega) (by omega) (by omega) (by omega) (by omega) (by omega) (by omega) (by omega)
   (by have:=Int.mul_le_mul (show((2*m.rise*d-t*t).natAbs:Int)≤34359738368 by omega) (show 2*m.fall≤32768 by omega) (by omega) (by decide);have:=Int.mul_le_mul (My (n:=t*t) (by omega) T1) (show 2*m.rise≤32768 by omega) (by omega) (by decide);omega)
   (by have:=Int.mul_le_mul (show 2*m.rise≤32768 by omega) (show 2*m.fall≤32768 by omega) (by omega) (by decide);omega)
 ·have h:=Tv (n1:=d) (d1:=1) (n2:=t*t) (d2:=2*m.fall) (N:=2*m.fall*d-t*t) (D:=2*m.fall) (by omega) (by omega) (by omega) (AUk d m.fall t) (by omega) (by omega) (by omega) (by omega) (by omega) (by omega) (by omega) (by omega) (by omega)
   (by have:=Int.mul_le_mul (My (by omega) d2) (show 2*m.fall≤32768 by omega) (by omega) (by decide);have:=My (n:=t*t) (by omega) T1;omega) (by omega)
  rw[o1.1,o1.2]at h;exact h
 ·exact AJp (by omega) t0 t1 (by omega) (by omega) (by omega) (by omega)
 ·exact Ze (n1:=t) (d1:=m.rise) (n2:=kP d m.rise m.fall t) (d2:=2*m.rise*m.fall*t) (N:=2*m.fall*(t*t)+kP d m.rise m.fall t) (D:=2*m.rise*m.fall*t) (by omega) (by omega) (by omega) (ATn d m.rise m.fall t) (by omega) (by omega) (by omega) (by omega) (by omega) (by omega) (by omega) (by omega) (by omega)
   (by have:=Int.mul_le_mul (My (n:=t) (by omega) t1) w1 (by omega) (by decide);have:=Int.mul_le_mul (My k0 k1) R1 (by omega) (by decide);omega)
   (by have:=Int.mul_le_mul R1 w1 (by omega) (by decide);omega)
 ·exact Ze (n1:=2*m.fall*(t*t)+kP d m.rise m.fall t) (d1:=2*m.rise*m.fall*t) (n2:=t) (d2:=m.fall) (N:=2*m.fall*(t*t)+kP d m.rise m.fall t+2*m.rise*(t*t)) (D:=2*m.rise*m.fall*t) (by omega) (by omega) (by omega) (ATl d m.rise m.fall t) (by omega) (by omega) (by omega) (by omega) (by omega) (by omega) (by omega) (by omega) (by omega)
   (by have:=Int.mul_le_mul (My (n:=2*m.fall*(t*t)+kP d m.rise m.fall t) (b:=565148976676864) (by omega) (by omega)) F1 (by omega) (by decide);have:=Int.mul_le_mul (My (n:=t) (by omega) t1) w1 (by omega) (by decide);omega)
   (by have:=Int.mul_le_mul w1 F1 (by omega) (by decide);omega)
 ·unfold Dg
  rw[if_neg hd0]
  have hk:(Ay (kP d m.rise m.fall t) (2*m.rise*m.fall)=0)=(kP d m.rise m.fall t=0):=by
   refine propext ⟨Ys,fun e=>?_⟩;rw[e];exact(Lf (by omega)).1
  simp only[hk]
theorem ASc:(Tryz.prog.info? 49).map (fun i=>(i.zero,i.size,i.bytes))=some (some (.agg #[.int .i64 0,.int .i64 0]),2,16):=by kernel_rfl

theorem Zo{ops:Array Oper}{rest:List Oper}{o:Oper}{a:Act}{w:World}{Q:Exit→Act→World→Prop}(hgd:o.guard=none)(s x:Operand)
  (ho:o.op=.call {callee:=.builtin .append,args:=#[s,x],argTypes:=#[42,42]})
  (base:Nat) (v:Value) (L:List (Int×Int)) (hs:a.eval s=v) (hown:w.ownsRow base 49 2 v L.length (Ek L))
  (bl:Nat) (y:Int×Int) (hx:a.eval x=.slice (some ⟨bl,0,none⟩) 1 1) (hc:w.cell? ⟨bl,0,none⟩=some (.int .i64 y.1)∧w.cell? ⟨bl,1,none⟩=some (.int .i64 y.2)) (hl:L.length≤1000000) (hbase:base≤w.heap.size)
  (h:∀v' w',w'.ownsRow base 49 2 v' (L++[y]).length (Ek (L++[y]))→w.grownBy w' v.ownBlock→wpList Tryz.prog ops Q rest (a.put o.dst v') w'):wpList Tryz.prog ops Q (o::rest) a w:=by
 obtain⟨i0,hi,hz0,hz1,hz2⟩:=info_parts ASc;refine wpList_append_own _ hgd s x 42 ho base 49 i0 _ 2 16 Tryz.underlying42 hi hz0 hz1 hz2 rfl (by decide) v L.length (Ek L) hs hown ⟨bl,0,none⟩ 1 1 [.int .i64 y.1,.int .i64 y.2] hx rfl ?_ (by simp[Value.oneCell']) (by unfold maxLen;omega) (by omega) hbase ?_
 ·obtain⟨c0,c1⟩:=hc
  intro j u hj;rw[Go.WideShapes.add_plain,Nat.zero_add]
  match j,hj with
  | 0,hj=>simp at hj;subst hj;exact c0
  | 1,hj=>simp at hj;subst hj;exact c1
 ·intro v' w' h1 h2 _
  refine h v' w' ?_ h2;rw[ADu,List.length_append];exact h1
def AUg(w w':World)(d:Int)(m:Mv)(t:Int)(v:Value):Prop:=(Ck d m=0→w'.ownsRow w.heap.size 122 8 v (Dg d m.rise m.fall t).length (Ce (Dg d m.rise m.fall t)))∧(¬Ck d m=0→v=.slice none 0 0)

theorem Zp(d:Int)(m:Mv)(t:Int)(ht:Ck d m=0→Hd d m.spd m.rise m.fall t)(w:World):
  Calls Tryz.prog 80 #[.int .i64 d,.agg #[.string m.name,.int .i64 m.to,.int .i64 m.spd,.int .i64 m.rise,.int .i64 m.fall]] w fun e w'=>Hid (∃v,e=.returned (.tuple #[v,.int .i64 (Ck d m)])∧AUg w w' d m t v)∧Below w.heap.size w w':=by
 by_cases hg:Ck d m=0
 ·by_cases hd:d=0
  ·have HG:=lh hg
   have HL:Hid (Dg d m.rise m.fall t=[⟨0,1,0,1,0,1,0,1⟩]):=lh (by unfold Dg;rw[if_pos hd]);have hd':(d==0)=true:=by simpa using hd
   clear hg ht hd
   go_enter Tryz.func80,Tryz.ntmps80
   go_wp2_with (go_at_call 119;go_fit (Ug d m _);rintro e w1 ⟨rfl,hb1⟩;rw[HG.out];have hB1:=(Aa w (.cells #[.string m.name,.int .i64 m.to,.int .i64 m.spd,.int .i64 m.rise,.int .i64 m.fall] 94)).trans (hb1.mono (by simp)))
   go_ret2
   refine⟨lh ⟨_,congrArg (fun x=>Ending.returned (.tuple #[_,.int .i64 x])) HG.out.symm,fun _=>?_,fun h=>absurd HG.out h⟩,?_⟩
   ·rw[HL.out]
    have h:=World.ownsRow_lit (base:=w.heap.size) (e:=122) (size:=8) (w1.alloc (.cells #[.int .i64 0,.int .i64 1] 49)) #[.int .i64 0,.int .i64 1,.int .i64 0,.int .i64 1,.int .i64 0,.int .i64 1,.int .i64 0,.int .i64 1] 1 (by have:=hB1.size;simp<;>omega) (by unfold maxLen;omega) rfl;rw[World.size_alloc]at h;exact h
   ·exact(hB1.alloc hB1.size _).alloc (by have:=hB1.size;simp<;>omega) _
  ·refine(AKu d m t hg hd (ht hg) w).mono fun e w' h=>⟨lh ?_,h.2⟩
   obtain⟨v,he,hr⟩:=h.1.out;exact⟨v,by rw[he,hg],fun _=>hr,fun h=>absurd hg h⟩
 ·obtain⟨g,hgg⟩:=nm (Ck d m)
  have HG:=lh hgg;have hg':(g==0)=false:=by rw[←hgg];simpa using hg
  have hg'':(g !=0)=true:=by rw[←hgg];simpa using hg
  have HN:=lh hg;clear hgg ht hg
  go_enter Tryz.func80,Tryz.ntmps80
  go_wp2_with (go_at_call 119;go_fit (Ug d m _);rintro e w1 ⟨rfl,hb1⟩;rw[HG.out];have hB1:=(Aa w (.cells #[.string m.name,.int .i64 m.to,.int .i64 m.spd,.int .i64 m.rise,.int .i64 m.fall] 94)).trans (hb1.mono (by simp)))
  go_ret2
  exact⟨lh ⟨_,congrArg (fun x=>Ending.returned (.tuple #[_,.int .i64 x])) HG.out.symm,fun h=>absurd h HN.out,fun _=>rfl⟩,hB1⟩

def Wy(L:List Pc):Nat→List (Int×Int)
 | 0=>[]
 | k+1=>Wy L k++[((Al L k).f0,(Al L k).f1)]
theorem Ow(L:List Pc)(k:Nat):(Wy L k).length=k:=by
 induction k with
 | zero=>rfl
 | succ k ih=>simp[Wy,ih]
def Ra(d R F t:Int):List (Int×Int):=Wy (Dg d R F t) (Dg d R F t).length
theorem Rf(d R F t:Int):1≤(Dg d R F t).length∧(Dg d R F t).length≤4:=by
 unfold Dg
 split
 ·simp
 ·split<;>simp
def ATz(w w':World)(d:Int)(m:Mv)(t:Int)(v:Value):Prop:=(Ck d m=0→w'.ownsRow w.heap.size 49 2 v (Ra d m.rise m.fall t).length (Ek (Ra d m.rise m.fall t)))∧(¬Ck d m=0→v=.slice none 0 0)

theorem ALq(d:Int)(m:Mv)(t:Int)(ht:Ck d m=0→Hd d m.spd m.rise m.fall t)(w:World):
  Calls Tryz.prog 156 #[.int .i64 d,.agg #[.string m.name,.int .i64 m.to,.int .i64 m.spd,.int .i64 m.rise,.int .i64 m.fall]] w fun e w'=>Hid (∃v,e=.returned (.tuple #[v,.int .i64 (Ck d m)])∧ATz w w' d m t v)∧Below w.heap.size w w':=by
 have HC:=lh (Zp d m t ht);obtain⟨g,hgg⟩:=nm (Ck d m);have HGG:=lh hgg
 by_cases hg:g=0
 ·have HG0:Hid (Ck d m=0):=lh (hgg.trans hg)
  subst hg;obtain⟨L,hL⟩:=nm (Dg d m.rise m.fall t);have hl:=Rf d m.rise m.fall t;rw[hL]at hl;have HL:=lh hL;clear hgg ht hL
  go_enter Tryz.func156,Tryz.ntmps156
  go_wp2_with (go_at_call 80;go_fit (HC.out _);rintro e w1 ⟨hv,hb1⟩;obtain⟨v,rfl,hrow⟩:=hv.out;rw[HG0.out];have hr1:=hrow.1 HG0.out;rw[HL.out]at hr1;obtain⟨pa,pcap,rfl,hpc1,hpc2,_,hP⟩:=Ia hr1;have HP:=lh hP;have hB1:=(Aa w (.cells #[.string m.name,.int .i64 m.to,.int .i64 m.spd,.int .i64 m.rise,.int .i64 m.fall] 94)).trans (hb1.mono (by simp));clear hrow hr1 hP hv)
  go_loopw [8,22] (fun v i wr=>∃k:Nat,k≤L.length∧i=.int .i64 k∧Below w1.heap.size w1 wr∧Hid (wr.ownsRow w1.heap.size 49 2 v (Wy L k).length (Ek (Wy L k)))) (fun _ i _=>L.length-(intOf i).toNat)
  case atStart=>exact⟨0,nz,rfl,br,lh (World.ownsRow_nil _ _ _ _)⟩
  case round=>
   obtain⟨k,hk,rfl,hC,HR⟩:=hrel;have hcs:=hC.size
   by_cases hlt:k<L.length
   ·obtain⟨b,off,rfl,hb,hc⟩:=HP.out (by omega)
    obtain⟨c0,c1,c2,c3,c4,c5,c6,c7⟩:=hc k hlt;have d0:=(ct hC c0 hb);have d1:=(ct hC c1 hb);have d2:=(ct hC c2 hb);have d3:=(ct hC c3 hb);have d4:=(ct hC c4 hb);have d5:=(ct hC c5 hb);have d6:=(ct hC c6 hb);have d7:=(ct hC c7 hb);have hkl:(Wy L k).length≤1000000:=by rw[Ow];omega
    clear hc c0 c1 c2 c3 c4 c5 c6 c7
    go_wp2_with (at_builtin;refine Zo rfl _ _ rfl w1.heap.size _ (Wy L k) rfl ((HR.out.alloc (.cells #[.int .i64 (Al L k).f0,.int .i64 (Al L k).f1,.int .i64 (Al L k).a0,.int .i64 (Al L k).a1,.int .i64 (Al L k).b0,.int .i64 (Al L k).b1,.int .i64 (Al L k).c0,.int .i64 (Al L k).c1] 122)).alloc (.cells #[.int .i64 (Al L k).f0,.int .i64 (Al L k).f1] 49)) _ ((Al L k).f0,(Al L k).f1) rfl (by simp) hkl (by first | omega | (simp;omega)) ?_;intro v5 w5 hown5 hg5;have hBn:Below w1.heap.size w1 w5:=Hb ((HR.out.alloc (.cells #[.int .i64 (Al L k).f0,.int .i64 (Al L k).f1,.int .i64 (Al L k).a0,.int .i64 (Al L k).a1,.int .i64 (Al L k).b0,.int .i64 (Al L k).b1,.int .i64 (Al L k).c0,.int .i64 (Al L k).c1] 122)).alloc (.cells #[.int .i64 (Al L k).f0,.int .i64 (Al L k).f1] 49)) hg5 ((hC.alloc hcs (.cells #[.int .i64 (Al L k).f0,.int .i64 (Al L k).f1,.int .i64 (Al L k).a0,.int .i64 (Al L k).a1,.int .i64 (Al L k).b0,.int .i64 (Al L k).b1,.int .i64 (Al L k).c0,.int .i64 (Al L k).c1] 122)).alloc (by first | omega | (simp;omega)) (.cells #[.int .i64 (Al L k).f0,.int .i64 (Al L k).f1] 49)) (by first | omega | (simp;omega)) nr)
    go_roundw
    case rel=>exact⟨k+1,by omega,by go_num,hBn,lh hown5⟩
    case measure=>simp[intOf];omega
   ·obtain rfl:k=L.length:=by omega
    go_wp2_with fail
    go_ret2
    refine⟨lh ⟨_,congrArg (fun x=>Ending.returned (.tuple #[_,.int .i64 x])) HG0.out.symm,fun _=>?_,fun h=>absurd HG0.out h⟩,hB1.trans (hC.mono hB1.size)⟩;have hr:=HR.out;unfold Ra;rw[HL.out];exact ACn hr hB1.size
 ·have HN:Hid (¬Ck d m=0):=lh (by rw[hgg];exact hg)
  have hg':(g==0)=false:=by simpa using hg
  have hg'':(g !=0)=true:=by simpa using hg
  clear hgg ht hg
  go_enter Tryz.func156,Tryz.ntmps156
  go_wp2_with (go_at_call 80;go_fit (HC.out _);rintro e w1 ⟨hv,hb1⟩;obtain⟨v,rfl,hrow⟩:=hv.out;rw[HGG.out];have hB1:=(Aa w (.cells #[.string m.name,.int .i64 m.to,.int .i64 m.spd,.int .i64 m.rise,.int .i64 m.fall] 94)).trans (hb1.mono (by simp)))
  go_ret2
  exact⟨lh ⟨_,congrArg (fun x=>Ending.returned (.tuple #[_,.int .i64 x])) HGG.out.symm,fun h=>absurd h HN.out,fun _=>rfl⟩,hB1⟩

theorem ARp(L:List Pc)(n k:Nat)(h:k<n):Ks (Wy L n) k=((Al L k).f0,(Al L k).f1):=by
 induction n with
 | zero=>omega
 | succ n ih=>
  unfold Wy;rcases Nat.lt_or_ge k n with l | l
  ·rw[ARi _ _ _ (by rw[Ow];exact l)];exact ih l
  ·obtain rfl:k=n:=by omega
   have:=AQz (Wy L k) ((Al L k).f0,(Al L k).f1)
   rwa [Ow]at this
def Ig(d:Int)(m:Mv)(t:Int):Int×Int:=if Ck d m=0 then Ks (Ra d m.rise m.fall t) ((Ra d m.rise m.fall t).length-1)else(0,0)

theorem AQd(d:Int)(m:Mv)(t:Int)(ht:Ck d m=0→Hd d m.spd m.rise m.fall t)(w:World):
  Calls Tryz.prog 108 #[.int .i64 d,.agg #[.string m.name,.int .i64 m.to,.int .i64 m.spd,.int .i64 m.rise,.int .i64 m.fall]] w fun e w'=>e=.returned (.tuple #[.agg #[.int .i64 (Ig d m t).1,.int .i64 (Ig d m t).2],.int .i64 (Ck d m)])∧Below w.heap.size w w':=by
 have HC:=lh (ALq d m t ht);obtain⟨g,hgg⟩:=nm (Ck d m);have HGG:=lh hgg;obtain⟨P,hP⟩:=nm (Ig d m t)
 by_cases hg:g=0
 ·have HG0:Hid (Ck d m=0):=lh (hgg.trans hg)
  subst hg;rw[HG0.out,hP];obtain⟨L,hL⟩:=nm (Ra d m.rise m.fall t);have hl:=Rf d m.rise m.fall t;have hl2:L.length=(Dg d m.rise m.fall t).length:=by rw[←hL];exact Ow _ _
  have HPP:Hid (Ks L (L.length-1)=P):=lh (by rw[←hP,←hL];unfold Ig;rw[if_pos HG0.out]);rw[←hl2]at hl;have HL:=lh hL;have s1:IntKind.i64.wrap ((L.length:Int)-1)=(L.length:Int)-1:=IntWalk.i64_in _ (by omega);clear hgg ht hL hP hl2
  go_enter Tryz.func108,Tryz.ntmps108
  go_wp2_with (go_at_call 156;go_fit (HC.out _);rintro e w1 ⟨hv,hb1⟩;obtain⟨v,rfl,hrow⟩:=hv.out;rw[HG0.out];have hr1:=hrow.1 HG0.out;rw[HL.out]at hr1;obtain⟨pa,pcap,rfl,hpc1,hpc2,_,hP⟩:=Tj hr1;obtain⟨b,off,rfl,hb,hc⟩:=hP (by omega);obtain⟨c0,c1⟩:=hc (L.length-1) (by omega);rw[HPP.out]at c0 c1;have hB1:=((Aa w (.cells #[.string m.name,.int .i64 m.to,.int .i64 m.spd,.int .i64 m.rise,.int .i64 m.fall] 94)).alloc (by simp) (.cells #[.int .i64 0,.int .i64 0] 49)).trans (hb1.mono (by simp<;>omega));clear hrow hr1 hc hv;have l4:w1.cell? ⟨w.heap.size+1,0,none⟩=some (.int .i64 0):=(hb1.cell (p:=⟨w.heap.size+1,0,none⟩) (by simp)).trans (by simp);have l5:w1.cell? ⟨w.heap.size+1,1,none⟩=some (.int .i64 0):=(hb1.cell (p:=⟨w.heap.size+1,1,none⟩) (by simp)).trans (by simp);have l6:w1.frozen? ⟨w.heap.size+1,0,none⟩=false:=(hb1.frozen (p:=⟨w.heap.size+1,0,none⟩) (by simp)).trans (by simp);have l7:w1.frozen? ⟨w.heap.size+1,1,none⟩=false:=(hb1.frozen (p:=⟨w.heap.size+1,1,none⟩) (by simp)).trans (by simp))
  have s2:=(Ag (v0:=.int .i64 P.1) (v1:=.int .i64 P.2) l4 l5).1;have s3:=(Ag (v0:=.int .i64 P.1) (v1:=.int .i64 P.2) l4 l5).2;refine bodyPost_ret (v:=.tuple #[.agg #[.int .i64 P.1,.int .i64 P.2],.int .i64 0]) (by simp[results,Tryz.results108,go_sem,s2,s3]) rfl ⟨rfl,?_⟩;exact(hB1.setCell (p:=⟨w.heap.size+1,0,none⟩) (by simp) _).setCell (p:=⟨w.heap.size+1,1,none⟩) (by simp) _
 ·have HN:Hid (¬Ck d m=0):=lh (by rw[hgg];exact hg)
  have e:P=(0,0):=by rw[←hP];unfold Ig;rw[if_neg HN.out]
  rw[hgg,hP,e];have hg':(g==0)=false:=by simpa using hg
  have hg'':(g !=0)=true:=by simpa using hg
  clear hgg ht hg hP e
  go_enter Tryz.func108,Tryz.ntmps108
  go_wp2_with (go_at_call 156;go_fit (HC.out _);rintro e w1 ⟨hv,hb1⟩;obtain⟨v,rfl,hrow⟩:=hv.out;rw[HGG.out];have hB1:=((Aa w (.cells #[.string m.name,.int .i64 m.to,.int .i64 m.spd,.int .i64 m.rise,.int .i64 m.fall] 94)).alloc (by simp) (.cells #[.int .i64 0,.int .i64 0] 49)).trans (hb1.mono (by simp<;>omega));have l4:w1.cell? ⟨w.heap.size+1,0,none⟩=some (.int .i64 0):=(hb1.cell (p:=⟨w.heap.size+1,0,none⟩) (by simp)).trans (by simp);have l5:w1.cell? ⟨w.heap.size+1,1,none⟩=some (.int .i64 0):=(hb1.cell (p:=⟨w.heap.size+1,1,none⟩) (by simp)).trans (by simp);have l6:w1.frozen? ⟨w.heap.size+1,0,none⟩=false:=(hb1.frozen (p:=⟨w.heap.size+1,0,none⟩) (by simp)).trans (by simp);have l7:w1.frozen? ⟨w.heap.size+1,1,none⟩=false:=(hb1.frozen (p:=⟨w.heap.size+1,1,none⟩) (by simp)).trans (by simp))
  have s2:=(Ag (v0:=.int .i64 0) (v1:=.int .i64 0) l4 l5).1;have s3:=(Ag (v0:=.int .i64 0) (v1:=.int .i64 0) l4 l5).2;refine bodyPost_ret (v:=.tuple #[.agg #[.int .i64 0,.int .i64 0],.int .i64 g]) (by simp[results,Tryz.results108,go_sem,s2,s3]) rfl ⟨rfl,?_⟩;exact(hB1.setCell (p:=⟨w.heap.size+1,0,none⟩) (by simp) _).setCell (p:=⟨w.heap.size+1,1,none⟩) (by simp) _
theorem AOv(an ad bn bd:Int)(a0:0≤an)(a1:an≤9223372036854775807)(a2:0≤ad)(a3:ad≤9223372036854775807)(b0:0≤bn)(b1:bn≤9223372036854775807)(b2:0≤bd)(b3:bd≤9223372036854775807)(w:World):
  Calls Tryz.prog 40 #[.agg #[.int .i64 an,.int .i64 ad],.agg #[.int .i64 bn,.int .i64 bd]] w fun e w'=>e=.returned (.int .i64 (Iy (an*bd) (bn*ad)))∧Below w.heap.size w w':=by
 have n1:(an.natAbs:Int)=an:=by omega
 have n2:(ad.natAbs:Int)=ad:=by omega
 have n3:(bn.natAbs:Int)=bn:=by omega
 have n4:(bd.natAbs:Int)=bd:=by omega
 have z1:=Fz an (by omega) (by omega);have z2:=Fz ad (by omega) (by omega);have z3:=Fz bn (by omega) (by omega);have z4:=Fz bd (by omega) (by omega);rw[n1]at z1;rw[n2]at z2;rw[n3]at z3;rw[n4]at z4;have x1:=Rn an bd a0 (by omega) b2 (by omega);have x2:=Rn bn ad b0 (by omega) a2 (by omega);generalize an*bd=x at *;generalize bn*ad=y at *;have hL:=AOb x y;obtain⟨xh,hxh⟩:=nm (x/18446744073709551616);obtain⟨xl,hxl⟩:=nm (x%18446744073709551616);obtain⟨yh,hyh⟩:=nm (y/18446744073709551616);obtain⟨yl,hyl⟩:=nm (y%18446744073709551616);rw[hxh,hxl]at x1;rw[hyh,hyl]at x2;rw[hxh,hxl,hyh,hyl]at hL;have hE:x=y↔(xh=yh∧xl=yl):=by omega
 have X1:=lh x1;have X2:=lh x2;have Z1:=lh z1;have Z2:=lh z2;have Z3:=lh z3;have Z4:=lh z4;have HL:=lh hL;have HE:=lh hE;clear n1 n2 n3 n4 z1 z2 z3 z4 x1 x2 hL hE hxh hxl hyh hyl;have g1:decide (an<0)=false:=dF (by omega);have g2:decide (0≤an)=true:=dT a0;have g3:decide (bn<0)=false:=dF (by omega);have W0b:Below w.heap.size w ((w.alloc (.cells #[.int .i64 an,.int .i64 ad] 49)).alloc (.cells #[.int .i64 bn,.int .i64 bd] 49)):=Aw _ (Aa _ _);obtain⟨c,hc⟩:=nm (Iy x y);rw[hc];have HC:=lh hc;clear hc
 go_enter Tryz.func40,Tryz.ntmps40
 go_upto_region 1 with (fail)
 have c0:((w.alloc (.cells #[.int .i64 an,.int .i64 ad] 49)).alloc (.cells #[.int .i64 bn,.int .i64 bd] 49)).cell? ⟨w.heap.size,0,none⟩=some (.int .i64 an):=by simp
 have c1:((w.alloc (.cells #[.int .i64 an,.int .i64 ad] 49)).alloc (.cells #[.int .i64 bn,.int .i64 bd] 49)).cell? ⟨w.heap.size,1,none⟩=some (.int .i64 ad):=by simp
 have c2:((w.alloc (.cells #[.int .i64 an,.int .i64 ad] 49)).alloc (.cells #[.int .i64 bn,.int .i64 bd] 49)).cell? ⟨w.heap.size+1,0,none⟩=some (.int .i64 bn):=by simp
 have c3:((w.alloc (.cells #[.int .i64 an,.int .i64 ad] 49)).alloc (.cells #[.int .i64 bn,.int .i64 bd] 49)).cell? ⟨w.heap.size+1,1,none⟩=some (.int .i64 bd):=by simp
 obtain⟨Bb,hBb⟩:=nm (w.heap.size+1);simp only[hBb]at c2 c3⊢;clear hBb;generalize (w.alloc (.cells #[.int .i64 an,.int .i64 ad] 49)).alloc (.cells #[.int .i64 bn,.int .i64 bd] 49)=W0 at *
 have HS:Hid (∀w',Below W0.heap.size W0 w'→Below W0.heap.size W0 w'∧w'.cell? ⟨w.heap.size,0,none⟩=some (.int .i64 an)∧w'.cell? ⟨w.heap.size,1,none⟩=some (.int .i64 ad)∧w'.cell? ⟨Bb,0,none⟩=some (.int .i64 bn)∧w'.cell? ⟨Bb,1,none⟩=some (.int .i64 bd)):=lh fun w' h=>
  ⟨h,(ct h c0 (wl c0)),(ct h c1 (wl c1)),(ct h c2 (wl c2)),(ct h c3 (wl c3))⟩
 refine AVm HS Z1 Z2 Z3 Z4 X1 X2 ?_;intro u5 u6 u7 u8 u9 u10 u11 u12 u13 u14 u15 u16 u17 u18 u19 u20 u21 u22 u23 u24 u25 u26 u27 u28 u29 u30 u31 u32 u33 u34 u35 u36 u37 u38 u39 u40 u41 u42 u43 u44 u45 u46 wc hcut
 ·obtain⟨B5,B6,rfl,rfl,hBn,⟨y0,y1⟩,⟨y2,y3⟩⟩:=hcut
  obtain⟨W1,rfl⟩:∃W:World,W=wc:=⟨_,rfl⟩;clear c0 c1 c2 c3;obtain⟨_,c0,c1,c2,c3⟩:=HS.out _ hBn;have W1b:=W0b.trans (hBn.mono W0b.size);clear HS hBn W0b
  by_cases he:x=y
  ·have HR:Hid (c=0):=lh (by rw[←HC.out];unfold Iy;rw[if_pos he])
   obtain⟨e1,e2⟩:=HE.out.1 he;have q1:(xh==yh)=true:=by simpa using e1
   have q2:(xl==yl)=true:=by simpa using e2
   clear he e1 e2 g3
   go_wp2_with fail
   go_ret;exact⟨Lw HR.out.symm,W1b⟩
  ·have hne:¬(xh=yh∧xl=yl):=fun h=>he (HE.out.2 h)
   have HX:Hid (c=if x<y then -1 else 1):=lh (by rw[←HC.out];unfold Iy;rw[if_neg he])
   by_cases hl:x<y
   all_goals
    first
     | (have hl':decide (x<y)=true:=dT hl
        have HR:Hid (c=-1):=lh (by rw[HX.out,if_pos hl]);rw[hl']at HL)
     | (have hl':decide (x<y)=false:=dF hl
        have HR:Hid (c=1):=lh (by rw[HX.out,if_neg hl]);rw[hl']at HL)
    have hw1:Below W1.heap.size W1 W1:=br;clear he hl hl'
    by_cases hh:xh=yh
    all_goals
     first
      | (have q1:(xh==yh)=true:=by simpa using hh
         have q2:(xl==yl)=false:=by simpa using fun h=>hne ⟨hh,h⟩
         clear hh hne)
      | (have q1:(xh==yh)=false:=by simpa using hh
         clear hh hne)
     go_upto_region 8 with (fail)
     have HS8:Hid (∀w',Below W1.heap.size W1 w'→Below W1.heap.size W1 w'∧w'.cell? ⟨w.heap.size,0,none⟩=some (.int .i64 an)∧w'.cell? ⟨B5,0,none⟩=some (.int .u64 xh)∧w'.cell? ⟨B5,1,none⟩=some (.int .u64 xl)∧w'.cell? ⟨B6,0,none⟩=some (.int .u64 yh)∧w'.cell? ⟨B6,1,none⟩=some (.int .u64 yl)):=lh fun w' h=>
      ⟨h,(ct h c0 (wl c0)),(ct h y0 (wl y0)),(ct h y1 (wl y1)),(ct h y2 (wl y2)),(ct h y3 (wl y3))⟩
     have hbd8:=hw1.drew;clear c0 c1 c2 c3 y0 y1 y2 y3 q1
     go_region_held3 (fun w'=>Below W1.heap.size W1 w'∧w'.cell? ⟨w.heap.size,0,none⟩=some (.int .i64 an)∧w'.cell? ⟨B5,0,none⟩=some (.int .u64 xh)∧w'.cell? ⟨B5,1,none⟩=some (.int .u64 xl)∧w'.cell? ⟨B6,0,none⟩=some (.int .u64 yh)∧w'.cell? ⟨B6,1,none⟩=some (.int .u64 yl))
      (first | exact HS8.out _ hbd8 | exact HS8.out _ hx8)
      (first
       | (go_at_call 72;go_split_ands;go_fit (AGg xh xl yh yl _);rw[HL.out];rintro e w8 ⟨rfl,hb8⟩;have hx8:Below W1.heap.size W1 w8:=hbd8.trans hb8))
     all_goals go_wp2_with fail
     all_goals go_ret
     all_goals exact⟨Lw HR.out.symm,W1b.trans (hx8.mono W1b.size)⟩
end
end Go.Proofs.YtebofaenlhhkaaaGreat
