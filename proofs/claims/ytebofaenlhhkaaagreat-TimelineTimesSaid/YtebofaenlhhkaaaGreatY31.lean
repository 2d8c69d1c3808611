import Derived.Test.YtebofaenlhhkaaaGreatY30
namespace Go.Proofs.YtebofaenlhhkaaaGreat
set_option maxRecDepth 100000
set_option maxHeartbeats 80000000
set_option linter.unusedSimpArgs false
section
open Go.RowKit
def xS(a:Option Addr):Ds:=⟨⟨#[115]⟩,0,0,5000,2000,a,[0,2000],2,0,0,1,1,0,none,[],0,none,[],0⟩
def xH(a s:Option Addr):Ae:=⟨⟨#[104]⟩,5000,s,[xS a],1,none,[],0⟩
def xM:Mv:=⟨⟨#[115]⟩,4000,200,100,100⟩
def xC(m:Option Addr):An:=⟨⟨#[113]⟩,⟨#[]⟩,1,0,m,[xM],1,0,0⟩
def xT(m c:Option Addr):Aq:=⟨c,[xC m],1,none,[],0⟩
theorem AVf(a:Option Addr):setB (xS a)=true:=by rfl
theorem AUw(a s:Option Addr):Dz (xH a s)=true:=by
 refine Hw.2 ⟨by rfl,(show(1:Int)≤5000 by decide),(show(5000:Int)≤1048576 by decide),(show 1≤60 by decide),⟨(show 0≤20 by decide),fun k hk=>absurd hk (Nat.not_lt_zero _)⟩,fun k hk=>?_⟩
 obtain rfl:k=0:=by
  have:k<1:=hk;omega
 exact⟨AVf a,(show(5000:Int)≤5000 by decide),fun i hi=>absurd hi (Nat.not_lt_zero _)⟩
theorem AOw(a s:Option Addr):Cv (xH a s).sets xM.name=0:=by rfl
theorem ASl(a s m:Option Addr):Nk (xH a s) (xC m):=by
 refine⟨⟨by rfl,.inl rfl,(show(0:Int)≤0∧(0:Int)≤2147483648 by decide),(show(0:Int)≤0∧(0:Int)≤100 by decide),(show(0:Int)≤0∧(0:Int)≤100 by decide)⟩,fun i hi=>?_⟩
 obtain rfl:i=0:=by
  have:i<1:=hi;omega
 exact⟨by rfl,(show(0:Int)≤0 by decide),(show(0:Int)≤4000 by decide),(show(4000:Int)≤5000 by decide),fun j hj=>absurd hj (Nat.not_lt_zero _)⟩
theorem ARj(a s m c:Option Addr):Hv (xH a s) (xT m c):=by
 refine⟨AUw a s,(show 1≤60 by decide),(show 1≤100 by decide),fun k hk=>?_,⟨(show 0≤1000 by decide),fun i hi=>absurd hi (Nat.not_lt_zero _)⟩⟩
 obtain rfl:k=0:=by
  have:k<1:=hk;omega
 exact⟨ASl a s m,by rfl,fun _=>rfl,fun n=>absurd rfl n⟩
theorem AQk:Ck 1000 xM=0:=by rfl
theorem AQr:Hd 1000 xM.spd xM.rise xM.fall 200:=⟨by decide,by decide,by unfold Km;decide,.inl rfl⟩
theorem ASs:Lb 1000 xM=200:=Np (by decide) (by decide) (Re AQk) AQr
theorem AVx:tmF 1000 xM=(7,1):=by
 unfold tmF;rw[ASs]
 decide+kernel
theorem AUy(a s m:Option Addr):Gk (xH a s) (Ee (xH a s)) (xC m).moves=(7,1):=by
 show Nw (tmF (Lo (xH a s) (Ee (xH a s)) xM) xM) (0,1)=(7,1);rw[show Lo (xH a s) (Ee (xH a s)) xM=1000 from rfl,AVx]
 decide+kernel
theorem Wp(a s m c:Option Addr):Cl (xH a s) (xT m c)=[7000]:=by
 unfold Cl Dp;rw[show(xT m c).cues.length=1 from rfl,show List.range 1=[0]from rfl,List.map_cons,List.map_nil];show[msF (Gk (xH a s) (Ee (xH a s)) (xC m).moves)]=_;rw[AUy]
 decide+kernel
theorem ACv(m c:Option Addr):Ca (xT m c).cues (xT m c).pairs [7000] [2000]=([2000],0):=by
 rfl
theorem Qa(a s m c:Option Addr):Db (xH a s) (xT m c) [2000]=0:=by
 unfold Db;rw[if_pos (Em.2 (ARj a s m c)),Wp,ACv]
theorem Rl(a s m c:Option Addr):Bv (xH a s) (xT m c) [2000]=[2000]:=by
 unfold Bv;rw[Wp,ACv]
theorem ATi(a s m c:Option Addr):Jo (xH a s) (xT m c) [2000]=[(⟨#[113]⟩,2000)]:=by
 unfold Jo Jt;rw[if_pos (Qa a s m c),Rl]
 rfl
theorem AUq(a s m c:Option Addr):Jv (xH a s) (xT m c) [2000]=[9000]:=by
 unfold Jv Ij;rw[if_pos (Qa a s m c),Rl,Wp]
 rfl
end
section
open Go.RowKit Go.Shelf
theorem Zc(w:World):Calls Tryz.prog 61 #[] w fun e w'=>e=.returned (.agg #[.int .i64 0,.int .i64 1])∧Below w.heap.size w w':=by
 go_enter Tryz.func61,Tryz.ntmps61
 go_wp2_with fail
 refine bodyPost_ret (v:=.agg #[.int .i64 0,.int .i64 1]) (by simp[results,Tryz.results61,go_sem]) rfl ⟨rfl,?_⟩;exact Aa _ _
theorem Ua(b:Nat)(e n d er:Int)(w:World)(hc:w.cell? ⟨b,0,none⟩=some (.int .i64 e))(hf:w.frozen? ⟨b,0,none⟩=false):
  Calls Tryz.prog 101 #[.pointer (some ⟨b,0,none⟩),.agg #[.int .i64 n,.int .i64 d],.int .i64 er] w fun x w'=>x=.returned (.agg #[.int .i64 (kp e (n,d,er)).1.1,.int .i64 (kp e (n,d,er)).1.2])∧Sm b (kp e (n,d,er)).2 w w':=by
 have hb:b<w.heap.size:=wl hc;have hsz:(w.alloc (.cells #[.int .i64 n,.int .i64 d] 49)).heap.size=w.heap.size+1:=by simp
 by_cases z:er=0
 ·have HR:Hid (kp e (n,d,er)=((n,d),e)):=lh (by unfold kp;rw[if_pos z])
  rw[HR.out];subst z
  go_enter Tryz.func101,Tryz.ntmps101
  go_wp2_with fail
  refine bodyPost_ret (v:=.agg #[.int .i64 n,.int .i64 d]) (by simp[results,Tryz.results101,go_sem]) rfl ⟨rfl,?_⟩;exact Sm.of ((Aa w _).alloc (by simp) _) hc hf
 ·have z1:(er==0)=false:=beq_eq_false_iff_ne.2 z
  have z2:(er !=0)=true:=by simpa using z
  by_cases y:e=0
  ·have HR:Hid (kp e (n,d,er)=((0,1),er)):=lh (by unfold kp;rw[if_neg z,if_pos y])
   rw[HR.out];subst y;clear z
   go_enter Tryz.func101,Tryz.ntmps101
   go_wp2_with (go_at_call 61;go_fit (Zc _);rintro x w1 ⟨rfl,hb1⟩;have c0:w1.cell? ⟨w.heap.size+1,0,none⟩=some (.int .i64 0):=(hb1.cell (p:=⟨w.heap.size+1,0,none⟩) (by simp<;>omega)).trans (by simp[go_sem]);have c1:w1.cell? ⟨w.heap.size+1,1,none⟩=some (.int .i64 0):=(hb1.cell (p:=⟨w.heap.size+1,1,none⟩) (by simp<;>omega)).trans (by simp[go_sem]);have c2:w1.frozen? ⟨w.heap.size+1,0,none⟩=false:=(hb1.frozen (p:=⟨w.heap.size+1,0,none⟩) (by simp<;>omega)).trans (by simp[go_sem]);have c3:w1.frozen? ⟨w.heap.size+1,1,none⟩=false:=(hb1.frozen (p:=⟨w.heap.size+1,1,none⟩) (by simp<;>omega)).trans (by simp[go_sem]))
   have l0:=(Ag (v0:=.int .i64 0) (v1:=.int .i64 1) c0 c1).1;have l1:=(Ag (v0:=.int .i64 0) (v1:=.int .i64 1) c0 c1).2;refine bodyPost_ret (v:=.agg #[.int .i64 0,.int .i64 1]) (by simp[results,Tryz.results101,go_sem,l0,l1]) rfl ⟨rfl,?_⟩;have k1:=(((Sm.set er hc hf).alloc (.cells #[.int .i64 n,.int .i64 d] 49)).alloc (.cells #[.int .i64 0,.int .i64 0] 49)).then hb1
   exact(k1.setCell (p:=⟨w.heap.size+1,0,none⟩) (Nat.le_succ _) hb _).setCell (p:=⟨w.heap.size+1,1,none⟩) (Nat.le_succ _) hb _
  ·have y1:(e==0)=false:=beq_eq_false_iff_ne.2 y
   have HR:Hid (kp e (n,d,er)=((0,1),e)):=lh (by unfold kp;rw[if_neg z,if_neg y]);rw[HR.out];clear y z
   go_enter Tryz.func101,Tryz.ntmps101
   go_wp2_with (go_at_call 61;go_fit (Zc _);rintro x w1 ⟨rfl,hb1⟩;have c0:w1.cell? ⟨w.heap.size+1,0,none⟩=some (.int .i64 0):=(hb1.cell (p:=⟨w.heap.size+1,0,none⟩) (by simp<;>omega)).trans (by simp[go_sem]);have c1:w1.cell? ⟨w.heap.size+1,1,none⟩=some (.int .i64 0):=(hb1.cell (p:=⟨w.heap.size+1,1,none⟩) (by simp<;>omega)).trans (by simp[go_sem]);have c2:w1.frozen? ⟨w.heap.size+1,0,none⟩=false:=(hb1.frozen (p:=⟨w.heap.size+1,0,none⟩) (by simp<;>omega)).trans (by simp[go_sem]);have c3:w1.frozen? ⟨w.heap.size+1,1,none⟩=false:=(hb1.frozen (p:=⟨w.heap.size+1,1,none⟩) (by simp<;>omega)).trans (by simp[go_sem]))
   have l0:=(Ag (v0:=.int .i64 0) (v1:=.int .i64 1) c0 c1).1;have l1:=(Ag (v0:=.int .i64 0) (v1:=.int .i64 1) c0 c1).2;refine bodyPost_ret (v:=.agg #[.int .i64 0,.int .i64 1]) (by simp[results,Tryz.results101,go_sem,l0,l1]) rfl ⟨rfl,?_⟩;have k0:Below w.heap.size w ((w.alloc (.cells #[.int .i64 n,.int .i64 d] 49)).alloc (.cells #[.int .i64 0,.int .i64 0] 49)):=(Aa _ _).alloc (by simp) _;have k1:=k0.trans (hb1.mono k0.size);exact Sm.of ((k1.setCell (p:=⟨w.heap.size+1,0,none⟩) (Nat.le_succ _) _).setCell (p:=⟨w.heap.size+1,1,none⟩) (Nat.le_succ _) _) hc hf
theorem ADt(b:Nat)(e:Int)(x y:Int×Int)(hx:vF x=true)(hy:vF y=true)(w:World)(hc:w.cell? ⟨b,0,none⟩=some (.int .i64 e))(hf:w.frozen? ⟨b,0,none⟩=false):
  Calls Tryz.prog 103 #[.pointer (some ⟨b,0,none⟩),.agg #[.int .i64 x.1,.int .i64 x.2],.agg #[.int .i64 y.1,.int .i64 y.2]] w fun z w'=>z=.returned (.agg #[.int .i64 (Om e x y).1.1,.int .i64 (Om e x y).1.2])∧Sm b (Om e x y).2 w w':=by
 obtain⟨an,ad⟩:=x;obtain⟨bn,bd⟩:=y;have hb:b<w.heap.size:=wl hc;obtain⟨P,hP⟩:=nm (Jn an ad bn bd)
 have HC:Hid (∀w:World,Calls Tryz.prog 124 #[.agg #[.int .i64 an,.int .i64 ad],.agg #[.int .i64 bn,.int .i64 bd]] w fun e w'=>e=.returned (.tuple #[.agg #[.int .i64 P.1,.int .i64 P.2.1],.int .i64 P.2.2])∧Below w.heap.size w w'):=lh fun w=>by
  have:=Ss an ad bn bd hx hy w
  rwa [hP]at this
 have HR:Hid (Om e (an,ad) (bn,bd)=kp e (P.1,P.2.1,P.2.2)):=lh (by unfold Om;rw[hP]);rw[HR.out];clear hP hx hy;generalize hK:kp e (P.1,P.2.1,P.2.2)=K;have HK:=lh hK;clear hK
 go_enter Tryz.func103,Tryz.ntmps103
 go_wp2_with (first
  | (go_at_call 124;go_fit (HC.out _);rintro x w1 ⟨rfl,hb1⟩;have k0:Below w.heap.size w w1:=(((Aa w (.cells #[.int .i64 an,.int .i64 ad] 49)).alloc (by simp) (.cells #[.int .i64 bn,.int .i64 bd] 49)).alloc (by simp<;>omega) (.cells #[.int .i64 0,.int .i64 0] 49)).trans (hb1.mono (by simp<;>omega));have q0:w1.cell? ⟨w.heap.size+1+1,0,none⟩=some (.int .i64 0):=(hb1.cell (p:=⟨w.heap.size+1+1,0,none⟩) (by simp<;>omega)).trans (by simp[go_sem]);have q1:w1.cell? ⟨w.heap.size+1+1,1,none⟩=some (.int .i64 0):=(hb1.cell (p:=⟨w.heap.size+1+1,1,none⟩) (by simp<;>omega)).trans (by simp[go_sem]);have q2:w1.frozen? ⟨w.heap.size+1+1,0,none⟩=false:=(hb1.frozen (p:=⟨w.heap.size+1+1,0,none⟩) (by simp<;>omega)).trans (by simp[go_sem]);have q3:w1.frozen? ⟨w.heap.size+1+1,1,none⟩=false:=(hb1.frozen (p:=⟨w.heap.size+1+1,1,none⟩) (by simp<;>omega)).trans (by simp[go_sem]);have q4:w.heap.size+1+1<w1.heap.size:=wl q0)
  | (go_at_call 101;go_fit (Ua b e P.1 P.2.1 P.2.2 _ ((ct k0 hc hb)) ((k0.frozen (p:=⟨b,0,none⟩) hb).trans hf));rintro x w2 ⟨rfl,hs2⟩;rw[HK.out]at hs2⊢;have r0:=(hs2.other (p:=⟨w.heap.size+1+1,0,none⟩) q4 (by simp<;>omega)).trans q0;have r1:=(hs2.other (p:=⟨w.heap.size+1+1,1,none⟩) q4 (by simp<;>omega)).trans q1;have r2:=(hs2.otherF (p:=⟨w.heap.size+1+1,0,none⟩) q4 (by simp<;>omega)).trans q2;have r3:=(hs2.otherF (p:=⟨w.heap.size+1+1,1,none⟩) q4 (by simp<;>omega)).trans q3))
 have l0:=(Ag (v0:=.int .i64 K.1.1) (v1:=.int .i64 K.1.2) r0 r1).1;have l1:=(Ag (v0:=.int .i64 K.1.1) (v1:=.int .i64 K.1.2) r0 r1).2;refine bodyPost_ret (v:=.agg #[.int .i64 K.1.1,.int .i64 K.1.2]) (by simp[results,Tryz.results103,go_sem,l0,l1]) rfl ⟨rfl,?_⟩;exact((Sm.from k0 hb hs2).setCell (p:=⟨w.heap.size+1+1,0,none⟩) (by simp<;>omega) hb _).setCell (p:=⟨w.heap.size+1+1,1,none⟩) (by simp<;>omega) hb _
theorem ANi(b:Nat)(e:Int)(x y:Int×Int)(hx:vF x=true)(hy:vF y=true)(w:World)(hc:w.cell? ⟨b,0,none⟩=some (.int .i64 e))(hf:w.frozen? ⟨b,0,none⟩=false):
  Calls Tryz.prog 62 #[.pointer (some ⟨b,0,none⟩),.agg #[.int .i64 x.1,.int .i64 x.2],.agg #[.int .i64 y.1,.int .i64 y.2]] w fun z w'=>z=.returned (.agg #[.int .i64 (Te e x y).1.1,.int .i64 (Te e x y).1.2])∧Sm b (Te e x y).2 w w':=by
 obtain⟨an,ad⟩:=x;obtain⟨bn,bd⟩:=y;have hb:b<w.heap.size:=wl hc;obtain⟨P,hP⟩:=nm (Jn an ad (-bn) bd)
 have HC:Hid (∀w:World,Calls Tryz.prog 102 #[.agg #[.int .i64 an,.int .i64 ad],.agg #[.int .i64 bn,.int .i64 bd]] w fun e w'=>e=.returned (.tuple #[.agg #[.int .i64 P.1,.int .i64 P.2.1],.int .i64 P.2.2])∧Below w.heap.size w w'):=lh fun w=>by
  have:=ABp an ad bn bd hx hy w
  rwa [hP]at this
 have HR:Hid (Te e (an,ad) (bn,bd)=kp e (P.1,P.2.1,P.2.2)):=lh (by unfold Te;rw[hP]);rw[HR.out];clear hP hx hy;generalize hK:kp e (P.1,P.2.1,P.2.2)=K;have HK:=lh hK;clear hK
 go_enter Tryz.func62,Tryz.ntmps62
 go_wp2_with (first
  | (go_at_call 102;go_fit (HC.out _);rintro x w1 ⟨rfl,hb1⟩;have k0:Below w.heap.size w w1:=(((Aa w (.cells #[.int .i64 an,.int .i64 ad] 49)).alloc (by simp) (.cells #[.int .i64 bn,.int .i64 bd] 49)).alloc (by simp<;>omega) (.cells #[.int .i64 0,.int .i64 0] 49)).trans (hb1.mono (by simp<;>omega));have q0:w1.cell? ⟨w.heap.size+1+1,0,none⟩=some (.int .i64 0):=(hb1.cell (p:=⟨w.heap.size+1+1,0,none⟩) (by simp<;>omega)).trans (by simp[go_sem]);have q1:w1.cell? ⟨w.heap.size+1+1,1,none⟩=some (.int .i64 0):=(hb1.cell (p:=⟨w.heap.size+1+1,1,none⟩) (by simp<;>omega)).trans (by simp[go_sem]);have q2:w1.frozen? ⟨w.heap.size+1+1,0,none⟩=false:=(hb1.frozen (p:=⟨w.heap.size+1+1,0,none⟩) (by simp<;>omega)).trans (by simp[go_sem]);have q3:w1.frozen? ⟨w.heap.size+1+1,1,none⟩=false:=(hb1.frozen (p:=⟨w.heap.size+1+1,1,none⟩) (by simp<;>omega)).trans (by simp[go_sem]);have q4:w.heap.size+1+1<w1.heap.size:=wl q0)
  | (go_at_call 101;go_fit (Ua b e P.1 P.2.1 P.2.2 _ ((ct k0 hc hb)) ((k0.frozen (p:=⟨b,0,none⟩) hb).trans hf));rintro x w2 ⟨rfl,hs2⟩;rw[HK.out]at hs2⊢;have r0:=(hs2.other (p:=⟨w.heap.size+1+1,0,none⟩) q4 (by simp<;>omega)).trans q0;have r1:=(hs2.other (p:=⟨w.heap.size+1+1,1,none⟩) q4 (by simp<;>omega)).trans q1;have r2:=(hs2.otherF (p:=⟨w.heap.size+1+1,0,none⟩) q4 (by simp<;>omega)).trans q2;have r3:=(hs2.otherF (p:=⟨w.heap.size+1+1,1,none⟩) q4 (by simp<;>omega)).trans q3))
 have l0:=(Ag (v0:=.int .i64 K.1.1) (v1:=.int .i64 K.1.2) r0 r1).1;have l1:=(Ag (v0:=.int .i64 K.1.1) (v1:=.int .i64 K.1.2) r0 r1).2;refine bodyPost_ret (v:=.agg #[.int .i64 K.1.1,.int .i64 K.1.2]) (by simp[results,Tryz.results62,go_sem,l0,l1]) rfl ⟨rfl,?_⟩;exact((Sm.from k0 hb hs2).setCell (p:=⟨w.heap.size+1+1,0,none⟩) (by simp<;>omega) hb _).setCell (p:=⟨w.heap.size+1+1,1,none⟩) (by simp<;>omega) hb _
theorem AEc(b:Nat)(e:Int)(x y:Int×Int)(hx:vF x=true)(hy:vF y=true)(w:World)(hc:w.cell? ⟨b,0,none⟩=some (.int .i64 e))(hf:w.frozen? ⟨b,0,none⟩=false):
  Calls Tryz.prog 104 #[.pointer (some ⟨b,0,none⟩),.agg #[.int .i64 x.1,.int .i64 x.2],.agg #[.int .i64 y.1,.int .i64 y.2]] w fun z w'=>z=.returned (.agg #[.int .i64 (Ik e x y).1.1,.int .i64 (Ik e x y).1.2])∧Sm b (Ik e x y).2 w w':=by
 obtain⟨an,ad⟩:=x;obtain⟨bn,bd⟩:=y;have hb:b<w.heap.size:=wl hc;obtain⟨P,hP⟩:=nm (Ng an ad bn bd)
 have HC:Hid (∀w:World,Calls Tryz.prog 75 #[.agg #[.int .i64 an,.int .i64 ad],.agg #[.int .i64 bn,.int .i64 bd]] w fun e w'=>e=.returned (.tuple #[.agg #[.int .i64 P.1,.int .i64 P.2.1],.int .i64 P.2.2])∧Below w.heap.size w w'):=lh fun w=>by
  have:=AAu an ad bn bd hx hy w
  rwa [hP]at this
 have HR:Hid (Ik e (an,ad) (bn,bd)=kp e (P.1,P.2.1,P.2.2)):=lh (by unfold Ik;rw[hP]);rw[HR.out];clear hP hx hy;generalize hK:kp e (P.1,P.2.1,P.2.2)=K;have HK:=lh hK;clear hK
 go_enter Tryz.func104,Tryz.ntmps104
 go_wp2_with (first
  | (go_at_call 75;go_fit (HC.out _);rintro x w1 ⟨rfl,hb1⟩;have k0:Below w.heap.size w w1:=(((Aa w (.cells #[.int .i64 an,.int .i64 ad] 49)).alloc (by simp) (.cells #[.int .i64 bn,.int .i64 bd] 49)).alloc (by simp<;>omega) (.cells #[.int .i64 0,.int .i64 0] 49)).trans (hb1.mono (by simp<;>omega));have q0:w1.cell? ⟨w.heap.size+1+1,0,none⟩=some (.int .i64 0):=(hb1.cell (p:=⟨w.heap.size+1+1,0,none⟩) (by simp<;>omega)).trans (by simp[go_sem]);have q1:w1.cell? ⟨w.heap.size+1+1,1,none⟩=some (.int .i64 0):=(hb1.cell (p:=⟨w.heap.size+1+1,1,none⟩) (by simp<;>omega)).trans (by simp[go_sem]);have q2:w1.frozen? ⟨w.heap.size+1+1,0,none⟩=false:=(hb1.frozen (p:=⟨w.heap.size+1+1,0,none⟩) (by simp<;>omega)).trans (by simp[go_sem]);have q3:w1.frozen? ⟨w.heap.size+1+1,1,none⟩=false:=(hb1.frozen (p:=⟨w.heap.size+1+1,1,none⟩) (by simp<;>omega)).trans (by simp[go_sem]);have q4:w.heap.size+1+1<w1.heap.size:=wl q0)
  | (go_at_call 101;go_fit (Ua b e P.1 P.2.1 P.2.2 _ ((ct k0 hc hb)) ((k0.frozen (p:=⟨b,0,none⟩) hb).trans hf));rintro x w2 ⟨rfl,hs2⟩;rw[HK.out]at hs2⊢;have r0:=(hs2.other (p:=⟨w.heap.size+1+1,0,none⟩) q4 (by simp<;>omega)).trans q0;have r1:=(hs2.other (p:=⟨w.heap.size+1+1,1,none⟩) q4 (by simp<;>omega)).trans q1;have r2:=(hs2.otherF (p:=⟨w.heap.size+1+1,0,none⟩) q4 (by simp<;>omega)).trans q2;have r3:=(hs2.otherF (p:=⟨w.heap.size+1+1,1,none⟩) q4 (by simp<;>omega)).trans q3))
 have l0:=(Ag (v0:=.int .i64 K.1.1) (v1:=.int .i64 K.1.2) r0 r1).1;have l1:=(Ag (v0:=.int .i64 K.1.1) (v1:=.int .i64 K.1.2) r0 r1).2;refine bodyPost_ret (v:=.agg #[.int .i64 K.1.1,.int .i64 K.1.2]) (by simp[results,Tryz.results104,go_sem,l0,l1]) rfl ⟨rfl,?_⟩;exact((Sm.from k0 hb hs2).setCell (p:=⟨w.heap.size+1+1,0,none⟩) (by simp<;>omega) hb _).setCell (p:=⟨w.heap.size+1+1,1,none⟩) (by simp<;>omega) hb _
theorem AGu(b:Nat)(e:Int)(F A B C u:Int×Int)(vA:vF A=true)(vB:vF B=true)(vC:vF C=true)(vu:vF u=true)(w:World)(hc:w.cell? ⟨b,0,none⟩=some (.int .i64 e))(hf:w.frozen? ⟨b,0,none⟩=false):
  Calls Tryz.prog 63 #[.pointer (some ⟨b,0,none⟩),.agg #[.int .i64 F.1,.int .i64 F.2,.int .i64 A.1,.int .i64 A.2,.int .i64 B.1,.int .i64 B.2,.int .i64 C.1,.int .i64 C.2],.agg #[.int .i64 u.1,.int .i64 u.2]] w fun z w'=>z=.returned (.agg #[.int .i64 (Wd e A B C u).1.1,.int .i64 (Wd e A B C u).1.2])∧Sm b (Wd e A B C u).2 w w':=by
 have hb:b<w.heap.size:=wl hc;obtain⟨K1,hK1⟩:=nm (Ik e C u);have vK1:vF K1.1=true:=by rw[←hK1];exact Ff vC vu
 have HK1:Hid (∀w:World,w.cell? ⟨b,0,none⟩=some (.int .i64 e)→w.frozen? ⟨b,0,none⟩=false→Calls Tryz.prog 104 #[.pointer (some ⟨b,0,none⟩),.agg #[.int .i64 C.1,.int .i64 C.2],.agg #[.int .i64 u.1,.int .i64 u.2]] w fun z w'=>z=.returned (.agg #[.int .i64 K1.1.1,.int .i64 K1.1.2])∧Sm b K1.2 w w'):=lh fun w h0 h1=>by
  have:=AEc b e C u vC vu w h0 h1
  rwa [hK1]at this
 obtain⟨K2,hK2⟩:=nm (Om K1.2 B K1.1);have vK2:vF K2.1=true:=by rw[←hK2];exact Iz vB vK1
 have HK2:Hid (∀w:World,w.cell? ⟨b,0,none⟩=some (.int .i64 K1.2)→w.frozen? ⟨b,0,none⟩=false→Calls Tryz.prog 103 #[.pointer (some ⟨b,0,none⟩),.agg #[.int .i64 B.1,.int .i64 B.2],.agg #[.int .i64 K1.1.1,.int .i64 K1.1.2]] w fun z w'=>z=.returned (.agg #[.int .i64 K2.1.1,.int .i64 K2.1.2])∧Sm b K2.2 w w'):=lh fun w h0 h1=>by
  have:=ADt b K1.2 B K1.1 vB vK1 w h0 h1
  rwa [hK2]at this
 obtain⟨K3,hK3⟩:=nm (Ik K2.2 K2.1 u);have vK3:vF K3.1=true:=by rw[←hK3];exact Ff vK2 vu
 have HK3:Hid (∀w:World,w.cell? ⟨b,0,none⟩=some (.int .i64 K2.2)→w.frozen? ⟨b,0,none⟩=false→Calls Tryz.prog 104 #[.pointer (some ⟨b,0,none⟩),.agg #[.int .i64 K2.1.1,.int .i64 K2.1.2],.agg #[.int .i64 u.1,.int .i64 u.2]] w fun z w'=>z=.returned (.agg #[.int .i64 K3.1.1,.int .i64 K3.1.2])∧Sm b K3.2 w w'):=lh fun w h0 h1=>by
  have:=AEc b K2.2 K2.1 u vK2 vu w h0 h1
  rwa [hK3]at this
 obtain⟨K4,hK4⟩:=nm (Om K3.2 A K3.1);have vK4:vF K4.1=true:=by rw[←hK4];exact Iz vA vK3
 have HK4:Hid (∀w:World,w.cell? ⟨b,0,none⟩=some (.int .i64 K3.2)→w.frozen? ⟨b,0,none⟩=false→Calls Tryz.prog 103 #[.pointer (some ⟨b,0,none⟩),.agg #[.int .i64 A.1,.int .i64 A.2],.agg #[.int .i64 K3.1.1,.int .i64 K3.1.2]] w fun z w'=>z=.returned (.agg #[.int .i64 K4.1.1,.int .i64 K4.1.2])∧Sm b K4.2 w w'):=lh fun w h0 h1=>by
  have:=ADt b K3.2 A K3.1 vA vK3 w h0 h1
  rwa [hK4]at this
 have HR:Hid (Wd e A B C u=K4):=lh (by
  unfold Wd;simp only[hK1,hK2,hK3,hK4])
 rw[HR.out];clear hK1 vK1 hK2 vK2 hK3 vK3 hK4 vK4 vB vC vu vA
 go_enter Tryz.func63,Tryz.ntmps63
 go_upto_region 1 with (fail)
 have hW0:Below w.heap.size w (((w.alloc (.cells #[.int .i64 F.1,.int .i64 F.2,.int .i64 A.1,.int .i64 A.2,.int .i64 B.1,.int .i64 B.2,.int .i64 C.1,.int .i64 C.2] 122)).alloc (.cells #[.int .i64 u.1,.int .i64 u.2] 49)).alloc (.cells #[.int .i64 0,.int .i64 0] 49)):=((Aa _ _).alloc (by simp) _).alloc (by simp<;>omega) _;have hz:w.heap.size+1+1<(((w.alloc (.cells #[.int .i64 F.1,.int .i64 F.2,.int .i64 A.1,.int .i64 A.2,.int .i64 B.1,.int .i64 B.2,.int .i64 C.1,.int .i64 C.2] 122)).alloc (.cells #[.int .i64 u.1,.int .i64 u.2] 49)).alloc (.cells #[.int .i64 0,.int .i64 0] 49)).heap.size:=by simp
 have k0:(((w.alloc (.cells #[.int .i64 F.1,.int .i64 F.2,.int .i64 A.1,.int .i64 A.2,.int .i64 B.1,.int .i64 B.2,.int .i64 C.1,.int .i64 C.2] 122)).alloc (.cells #[.int .i64 u.1,.int .i64 u.2] 49)).alloc (.cells #[.int .i64 0,.int .i64 0] 49)).cell? ⟨w.heap.size,2,none⟩=some (.int .i64 A.1):=by simp[go_sem,World.cell?_alloc_past]
 have k1:(((w.alloc (.cells #[.int .i64 F.1,.int .i64 F.2,.int .i64 A.1,.int .i64 A.2,.int .i64 B.1,.int .i64 B.2,.int .i64 C.1,.int .i64 C.2] 122)).alloc (.cells #[.int .i64 u.1,.int .i64 u.2] 49)).alloc (.cells #[.int .i64 0,.int .i64 0] 49)).cell? ⟨w.heap.size,3,none⟩=some (.int .i64 A.2):=by simp[go_sem,World.cell?_alloc_past]
 have k2:(((w.alloc (.cells #[.int .i64 F.1,.int .i64 F.2,.int .i64 A.1,.int .i64 A.2,.int .i64 B.1,.int .i64 B.2,.int .i64 C.1,.int .i64 C.2] 122)).alloc (.cells #[.int .i64 u.1,.int .i64 u.2] 49)).alloc (.cells #[.int .i64 0,.int .i64 0] 49)).cell? ⟨w.heap.size,4,none⟩=some (.int .i64 B.1):=by simp[go_sem,World.cell?_alloc_past]
 have k3:(((w.alloc (.cells #[.int .i64 F.1,.int .i64 F.2,.int .i64 A.1,.int .i64 A.2,.int .i64 B.1,.int .i64 B.2,.int .i64 C.1,.int .i64 C.2] 122)).alloc (.cells #[.int .i64 u.1,.int .i64 u.2] 49)).alloc (.cells #[.int .i64 0,.int .i64 0] 49)).cell? ⟨w.heap.size,5,none⟩=some (.int .i64 B.2):=by simp[go_sem,World.cell?_alloc_past]
 have k4:(((w.alloc (.cells #[.int .i64 F.1,.int .i64 F.2,.int .i64 A.1,.int .i64 A.2,.int .i64 B.1,.int .i64 B.2,.int .i64 C.1,.int .i64 C.2] 122)).alloc (.cells #[.int .i64 u.1,.int .i64 u.2] 49)).alloc (.cells #[.int .i64 0,.int .i64 0] 49)).cell? ⟨w.heap.size,6,none⟩=some (.int .i64 C.1):=by simp[go_sem,World.cell?_alloc_past]
 have k5:(((w.alloc (.cells #[.int .i64 F.1,.int .i64 F.2,.int .i64 A.1,.int .i64 A.2,.int .i64 B.1,.int .i64 B.2,.int .i64 C.1,.int .i64 C.2] 122)).alloc (.cells #[.int .i64 u.1,.int .i64 u.2] 49)).alloc (.cells #[.int .i64 0,.int .i64 0] 49)).cell? ⟨w.heap.size,7,none⟩=some (.int .i64 C.2):=by simp[go_sem,World.cell?_alloc_past]
 have k6:(((w.alloc (.cells #[.int .i64 F.1,.int .i64 F.2,.int .i64 A.1,.int .i64 A.2,.int .i64 B.1,.int .i64 B.2,.int .i64 C.1,.int .i64 C.2] 122)).alloc (.cells #[.int .i64 u.1,.int .i64 u.2] 49)).alloc (.cells #[.int .i64 0,.int .i64 0] 49)).cell? ⟨w.heap.size+1,0,none⟩=some (.int .i64 u.1):=by simp[go_sem]
 have k7:(((w.alloc (.cells #[.int .i64 F.1,.int .i64 F.2,.int .i64 A.1,.int .i64 A.2,.int .i64 B.1,.int .i64 B.2,.int .i64 C.1,.int .i64 C.2] 122)).alloc (.cells #[.int .i64 u.1,.int .i64 u.2] 49)).alloc (.cells #[.int .i64 0,.int .i64 0] 49)).cell? ⟨w.heap.size+1,1,none⟩=some (.int .i64 u.2):=by simp[go_sem]
 have k8:(((w.alloc (.cells #[.int .i64 F.1,.int .i64 F.2,.int .i64 A.1,.int .i64 A.2,.int .i64 B.1,.int .i64 B.2,.int .i64 C.1,.int .i64 C.2] 122)).alloc (.cells #[.int .i64 u.1,.int .i64 u.2] 49)).alloc (.cells #[.int .i64 0,.int .i64 0] 49)).cell? ⟨w.heap.size+1+1,0,none⟩=some (.int .i64 0):=by simp[go_sem]
 have k9:(((w.alloc (.cells #[.int .i64 F.1,.int .i64 F.2,.int .i64 A.1,.int .i64 A.2,.int .i64 B.1,.int .i64 B.2,.int .i64 C.1,.int .i64 C.2] 122)).alloc (.cells #[.int .i64 u.1,.int .i64 u.2] 49)).alloc (.cells #[.int .i64 0,.int .i64 0] 49)).cell? ⟨w.heap.size+1+1,1,none⟩=some (.int .i64 0):=by simp[go_sem]
 have f0:(((w.alloc (.cells #[.int .i64 F.1,.int .i64 F.2,.int .i64 A.1,.int .i64 A.2,.int .i64 B.1,.int .i64 B.2,.int .i64 C.1,.int .i64 C.2] 122)).alloc (.cells #[.int .i64 u.1,.int .i64 u.2] 49)).alloc (.cells #[.int .i64 0,.int .i64 0] 49)).frozen? ⟨w.heap.size+1+1,0,none⟩=false:=by simp[go_sem]
 have f1:(((w.alloc (.cells #[.int .i64 F.1,.int .i64 F.2,.int .i64 A.1,.int .i64 A.2,.int .i64 B.1,.int .i64 B.2,.int .i64 C.1,.int .i64 C.2] 122)).alloc (.cells #[.int .i64 u.1,.int .i64 u.2] 49)).alloc (.cells #[.int .i64 0,.int .i64 0] 49)).frozen? ⟨w.heap.size+1+1,1,none⟩=false:=by simp[go_sem]
 have hs0:=Sm.of hW0 hc hf;have hc0:=hs0.cell;have hf0:=hs0.free;generalize (((w.alloc (.cells #[.int .i64 F.1,.int .i64 F.2,.int .i64 A.1,.int .i64 A.2,.int .i64 B.1,.int .i64 B.2,.int .i64 C.1,.int .i64 C.2] 122)).alloc (.cells #[.int .i64 u.1,.int .i64 u.2] 49)).alloc (.cells #[.int .i64 0,.int .i64 0] 49))=W0 at *
 have HX:Hid (∀x w',Sm b x W0 w'→w.heap.size≤w'.heap.size∧w'.cell? ⟨w.heap.size,2,none⟩=some (.int .i64 A.1)∧w'.cell? ⟨w.heap.size,3,none⟩=some (.int .i64 A.2)∧w'.cell? ⟨w.heap.size,4,none⟩=some (.int .i64 B.1)∧w'.cell? ⟨w.heap.size,5,none⟩=some (.int .i64 B.2)∧w'.cell? ⟨w.heap.size,6,none⟩=some (.int .i64 C.1)∧w'.cell? ⟨w.heap.size,7,none⟩=some (.int .i64 C.2)∧w'.cell? ⟨w.heap.size+1,0,none⟩=some (.int .i64 u.1)∧w'.cell? ⟨w.heap.size+1,1,none⟩=some (.int .i64 u.2)):=lh fun x w' h=>
  ⟨nt hW0.size h.size,(h.other (p:=⟨w.heap.size,2,none⟩) (by simp<;>omega) (by simp<;>omega)).trans k0,(h.other (p:=⟨w.heap.size,3,none⟩) (by simp<;>omega) (by simp<;>omega)).trans k1,(h.other (p:=⟨w.heap.size,4,none⟩) (by simp<;>omega) (by simp<;>omega)).trans k2,(h.other (p:=⟨w.heap.size,5,none⟩) (by simp<;>omega) (by simp<;>omega)).trans k3,(h.other (p:=⟨w.heap.size,6,none⟩) (by simp<;>omega) (by simp<;>omega)).trans k4,(h.other (p:=⟨w.heap.size,7,none⟩) (by simp<;>omega) (by simp<;>omega)).trans k5,(h.other (p:=⟨w.heap.size+1,0,none⟩) (by simp<;>omega) (by simp<;>omega)).trans k6,(h.other (p:=⟨w.heap.size+1,1,none⟩) (by simp<;>omega) (by simp<;>omega)).trans k7⟩
 have HY:Hid (∀x w',Sm b x W0 w'→w'.cell? ⟨w.heap.size+1+1,0,none⟩=some (.int .i64 0)∧w'.cell? ⟨w.heap.size+1+1,1,none⟩=some (.int .i64 0)∧w'.frozen? ⟨w.heap.size+1+1,0,none⟩=false∧w'.frozen? ⟨w.heap.size+1+1,1,none⟩=false):=lh fun x w' h=>
  ⟨(h.other (p:=⟨w.heap.size+1+1,0,none⟩) (by simp<;>omega) (by simp<;>omega)).trans k8,(h.other (p:=⟨w.heap.size+1+1,1,none⟩) (by simp<;>omega) (by simp<;>omega)).trans k9,(h.otherF (p:=⟨w.heap.size+1+1,0,none⟩) (by simp<;>omega) (by simp<;>omega)).trans f0,(h.otherF (p:=⟨w.heap.size+1+1,1,none⟩) (by simp<;>omega) (by simp<;>omega)).trans f1⟩
 have hbz:b<W0.heap.size:=by omega
 have HZ:Hid (∀x w',Sm b x W0 w'→∀v0 v1,(fun w'=>w.heap.size≤w'.heap.size∧w'.cell? ⟨w.heap.size,2,none⟩=some (.int .i64 A.1)∧w'.cell? ⟨w.heap.size,3,none⟩=some (.int .i64 A.2)∧w'.cell? ⟨w.heap.size,4,none⟩=some (.int .i64 B.1)∧w'.cell? ⟨w.heap.size,5,none⟩=some (.int .i64 B.2)∧w'.cell? ⟨w.heap.size,6,none⟩=some (.int .i64 C.1)∧w'.cell? ⟨w.heap.size,7,none⟩=some (.int .i64 C.2)∧w'.cell? ⟨w.heap.size+1,0,none⟩=some (.int .i64 u.1)∧w'.cell? ⟨w.heap.size+1,1,none⟩=some (.int .i64 u.2)) ((w'.setCell ⟨w.heap.size+1+1,0,none⟩ v0).setCell ⟨w.heap.size+1+1,1,none⟩ v1)):=lh fun x w' h v0 v1=>by
  obtain⟨h0,h1,h2,h3,h4,h5,h6,h7,h8⟩:=HX.out x w' h;refine⟨by simpa using h0,?_,?_,?_,?_,?_,?_,?_,?_⟩
  all_goals (refine(Ch (by omega) _ _ _).trans ?_;assumption)
 have hsd:Sm b e W0 W0.drew:=(Sm.refl hc0 hf0).drew;clear hc hf hc0 hf0 hs0 f0 f1 k0 k1 k2 k3 k4 k5 k6 k7 k8 k9;refine wp_region_held_drew (S:=(fun w'=>w.heap.size≤w'.heap.size∧w'.cell? ⟨w.heap.size,2,none⟩=some (.int .i64 A.1)∧w'.cell? ⟨w.heap.size,3,none⟩=some (.int .i64 A.2)∧w'.cell? ⟨w.heap.size,4,none⟩=some (.int .i64 B.1)∧w'.cell? ⟨w.heap.size,5,none⟩=some (.int .i64 B.2)∧w'.cell? ⟨w.heap.size,6,none⟩=some (.int .i64 C.1)∧w'.cell? ⟨w.heap.size,7,none⟩=some (.int .i64 C.2)∧w'.cell? ⟨w.heap.size+1,0,none⟩=some (.int .i64 u.1)∧w'.cell? ⟨w.heap.size+1,1,none⟩=some (.int .i64 u.2))) (by kernel_rfl) (HX.out _ _ hsd) (fun hHeld=>?_);refine tkB 0 ?_;simp only[Act.put,Co,Cp,Cn,Ba,Az];refine tk 1 ?_;refine tk 2 ?_;refine tk 3 ?_;refine tk 4 ?_;refine tk 5 ?_;refine tk 6 ?_;refine tk 7 ?_;refine tk 8 ?_;refine tk 9 ?_;refine tk 10 ?_;refine tk 13 ?_;refine r1 11 (fun K hK=>?_)
 try simp only[Ba,Bc,Az]
 go_simp
 (go_at_call 104;go_split_ands;go_fit (HK1.out _ hsd.cell hsd.free);rintro z w1 ⟨rfl,ht1⟩;have hs1:=hsd.trans ht1)
 go_wp2_with fail
 refine hK.out _ _ (HX.out _ _ hs1) (fun hHeld=>?_);clear hK K
 try simp only[Act.put,Co,Cp,Cn,Ba,Bc,Az]
 refine r1 12 (fun K hK=>?_)
 try simp only[Ba,Bc,Az]
 go_simp
 (go_at_call 103;go_split_ands;go_fit (HK2.out _ hs1.cell hs1.free);rintro z w2 ⟨rfl,ht2⟩;have hs2:=hs1.trans ht2)
 go_wp2_with fail
 refine hK.out _ _ (HX.out _ _ hs2) (fun hHeld=>?_);clear hK K
 try simp only[Act.put,Co,Cp,Cn,Ba,Bc,Az]
 refine r1 14 (fun K hK=>?_)
 try simp only[Ba,Bc,Az]
 go_simp
 (go_at_call 104;go_split_ands;go_fit (HK3.out _ hs2.cell hs2.free);rintro z w3 ⟨rfl,ht3⟩;have hs3:=hs2.trans ht3)
 go_wp2_with fail
 refine hK.out _ _ (HX.out _ _ hs3) (fun hHeld=>?_);clear hK K
 try simp only[Act.put,Co,Cp,Cn,Ba,Bc,Az]
 refine r1 15 (fun K hK=>?_)
 try simp only[Ba,Bc,Az]
 go_simp
 (go_at_call 103;go_split_ands;go_fit (HK4.out _ hs3.cell hs3.free);rintro z w4 ⟨rfl,ht4⟩;have hs4:=hs3.trans ht4)
 go_wp2_with fail
 refine hK.out _ _ (HX.out _ _ hs4) (fun hHeld=>?_);clear hK K
 try simp only[Act.put,Co,Cp,Cn,Ba,Bc,Az]
 refine r1 16 (fun K hK=>?_);go_split_ands;obtain⟨g0,g1,g2,g3⟩:=HY.out _ _ hs4
 try simp only[Ba,Bc,Az]
 go_wp2_with fail
 skip
 refine hK.out _ _ (HZ.out _ _ hs4 _ _) (fun hHeld=>?_);clear hK K
 try simp only[Act.put,Co,Cp,Cn,Ba,Bc,Az]
 refine wpAnyH_done (by kernel_rfl) ?_ _
 go_wp2_with fail
 have l0:=(Ag (v0:=.int .i64 K4.1.1) (v1:=.int .i64 K4.1.2) g0 g1).1;have l1:=(Ag (v0:=.int .i64 K4.1.1) (v1:=.int .i64 K4.1.2) g0 g1).2;refine bodyPost_ret (v:=.agg #[.int .i64 K4.1.1,.int .i64 K4.1.2]) (by simp[results,Tryz.results63,go_sem,l0,l1]) rfl ⟨rfl,?_⟩;exact((Sm.from hW0 hb hs4).setCell (p:=⟨w.heap.size+1+1,0,none⟩) (by simp<;>omega) hb _).setCell (p:=⟨w.heap.size+1+1,1,none⟩) (by simp<;>omega) hb _
theorem ADw(b:Nat)(e:Int)(x:Int×Int)(w:World)(hc:w.cell? ⟨b,0,none⟩=some (.int .i64 e)):
  Calls Tryz.prog 70 #[.pointer (some ⟨b,0,none⟩),.agg #[.int .i64 x.1,.int .i64 x.2]] w fun z w'=>z=.returned (.tuple #[.agg #[.int .i64 (if e=0 then x.1 else 0),.int .i64 (if e=0 then x.2 else 0)],.int .i64 e])∧Below w.heap.size w w':=by
 have hb:b<w.heap.size:=wl hc
 by_cases z:e=0
 ·rw[if_pos z,if_pos z]
  subst z
  go_enter Tryz.func70,Tryz.ntmps70
  go_wp2_with fail
  refine bodyPost_ret (v:=.tuple #[.agg #[.int .i64 x.1,.int .i64 x.2],.int .i64 0]) (by simp[results,Tryz.results70,go_sem]) rfl ⟨rfl,?_⟩;exact(Aa _ _).alloc (by simp) _
 ·rw[if_neg z,if_neg z]
  have z1:(e==0)=false:=beq_eq_false_iff_ne.2 z;have z2:(e !=0)=true:=by simpa using z
  clear z
  go_enter Tryz.func70,Tryz.ntmps70
  go_upto_region 2 with (fail)
  go_region
  all_goals go_wp2_with fail
  all_goals refine bodyPost_ret (v:=.tuple #[.agg #[.int .i64 0,.int .i64 0],.int .i64 e]) (by simp[results,Tryz.results70,go_sem]) rfl ⟨rfl,?_⟩
  all_goals exact((Aa _ _).alloc (by simp) _).drew
structure Oz(p:Pc):Prop where
 f:Cf p.f0 p.f1=true
 a:Cf p.a0 p.a1=true
 b:Cf p.b0 p.b1=true
 c:Cf p.c0 p.c1=true
structure Fg(L:List Pc):Prop where
 pos:1≤L.length
 len:L.length≤200
 val:∀i,i<L.length→Oz (Al L i)
 asc:∀i,i+1<L.length→(Al L i).f0*(Al L (i+1)).f1<(Al L (i+1)).f0*(Al L i).f1
theorem ARt{x y:Int}(h:x<y):Iy x y=-1:=by unfold Iy;rw[if_neg (by omega),if_pos h]
theorem ARn{x y:Int}:Iy x y≤0↔x≤y:=by unfold Iy;split<;>(try split)<;>omega
theorem Ov(an ad bn bd:Int)(va:Cf an ad=true)(vb:Cf bn bd=true)(w:World):
  Calls Tryz.prog 100 #[.agg #[.int .i64 an,.int .i64 ad],.agg #[.int .i64 bn,.int .i64 bd]] w fun e w'=>e=.returned (.int .i64 (Iy (an*bd) (bn*ad)))∧Below w.heap.size w w':=by
 have HC:=lh (AIw an ad bn bd va vb);generalize Iy (an*bd) (bn*ad)=C at *;clear va vb
 go_enter Tryz.func100,Tryz.ntmps100
 go_wp2_with (go_at_call 109;go_fit (HC.out _);rintro e w1 ⟨rfl,hb1⟩)
 go_ret;exact⟨rfl,((Aa _ _).alloc (by simp) _).trans (hb1.mono (by simp<;>omega))⟩
theorem AHk(L:List Pc)(ok:Fg L)(a:Option Addr)(c:Nat)(w:World)(hL:Yi w.heap.size w a L):
  Calls Tryz.prog 60 #[.slice a L.length c] w fun e w'=>e=.returned (.bool true)∧Below w.heap.size w w':=by
 have hl1:=ok.pos;have hl2:=ok.len;have HOK:=lh ok;have g1:decide ((L.length:Int)<1)=false:=dF (by omega);have g2:decide (200<(L.length:Int))=false:=dF (by omega);have g3:decide (200<L.length)=false:=dF (by omega);obtain⟨b,off,rfl,hb,hc⟩:=hL (by omega);have HC:=lh hc;clear ok hc hL
 go_enter Tryz.func60,Tryz.ntmps60
 go_wp2_with fail
 clear g1 g2 g3
 go_loopw [15] (fun i wr=>∃k:Nat,k≤L.length∧i=.int .i64 k∧Below w.heap.size w wr) (fun i _=>L.length-(intOf i).toNat)
 case atStart=>exact⟨0,nz,rfl,br⟩
 case round=>
  obtain⟨k,hk,rfl,hB⟩:=hrel;have hbs:=hB.size
  by_cases hlt:k<L.length
  ·obtain⟨c0,c1,c2,c3,c4,c5,c6,c7⟩:=HC.out k hlt
   have d0:=(ct hB c0 hb);have d1:=(ct hB c1 hb);have d2:=(ct hB c2 hb);have d3:=(ct hB c3 hb);have d4:=(ct hB c4 hb);have d5:=(ct hB c5 hb);have d6:=(ct hB c6 hb);have d7:=(ct hB c7 hb);have hok:=HOK.out.val k hlt;have HVf:=lh hok.f;have HVa:=lh hok.a;have HVb:=lh hok.b;have HVc:=lh hok.c;have i0:0≤(k:Int):=by omega
   have i1:(k:Int)<(L.length:Int):=by omega
   have s1:IntKind.i64.wrap ((k:Int)+1)=(k:Int)+1:=IntWalk.i64_in _ (by omega);clear c0 c1 c2 c3 c4 c5 c6 c7 hok;have hn0:wr.heap.size<(wr.alloc (.cells #[.int .i64 (Al L k).f0,.int .i64 (Al L k).f1,.int .i64 (Al L k).a0,.int .i64 (Al L k).a1,.int .i64 (Al L k).b0,.int .i64 (Al L k).b1,.int .i64 (Al L k).c0,.int .i64 (Al L k).c1] 122)).heap.size:=by simp
   have z0_0:(wr.alloc (.cells #[.int .i64 (Al L k).f0,.int .i64 (Al L k).f1,.int .i64 (Al L k).a0,.int .i64 (Al L k).a1,.int .i64 (Al L k).b0,.int .i64 (Al L k).b1,.int .i64 (Al L k).c0,.int .i64 (Al L k).c1] 122)).cell? ⟨wr.heap.size,0,none⟩=some (.int .i64 (Al L k).f0):=by simp
   have z0_1:(wr.alloc (.cells #[.int .i64 (Al L k).f0,.int .i64 (Al L k).f1,.int .i64 (Al L k).a0,.int .i64 (Al L k).a1,.int .i64 (Al L k).b0,.int .i64 (Al L k).b1,.int .i64 (Al L k).c0,.int .i64 (Al L k).c1] 122)).cell? ⟨wr.heap.size,1,none⟩=some (.int .i64 (Al L k).f1):=by simp
   have z0_2:(wr.alloc (.cells #[.int .i64 (Al L k).f0,.int .i64 (Al L k).f1,.int .i64 (Al L k).a0,.int .i64 (Al L k).a1,.int .i64 (Al L k).b0,.int .i64 (Al L k).b1,.int .i64 (Al L k).c0,.int .i64 (Al L k).c1] 122)).cell? ⟨wr.heap.size,2,none⟩=some (.int .i64 (Al L k).a0):=by simp
   have z0_3:(wr.alloc (.cells #[.int .i64 (Al L k).f0,.int .i64 (Al L k).f1,.int .i64 (Al L k).a0,.int .i64 (Al L k).a1,.int .i64 (Al L k).b0,.int .i64 (Al L k).b1,.int .i64 (Al L k).c0,.int .i64 (Al L k).c1] 122)).cell? ⟨wr.heap.size,3,none⟩=some (.int .i64 (Al L k).a1):=by simp
   have z0_4:(wr.alloc (.cells #[.int .i64 (Al L k).f0,.int .i64 (Al L k).f1,.int .i64 (Al L k).a0,.int .i64 (Al L k).a1,.int .i64 (Al L k).b0,.int .i64 (Al L k).b1,.int .i64 (Al L k).c0,.int .i64 (Al L k).c1] 122)).cell? ⟨wr.heap.size,4,none⟩=some (.int .i64 (Al L k).b0):=by simp
   have z0_5:(wr.alloc (.cells #[.int .i64 (Al L k).f0,.int .i64 (Al L k).f1,.int .i64 (Al L k).a0,.int .i64 (Al L k).a1,.int .i64 (Al L k).b0,.int .i64 (Al L k).b1,.int .i64 (Al L k).c0,.int .i64 (Al L k).c1] 122)).cell? ⟨wr.heap.size,5,none⟩=some (.int .i64 (Al L k).b1):=by simp
   have z0_6:(wr.alloc (.cells #[.int .i64 (Al L k).f0,.int .i64 (Al L k).f1,.int .i64 (Al L k).a0,.int .i64 (Al L k).a1,.int .i64 (Al L k).b0,.int .i64 (Al L k).b1,.int .i64 (Al L k).c0,.int .i64 (Al L k).c1] 122)).cell? ⟨wr.heap.size,6,none⟩=some (.int .i64 (Al L k).c0):=by simp
   have z0_7:(wr.alloc (.cells #[.int .i64 (Al L k).f0,.int .i64 (Al L k).f1,.int .i64 (Al L k).a0,.int .i64 (Al L k).a1,.int .i64 (Al L k).b0,.int .i64 (Al L k).b1,.int .i64 (Al L k).c0,.int .i64 (Al L k).c1] 122)).cell? ⟨wr.heap.size,7,none⟩=some (.int .i64 (Al L k).c1):=by simp
   go_upto_region 8 with (first
    | (go_at_call 68;go_fit (Df (Al L k).f0 (Al L k).f1 _);rintro e w1 ⟨rfl,hv1⟩;rw[HVf.out];have z1_0:w1.cell? ⟨wr.heap.size,0,none⟩=some (.int .i64 (Al L k).f0):=(ct hv1 z0_0 hn0);have z1_1:w1.cell? ⟨wr.heap.size,1,none⟩=some (.int .i64 (Al L k).f1):=(ct hv1 z0_1 hn0);have z1_2:w1.cell? ⟨wr.heap.size,2,none⟩=some (.int .i64 (Al L k).a0):=(ct hv1 z0_2 hn0);have z1_3:w1.cell? ⟨wr.heap.size,3,none⟩=some (.int .i64 (Al L k).a1):=(ct hv1 z0_3 hn0);have z1_4:w1.cell? ⟨wr.heap.size,4,none⟩=some (.int .i64 (Al L k).b0):=(ct hv1 z0_4 hn0);have z1_5:w1.cell? ⟨wr.heap.size,5,none⟩=some (.int .i64 (Al L k).b1):=(ct hv1 z0_5 hn0);have z1_6:w1.cell? ⟨wr.heap.size,6,none⟩=some (.int .i64 (Al L k).c0):=(ct hv1 z0_6 hn0);have z1_7:w1.cell? ⟨wr.heap.size,7,none⟩=some (.int .i64 (Al L k).c1):=(ct hv1 z0_7 hn0);have hn1:wr.heap.size<w1.heap.size:=wl z1_0)
    | (go_at_call 68;go_fit (Df (Al L k).a0 (Al L k).a1 _);rintro e w2 ⟨rfl,hv2⟩;rw[HVa.out];have z2_0:w2.cell? ⟨wr.heap.size,0,none⟩=some (.int .i64 (Al L k).f0):=(ct hv2 z1_0 hn1);have z2_1:w2.cell? ⟨wr.heap.size,1,none⟩=some (.int .i64 (Al L k).f1):=(ct hv2 z1_1 hn1);have z2_2:w2.cell? ⟨wr.heap.size,2,none⟩=some (.int .i64 (Al L k).a0):=(ct hv2 z1_2 hn1);have z2_3:w2.cell? ⟨wr.heap.size,3,none⟩=some (.int .i64 (Al L k).a1):=(ct hv2 z1_3 hn1);have z2_4:w2.cell? ⟨wr.heap.size,4,none⟩=some (.int .i64 (Al L k).b0):=(ct hv2 z1_4 hn1);have z2_5:w2.cell? ⟨wr.heap.size,5,none⟩=some (.int .i64 (Al L k).b1):=(ct hv2 z1_5 hn1);have z2_6:w2.cell? ⟨wr.heap.size,6,none⟩=some (.int .i64 (Al L k).c0):=(ct hv2 z1_6 hn1);have z2_7:w2.cell? ⟨wr.heap.size,7,none⟩=some (.int .i64 (Al L k).c1):=(ct hv2 z1_7 hn1);have hn2:wr.heap.size<w2.heap.size:=wl z2_0)
    | (go_at_call 68;go_fit (Df (Al L k).b0 (Al L k).b1 _);rintro e w3 ⟨rfl,hv3⟩;rw[HVb.out];have z3_0:w3.cell? ⟨wr.heap.size,0,none⟩=some (.int .i64 (Al L k).f0):=(ct hv3 z2_0 hn2);have z3_1:w3.cell? ⟨wr.heap.size,1,none⟩=some (.int .i64 (Al L k).f1):=(ct hv3 z2_1 hn2);have z3_2:w3.cell? ⟨wr.heap.size,2,none⟩=some (.int .i64 (Al L k).a0):=(ct hv3 z2_2 hn2);have z3_3:w3.cell? ⟨wr.heap.size,3,none⟩=some (.int .i64 (Al L k).a1):=(ct hv3 z2_3 hn2);have z3_4:w3.cell? ⟨wr.heap.size,4,none⟩=some (.int .i64 (Al L k).b0):=(ct hv3 z2_4 hn2);have z3_5:w3.cell? ⟨wr.heap.size,5,none⟩=some (.int .i64 (Al L k).b1):=(ct hv3 z2_5 hn2);have z3_6:w3.cell? ⟨wr.heap.size,6,none⟩=some (.int .i64 (Al L k).c0):=(ct hv3 z2_6 hn2);have z3_7:w3.cell? ⟨wr.heap.size,7,none⟩=some (.int .i64 (Al L k).c1):=(ct hv3 z2_7 hn2);have hn3:wr.heap.size<w3.heap.size:=wl z3_0)
    | (go_at_call 68;go_fit (Df (Al L k).c0 (Al L k).c1 _);rintro e w4 ⟨rfl,hv4⟩;rw[HVc.out];have z4_0:w4.cell? ⟨wr.heap.size,0,none⟩=some (.int .i64 (Al L k).f0):=(ct hv4 z3_0 hn3);have z4_1:w4.cell? ⟨wr.heap.size,1,none⟩=some (.int .i64 (Al L k).f1):=(ct hv4 z3_1 hn3);have z4_2:w4.cell? ⟨wr.heap.size,2,none⟩=some (.int .i64 (Al L k).a0):=(ct hv4 z3_2 hn3);have z4_3:w4.cell? ⟨wr.heap.size,3,none⟩=some (.int .i64 (Al L k).a1):=(ct hv4 z3_3 hn3);have z4_4:w4.cell? ⟨wr.heap.size,4,none⟩=some (.int .i64 (Al L k).b0):=(ct hv4 z3_4 hn3);have z4_5:w4.cell? ⟨wr.heap.size,5,none⟩=some (.int .i64 (Al L k).b1):=(ct hv4 z3_5 hn3);have z4_6:w4.cell? ⟨wr.heap.size,6,none⟩=some (.int .i64 (Al L k).c0):=(ct hv4 z3_6 hn3);have z4_7:w4.cell? ⟨wr.heap.size,7,none⟩=some (.int .i64 (Al L k).c1):=(ct hv4 z3_7 hn3);have hn4:wr.heap.size<w4.heap.size:=wl z4_0))
   have hB4:Below w.heap.size w w4:=((((hB.alloc hbs _).trans (hv1.mono (by simp;omega))).trans (hv2.mono (by have:=hv1.size;simp at this;omega))).trans (hv3.mono (by omega))).trans (hv4.mono (by omega));have hw4:Below wr.heap.size wr w4:=((((Aa wr _).trans (hv1.mono (by simp))).trans (hv2.mono (by omega))).trans (hv3.mono (by omega))).trans (hv4.mono (by omega));clear hv1 hv2 hv3 hv4 hn0 hn1 hn2 hn3 z0_0 z0_1 z0_2 z0_3 z0_4 z0_5 z0_6 z0_7 z1_0 z1_1 z1_2 z1_3 z1_4 z1_5 z1_6 z1_7 z2_0 z2_1 z2_2 z2_3 z2_4 z2_5 z2_6 z2_7 z3_0 z3_1 z3_2 z3_3 z3_4 z3_5 z3_6 z3_7 d0 d1 d2 d3 d4 d5 d6 d7 z4_2 z4_3 z4_4 z4_5 z4_6 z4_7;have hbx:=hB4.size;rcases(show k=0∨∃m,k=m+1 by cases k with | zero=>exact .inl rfl | succ m=>exact .inr ⟨m,rfl⟩)with rfl | ⟨m,rfl⟩
   ·go_quiet (fail)
    go_wp2_with fail
    go_roundw
    case rel=>exact⟨1,by omega,by go_num,by first | exact Aj hB4 _ | exact hB4.drew⟩
    case measure=>simp[intOf];omega
   ·obtain⟨c0,c1,c2,c3,c4,c5,c6,c7⟩:=HC.out m (by omega)
    have q0:=(ct hB4 c0 hb);have q1:=(ct hB4 c1 hb);have HV1:=lh (HOK.out.val m (by omega)).f;have HA:=lh (ARt (HOK.out.asc m hlt));have j0:IntKind.i64.wrap (((m+1:Nat):Int)-1)=(m:Int):=(IntWalk.i64_in _ (by omega)).trans (by omega);have j1:IntKind.i64.wrap ((m:Int)+1-1)=(m:Int):=(IntWalk.i64_in _ (by omega)).trans (by omega);have j2:IntKind.i64.wrap (m:Int)=(m:Int):=IntWalk.i64_in _ (by omega);have j3:(m:Int)<(L.length:Int):=by omega
    have j4:decide ((0:Int)<((m+1:Nat):Int))=true:=dT (by omega);have j5:decide ((0:Int)<(m:Int)+1)=true:=dT (by omega);have j6:(0:Int)≤(m:Int):=by omega
    have j7:m<L.length:=by omega
    clear c0 c1 c2 c3 c4 c5 c6 c7;have hn4':=hn4
    have HSX:Hid (∀w',Below w4.heap.size w4 w'→Below w4.heap.size w4 w'∧w'.cell? ⟨b,off+m*8,none⟩=some (.int .i64 (Al L m).f0)∧w'.cell? ⟨b,off+m*8+1,none⟩=some (.int .i64 (Al L m).f1)∧w'.cell? ⟨wr.heap.size,0,none⟩=some (.int .i64 (Al L (m+1)).f0)∧w'.cell? ⟨wr.heap.size,1,none⟩=some (.int .i64 (Al L (m+1)).f1)):=lh fun w' h=>
     ⟨h,(ct h q0 (by simp;omega)),(ct h q1 (by simp;omega)),ct h z4_0 hn4,ct h z4_1 hn4⟩
    clear q0 q1 z4_0 z4_1;refine wp_region_held_drew (S:=(fun w'=>Below w4.heap.size w4 w'∧w'.cell? ⟨b,off+m*8,none⟩=some (.int .i64 (Al L m).f0)∧w'.cell? ⟨b,off+m*8+1,none⟩=some (.int .i64 (Al L m).f1)∧w'.cell? ⟨wr.heap.size,0,none⟩=some (.int .i64 (Al L (m+1)).f0)∧w'.cell? ⟨wr.heap.size,1,none⟩=some (.int .i64 (Al L (m+1)).f1))) (by kernel_rfl) (HSX.out _ (br).drew) (fun hHeld=>?_);refine tkB 0 ?_;simp only[Act.put,Co,Cp,Cn,Ba,Az];refine tk 1 ?_;refine tk 2 ?_;refine tk 3 ?_;refine tk 4 ?_;refine tk 5 ?_;refine tk 6 ?_;refine tk 7 ?_;refine tk 8 ?_;refine tk 9 ?_;refine tk 10 ?_;refine r1 11 (fun K hK=>?_)
    try simp only[Ba,Bc,Az]
    go_simp
    (go_at_call 100;go_split_ands;go_fit (Ov (Al L m).f0 (Al L m).f1 (Al L (m+1)).f0 (Al L (m+1)).f1 HV1.out HVf.out _);rintro e w5 ⟨rfl,hb5⟩;rw[HA.out];have hb6:Below w4.heap.size w4 w5:=((Below.refl w4.heap.size w4).drew).trans hb5)
    go_wp2_with fail
    refine hK.out _ _ (HSX.out _ hb6) (fun hHeld=>?_);clear hK K
    try simp only[Act.put,Co,Cp,Cn,Ba,Bc,Az]
    refine tk 12 ?_;refine tk 13 ?_;refine wpAnyH_done (by kernel_rfl) ?_ _
    go_wp2_with fail
    go_roundw
    case rel=>exact⟨m+2,by omega,by go_num,hB4.trans (hb6.mono hB4.size)⟩
    case measure=>simp[intOf];omega
  ·obtain rfl:k=L.length:=by omega
   go_wp2_with fail
   go_ret;exact⟨rfl,hB⟩
def Dk(L:List Pc)(t:Int×Int):Nat→Int
 | 0=>-1
 | k+1=>if(Al L k).f0*t.2≤t.1*(Al L k).f1 then(k:Int)else Dk L t k
theorem Yz(L:List Pc)(ok:Fg L)(t:Int×Int)(vt:vF t=true)(a:Option Addr)(c:Nat)(w:World)(hL:Yi w.heap.size w a L):
  Calls Tryz.prog 69 #[.slice a L.length c,.agg #[.int .i64 t.1,.int .i64 t.2]] w fun e w'=>e=.returned (.int .i64 (Dk L t L.length))∧Below w.heap.size w w':=by
 have hl2:=ok.len;have HOK:=lh ok;obtain⟨b,off,rfl,hb,hc⟩:=hL (by have:=ok.pos;omega);have HC:=lh hc;have HT:Hid (Cf t.1 t.2=true):=lh vt;clear ok hc hL vt
 go_enter Tryz.func69,Tryz.ntmps69
 go_wp2_with fail
 go_loopw [5,10] (fun p i wr=>∃k:Nat,k≤L.length∧i=.int .i64 k∧p=.int .i64 (Dk L t k)∧Below w.heap.size w wr∧w.heap.size<wr.heap.size∧wr.cell? ⟨w.heap.size,0,none⟩=some (.int .i64 t.1)∧wr.cell? ⟨w.heap.size,1,none⟩=some (.int .i64 t.2)) (fun _ i _=>L.length-(intOf i).toNat)
 case atStart=>exact⟨0,nz,rfl,rfl,Aa _ _,by simp,by simp,by simp⟩
 case round=>
  obtain⟨k,hk,rfl,rfl,hB,hbs,t0,t1⟩:=hrel
  by_cases hlt:k<L.length
  ·obtain⟨c0,c1,c2,c3,c4,c5,c6,c7⟩:=HC.out k hlt
   have d0:=(ct hB c0 hb);have d1:=(ct hB c1 hb);have d2:=(ct hB c2 hb);have d3:=(ct hB c3 hb);have d4:=(ct hB c4 hb);have d5:=(ct hB c5 hb);have d6:=(ct hB c6 hb);have d7:=(ct hB c7 hb);have HVf:=lh (HOK.out.val k hlt).f;have i0:0≤(k:Int):=by omega
   have i1:(k:Int)<(L.length:Int):=by omega
   have s1:IntKind.i64.wrap ((k:Int)+1)=(k:Int)+1:=IntWalk.i64_in _ (by omega);obtain⟨P,hP⟩:=nm (Dk L t k);rw[hP];obtain⟨C,hC⟩:=nm (Iy ((Al L k).f0*t.2) (t.1*(Al L k).f1));have HCC:=lh hC;have hle:C≤0↔(Al L k).f0*t.2≤t.1*(Al L k).f1:=by rw[←hC];exact ARn
   have HN:Hid (Dk L t (k+1)=if C≤0 then(k:Int)else P):=lh (by
    rw[Dk,hP]
    by_cases h:C≤0
    ·rw[if_pos h,if_pos (hle.1 h)]
    ·rw[if_neg h,if_neg (fun x=>h (hle.2 x))])
   clear c0 c1 c2 c3 c4 c5 c6 c7 hC hle hP
   by_cases h:C≤0
   ·have g:decide (C≤0)=true:=dT h
    rw[if_pos h]at HN;clear h
    go_wp2_with (go_at_call 100;go_fit (Ov (Al L k).f0 (Al L k).f1 t.1 t.2 HVf.out HT.out _);rw[HCC.out];rintro e w1 ⟨rfl,hb1⟩)
    have e0:=(hb1.cell (p:=⟨w.heap.size,0,none⟩) (by simp<;>omega)).trans ((World.cell?_alloc_lt _ _ _ hbs).trans t0);have e1:=(hb1.cell (p:=⟨w.heap.size,1,none⟩) (by simp<;>omega)).trans ((World.cell?_alloc_lt _ _ _ hbs).trans t1);have hB1:=(hB.alloc hB.size (.cells #[.int .i64 (Al L k).f0,.int .i64 (Al L k).f1,.int .i64 (Al L k).a0,.int .i64 (Al L k).a1,.int .i64 (Al L k).b0,.int .i64 (Al L k).b1,.int .i64 (Al L k).c0,.int .i64 (Al L k).c1] 122)).trans (hb1.mono (by simp;omega));go_roundw
    case rel=>exact⟨k+1,by omega,by go_num,by rw[HN.out],hB1,wl e0,e0,e1⟩
    case measure=>simp[intOf];omega
   ·have g:decide (C≤0)=false:=dF h
    rw[if_neg h]at HN;clear h
    go_wp2_with (go_at_call 100;go_fit (Ov (Al L k).f0 (Al L k).f1 t.1 t.2 HVf.out HT.out _);rw[HCC.out];rintro e w1 ⟨rfl,hb1⟩)
    have e0:=(hb1.cell (p:=⟨w.heap.size,0,none⟩) (by simp<;>omega)).trans ((World.cell?_alloc_lt _ _ _ hbs).trans t0);have e1:=(hb1.cell (p:=⟨w.heap.size,1,none⟩) (by simp<;>omega)).trans ((World.cell?_alloc_lt _ _ _ hbs).trans t1);have hB1:=(hB.alloc hB.size (.cells #[.int .i64 (Al L k).f0,.int .i64 (Al L k).f1,.int .i64 (Al L k).a0,.int .i64 (Al L k).a1,.int .i64 (Al L k).b0,.int .i64 (Al L k).b1,.int .i64 (Al L k).c0,.int .i64 (Al L k).c1] 122)).trans (hb1.mono (by simp;omega));go_roundw
    case rel=>exact⟨k+1,by omega,by go_num,by rw[HN.out],hB1,wl e0,e0,e1⟩
    case measure=>simp[intOf];omega
  ·obtain rfl:k=L.length:=by omega
   go_wp2_with fail
   go_ret;exact⟨rfl,hB⟩
theorem Sr(L:List Pc)(t:Int×Int)(k:Nat):-1≤Dk L t k∧Dk L t k<(k:Int):=by
 induction k with
 | zero=>exact⟨Int.le_refl _,by unfold Dk;omega⟩
 | succ k ih=>unfold Dk;split<;>omega
def AAk(v:(Int×Int)×Int):Int×Int×Int:=(if v.2=0 then v.1.1 else 0,if v.2=0 then v.1.2 else 0,v.2)
def Xt(L:List Pc)(t:Int×Int)(i:Nat):Int×Int×Int:=AAk (Wd (Te 0 t ((Al L i).f0,(Al L i).f1)).2 ((Al L i).a0,(Al L i).a1) ((Al L i).b0,(Al L i).b1) ((Al L i).c0,(Al L i).c1) (Te 0 t ((Al L i).f0,(Al L i).f1)).1)
def Rx(L:List Pc)(t:Int×Int)(i:Nat):Int×Int×Int:=AAk (Xq (Te 0 t ((Al L i).f0,(Al L i).f1)).2 ((Al L i).b0,(Al L i).b1) ((Al L i).c0,(Al L i).c1) (Te 0 t ((Al L i).f0,(Al L i).f1)).1)
def Tl(L:List Pc)(t:Int×Int):Int×Int×Int:=if vF t=true then(if Dk L t L.length<0 then((Al L 0).a0,(Al L 0).a1,0)else Xt L t (Dk L t L.length).toNat)else(0,0,1)
def Ip(L:List Pc)(t:Int×Int):Int×Int×Int:=if vF t=true then(if Dk L t L.length<0 then(0,1,0)else Rx L t (Dk L t L.length).toNat)else(0,0,1)
theorem AQl(L:List Pc)(ok:Fg L)(t:Int×Int)(a:Option Addr)(c:Nat)(w:World)(hL:Yi w.heap.size w a L):
  Calls Tryz.prog 39 #[.slice a L.length c,.agg #[.int .i64 t.1,.int .i64 t.2]] w fun e w'=>e=.returned (.tuple #[.agg #[.int .i64 (Tl L t).1,.int .i64 (Tl L t).2.1],.int .i64 (Tl L t).2.2])∧Below w.heap.size w w':=by
 have hpos:=ok.pos;have hlen:=ok.len;have hL0:Yi ((w.alloc (.cells #[.int .i64 t.1,.int .i64 t.2] 49)).alloc (.cells #[.int .i64 0,.int .i64 0] 49)).heap.size ((w.alloc (.cells #[.int .i64 t.1,.int .i64 t.2] 49)).alloc (.cells #[.int .i64 0,.int .i64 0] 49)) a L:=hL.grow ((Aa _ _).alloc (by simp) _);have HV:=lh (fun c w h=>AHk L ok a c w h);have HOK:=lh ok;have HL:=lh hL;obtain⟨Z,hZ⟩:=nm (Tl L t);rw[hZ];have HZ:=lh hZ;clear ok hL hZ
 by_cases vt:vF t=true
 case neg=>
  have HVT:Hid (Cf t.1 t.2=false):=lh (by have:=Bool.not_eq_true _▸vt;exact this);have HR:Hid (Z=(0,0,1)):=lh (by rw[←HZ.out];unfold Tl;rw[if_neg vt]);rw[HR.out];clear vt
  go_enter Tryz.func39,Tryz.ntmps39
  go_wp2_with (first
   | (go_at_call 60;go_fit (HV.out _ _ ?_);(next=>exact hL0);rintro e w1 ⟨rfl,hb1⟩;have t0:w1.cell? ⟨w.heap.size,0,none⟩=some (.int .i64 t.1):=(hb1.cell (p:=⟨w.heap.size,0,none⟩) (by simp<;>omega)).trans (by simp[go_sem,World.cell?_alloc_past]);have t1:w1.cell? ⟨w.heap.size,1,none⟩=some (.int .i64 t.2):=(hb1.cell (p:=⟨w.heap.size,1,none⟩) (by simp<;>omega)).trans (by simp[go_sem,World.cell?_alloc_past]);have r0:w1.cell? ⟨w.heap.size+1,0,none⟩=some (.int .i64 0):=(hb1.cell (p:=⟨w.heap.size+1,0,none⟩) (by simp<;>omega)).trans (by simp[go_sem]);have r1:w1.cell? ⟨w.heap.size+1,1,none⟩=some (.int .i64 0):=(hb1.cell (p:=⟨w.heap.size+1,1,none⟩) (by simp<;>omega)).trans (by simp[go_sem]);have r2:w1.frozen? ⟨w.heap.size+1,0,none⟩=false:=(hb1.frozen (p:=⟨w.heap.size+1,0,none⟩) (by simp<;>omega)).trans (by simp[go_sem]);have r3:w1.frozen? ⟨w.heap.size+1,1,none⟩=false:=(hb1.frozen (p:=⟨w.heap.size+1,1,none⟩) (by simp<;>omega)).trans (by simp[go_sem]);have hB1:Below w.heap.size w w1:=((Aa w (.cells #[.int .i64 t.1,.int .i64 t.2] 49)).alloc (by simp) (.cells #[.int .i64 0,.int .i64 0] 49)).trans (hb1.mono (by simp<;>omega));have z1:=wl r0;simp only at z1)
   | (go_at_call 68;go_fit (Df t.1 t.2 _);rintro e w2 ⟨rfl,hb2⟩;rw[HVT.out];have hB2:=hB1.trans (hb2.mono hB1.size);have T0:=(ct hb2 t0 (by simp;omega));have T1:=(ct hb2 t1 (by simp;omega));have R0:=(ct hb2 r0 z1);have R1:=(ct hb2 r1 z1);have R2:=(hb2.frozen (p:=⟨w.heap.size+1,0,none⟩) z1).trans r2;have R3:=(hb2.frozen (p:=⟨w.heap.size+1,1,none⟩) z1).trans r3;have z2:=wl R0;simp only at z2;have zz:w.heap.size<w2.heap.size:=(by omega);clear t0 t1 r0 r1 r2 r3 hb1 hb2))
  have l0:=(Ag (v0:=.int .i64 0) (v1:=.int .i64 0) R0 R1).1;have l1:=(Ag (v0:=.int .i64 0) (v1:=.int .i64 0) R0 R1).2;refine bodyPost_ret (v:=.tuple #[.agg #[.int .i64 0,.int .i64 0],.int .i64 1]) (by simp[results,Tryz.results39,go_sem,l0,l1]) rfl ⟨rfl,?_⟩;exact(hB2.setCell (p:=⟨w.heap.size+1,0,none⟩) (Nat.le_succ _) _).setCell (p:=⟨w.heap.size+1,1,none⟩) (Nat.le_succ _) _
 case pos=>
  have HVT:Hid (Cf t.1 t.2=true):=lh vt;have HTT:=lh vt;have HZ2:Hid (Z=if Dk L t L.length<0 then((Al L 0).a0,(Al L 0).a1,0)else Xt L t (Dk L t L.length).toNat):=lh (by rw[←HZ.out];unfold Tl;rw[if_pos vt]);clear vt HZ;obtain⟨kI,hk⟩:=nm (Dk L t L.length);have hkr:=Sr L t L.length;rw[hk]at hkr;have HK:=lh hk;rw[hk]at HZ2;clear hk
  by_cases neg:kI<0
  ·have g:decide (kI<0)=true:=dT neg
   rw[if_pos neg]at HZ2;rw[HZ2.out];clear neg;obtain⟨b,off,rfl,hb,hc⟩:=HL.out (by omega);obtain⟨c0,c1,c2,c3,c4,c5,c6,c7⟩:=hc 0 (by omega);simp only[Nat.zero_mul,Nat.add_zero]at c2 c3;have HC2:=lh c2;have HC3:=lh c3;clear c0 c1 c2 c3 c4 c5 c6 c7 hc
   go_enter Tryz.func39,Tryz.ntmps39
   go_wp2_with (first
    | (go_at_call 60;go_fit (HV.out _ _ ?_);(next=>exact hL0);rintro e w1 ⟨rfl,hb1⟩;have t0:w1.cell? ⟨w.heap.size,0,none⟩=some (.int .i64 t.1):=(hb1.cell (p:=⟨w.heap.size,0,none⟩) (by simp<;>omega)).trans (by simp[go_sem,World.cell?_alloc_past]);have t1:w1.cell? ⟨w.heap.size,1,none⟩=some (.int .i64 t.2):=(hb1.cell (p:=⟨w.heap.size,1,none⟩) (by simp<;>omega)).trans (by simp[go_sem,World.cell?_alloc_past]);have r0:w1.cell? ⟨w.heap.size+1,0,none⟩=some (.int .i64 0):=(hb1.cell (p:=⟨w.heap.size+1,0,none⟩) (by simp<;>omega)).trans (by simp[go_sem]);have r1:w1.cell? ⟨w.heap.size+1,1,none⟩=some (.int .i64 0):=(hb1.cell (p:=⟨w.heap.size+1,1,none⟩) (by simp<;>omega)).trans (by simp[go_sem]);have r2:w1.frozen? ⟨w.heap.size+1,0,none⟩=false:=(hb1.frozen (p:=⟨w.heap.size+1,0,none⟩) (by simp<;>omega)).trans (by simp[go_sem]);have r3:w1.frozen? ⟨w.heap.size+1,1,none⟩=false:=(hb1.frozen (p:=⟨w.heap.size+1,1,none⟩) (by simp<;>omega)).trans (by simp[go_sem]);have hB1:Below w.heap.size w w1:=((Aa w (.cells #[.int .i64 t.1,.int .i64 t.2] 49)).alloc (by simp) (.cells #[.int .i64 0,.int .i64 0] 49)).trans (hb1.mono (by simp<;>omega));have z1:=wl r0;simp only at z1)
    | (go_at_call 68;go_fit (Df t.1 t.2 _);rintro e w2 ⟨rfl,hb2⟩;rw[HVT.out];have hB2:=hB1.trans (hb2.mono hB1.size);have T0:=(ct hb2 t0 (by simp;omega));have T1:=(ct hb2 t1 (by simp;omega));have R0:=(ct hb2 r0 z1);have R1:=(ct hb2 r1 z1);have R2:=(hb2.frozen (p:=⟨w.heap.size+1,0,none⟩) z1).trans r2;have R3:=(hb2.frozen (p:=⟨w.heap.size+1,1,none⟩) z1).trans r3;have z2:=wl R0;simp only at z2;have zz:w.heap.size<w2.heap.size:=(by omega);clear t0 t1 r0 r1 r2 r3 hb1 hb2)
    | (go_at_call 69;have W20:Below w2.heap.size w2 (w2.alloc (.cells #[.int .i64 0] 132)):=Aa _ _;have hB3:=hB2.trans (W20.mono hB2.size);go_fit (Yz L HOK.out t HTT.out (some ⟨b,off,none⟩) c _ (HL.out.grow hB3));rw[HK.out];rintro e w4 ⟨rfl,hb4⟩;have hB4:=hB3.trans (hb4.mono hB3.size);have hb5:=W20.trans (hb4.mono W20.size);have S0:w4.cell? ⟨w2.heap.size,0,none⟩=some (.int .i64 0):=(hb4.cell (p:=⟨w2.heap.size,0,none⟩) (by simp)).trans (by simp);have S1:w4.frozen? ⟨w2.heap.size,0,none⟩=false:=(hb4.frozen (p:=⟨w2.heap.size,0,none⟩) (by simp)).trans (by simp);have t0:=(ct hb5 T0 (by simp;omega));have t1:=(ct hb5 T1 (by simp;omega));have r0:=(ct hb5 R0 z2);have r1:=(ct hb5 R1 z2);have r2:=(hb5.frozen (p:=⟨w.heap.size+1,0,none⟩) z2).trans R2;have r3:=(hb5.frozen (p:=⟨w.heap.size+1,1,none⟩) z2).trans R3;have hBs4:w2.heap.size<w4.heap.size:=wl S0;have d2:=(ct hB4 HC2.out hb);have d3:=(ct hB4 HC3.out hb);clear T0 T1 R0 R1 R2 R3 hb4 hb5 W20 hB3))
   have l0:=(Ag (v0:=.int .i64 (Al L 0).a0) (v1:=.int .i64 (Al L 0).a1) r0 r1).1;have l1:=(Ag (v0:=.int .i64 (Al L 0).a0) (v1:=.int .i64 (Al L 0).a1) r0 r1).2;refine bodyPost_ret (v:=.tuple #[.agg #[.int .i64 (Al L 0).a0,.int .i64 (Al L 0).a1],.int .i64 0]) (by simp[results,Tryz.results39,go_sem,l0,l1]) rfl ⟨rfl,?_⟩;exact(hB4.setCell (p:=⟨w.heap.size+1,0,none⟩) (Nat.le_succ _) _).setCell (p:=⟨w.heap.size+1,1,none⟩) (Nat.le_succ _) _
  ·have g:decide (kI<0)=false:=dF neg
   rw[if_neg neg]at HZ2;obtain⟨i,rfl⟩:=Int.eq_ofNat_of_zero_le (show 0≤kI by omega);rw[Int.toNat_natCast]at HZ2;have hi:i<L.length:=by omega
   have hi1:(i:Int)<(L.length:Int):=by omega
   have hi0:(0:Int)≤(i:Int):=by omega
   have hok:=HOK.out.val i hi;have VF:vF ((Al L i).f0,(Al L i).f1)=true:=hok.f;have VA:vF ((Al L i).a0,(Al L i).a1)=true:=hok.a;have VB:vF ((Al L i).b0,(Al L i).b1)=true:=hok.b;have VC:vF ((Al L i).c0,(Al L i).c1)=true:=hok.c;obtain⟨K1,hK1⟩:=nm (Te 0 t ((Al L i).f0,(Al L i).f1));have V1:vF K1.1=true:=by rw[←hK1];exact Le HTT.out VF
   have HC1:Hid (∀(Bs:Nat) (w:World),w.cell? ⟨Bs,0,none⟩=some (.int .i64 0)→w.frozen? ⟨Bs,0,none⟩=false→Calls Tryz.prog 62 #[.pointer (some ⟨Bs,0,none⟩),.agg #[.int .i64 t.1,.int .i64 t.2],.agg #[.int .i64 (Al L i).f0,.int .i64 (Al L i).f1]] w fun z w'=>z=.returned (.agg #[.int .i64 K1.1.1,.int .i64 K1.1.2])∧Sm Bs K1.2 w w'):=lh fun Bs w h0 h1=>by
    have:=ANi Bs 0 t ((Al L i).f0,(Al L i).f1) HTT.out VF w h0 h1
    rwa [hK1]at this
   obtain⟨K2,hK2⟩:=nm (Wd K1.2 ((Al L i).a0,(Al L i).a1) ((Al L i).b0,(Al L i).b1) ((Al L i).c0,(Al L i).c1) K1.1)
   have HC2:Hid (∀(Bs:Nat) (w:World),w.cell? ⟨Bs,0,none⟩=some (.int .i64 K1.2)→w.frozen? ⟨Bs,0,none⟩=false→Calls Tryz.prog 63 #[.pointer (some ⟨Bs,0,none⟩),.agg #[.int .i64 (Al L i).f0,.int .i64 (Al L i).f1,.int .i64 (Al L i).a0,.int .i64 (Al L i).a1,.int .i64 (Al L i).b0,.int .i64 (Al L i).b1,.int .i64 (Al L i).c0,.int .i64 (Al L i).c1],.agg #[.int .i64 K1.1.1,.int .i64 K1.1.2]] w fun z w'=>z=.returned (.agg #[.int .i64 K2.1.1,.int .i64 K2.1.2])∧Sm Bs K2.2 w w'):=lh fun Bs w h0 h1=>by
    have:=AGu Bs K1.2 ((Al L i).f0,(Al L i).f1) ((Al L i).a0,(Al L i).a1) ((Al L i).b0,(Al L i).b1) ((Al L i).c0,(Al L i).c1) K1.1 VA VB VC V1 w h0 h1
    rwa [hK2]at this
   have HR:Hid (Z=(if K2.2=0 then K2.1.1 else 0,if K2.2=0 then K2.1.2 else 0,K2.2)):=lh (by rw[HZ2.out];unfold Xt;simp only[hK1,hK2];rfl);obtain⟨q1,hq1⟩:=nm ((if K2.2=0 then K2.1.1 else 0));obtain⟨q2,hq2⟩:=nm ((if K2.2=0 then K2.1.2 else 0))
   have HC3:Hid (∀(Bs:Nat) (w:World),w.cell? ⟨Bs,0,none⟩=some (.int .i64 K2.2)→Calls Tryz.prog 70 #[.pointer (some ⟨Bs,0,none⟩),.agg #[.int .i64 K2.1.1,.int .i64 K2.1.2]] w fun z w'=>z=.returned (.tuple #[.agg #[.int .i64 q1,.int .i64 q2],.int .i64 K2.2])∧Below w.heap.size w w'):=lh fun Bs w h0=>by
    have:=ADw Bs K2.2 K2.1 w h0
    rwa [hq1,hq2]at this
   rw[hq1,hq2]at HR;rw[HR.out];clear hq1 hq2 hK1 hK2 V1 VF VA VB VC hok HZ2 neg;obtain⟨b,off,rfl,hb,hc⟩:=HL.out (by omega);obtain⟨c0,c1,c2,c3,c4,c5,c6,c7⟩:=hc i hi;have HC:=lh (hc i hi);clear hc c0 c1 c2 c3 c4 c5 c6 c7
   go_enter Tryz.func39,Tryz.ntmps39
   go_upto_region 7 with (first
    | (go_at_call 60;go_fit (HV.out _ _ ?_);(next=>exact hL0);rintro e w1 ⟨rfl,hb1⟩;have t0:w1.cell? ⟨w.heap.size,0,none⟩=some (.int .i64 t.1):=(hb1.cell (p:=⟨w.heap.size,0,none⟩) (by simp<;>omega)).trans (by simp[go_sem,World.cell?_alloc_past]);have t1:w1.cell? ⟨w.heap.size,1,none⟩=some (.int .i64 t.2):=(hb1.cell (p:=⟨w.heap.size,1,none⟩) (by simp<;>omega)).trans (by simp[go_sem,World.cell?_alloc_past]);have r0:w1.cell? ⟨w.heap.size+1,0,none⟩=some (.int .i64 0):=(hb1.cell (p:=⟨w.heap.size+1,0,none⟩) (by simp<;>omega)).trans (by simp[go_sem]);have r1:w1.cell? ⟨w.heap.size+1,1,none⟩=some (.int .i64 0):=(hb1.cell (p:=⟨w.heap.size+1,1,none⟩) (by simp<;>omega)).trans (by simp[go_sem]);have r2:w1.frozen? ⟨w.heap.size+1,0,none⟩=false:=(hb1.frozen (p:=⟨w.heap.size+1,0,none⟩) (by simp<;>omega)).trans (by simp[go_sem]);have r3:w1.frozen? ⟨w.heap.size+1,1,none⟩=false:=(hb1.frozen (p:=⟨w.heap.size+1,1,none⟩) (by simp<;>omega)).trans (by simp[go_sem]);have hB1:Below w.heap.size w w1:=((Aa w (.cells #[.int .i64 t.1,.int .i64 t.2] 49)).alloc (by simp) (.cells #[.int .i64 0,.int .i64 0] 49)).trans (hb1.mono (by simp<;>omega));have z1:=wl r0;simp only at z1)
    | (go_at_call 68;go_fit (Df t.1 t.2 _);rintro e w2 ⟨rfl,hb2⟩;rw[HVT.out];have hB2:=hB1.trans (hb2.mono hB1.size);have T0:=(ct hb2 t0 (by simp;omega));have T1:=(ct hb2 t1 (by simp;omega));have R0:=(ct hb2 r0 z1);have R1:=(ct hb2 r1 z1);have R2:=(hb2.frozen (p:=⟨w.heap.size+1,0,none⟩) z1).trans r2;have R3:=(hb2.frozen (p:=⟨w.heap.size+1,1,none⟩) z1).trans r3;have z2:=wl R0;simp only at z2;have zz:w.heap.size<w2.heap.size:=(by omega);clear t0 t1 r0 r1 r2 r3 hb1 hb2)
    | (go_at_call 69;have W20:Below w2.heap.size w2 (w2.alloc (.cells #[.int .i64 0] 132)):=Aa _ _;have hB3:=hB2.trans (W20.mono hB2.size);go_fit (Yz L HOK.out t HTT.out (some ⟨b,off,none⟩) c _ (HL.out.grow hB3));rw[HK.out];rintro e w4 ⟨rfl,hb4⟩;have hB4:=hB3.trans (hb4.mono hB3.size);have hb5:=W20.trans (hb4.mono W20.size);have S0:w4.cell? ⟨w2.heap.size,0,none⟩=some (.int .i64 0):=(hb4.cell (p:=⟨w2.heap.size,0,none⟩) (by simp)).trans (by simp);have S1:w4.frozen? ⟨w2.heap.size,0,none⟩=false:=(hb4.frozen (p:=⟨w2.heap.size,0,none⟩) (by simp)).trans (by simp);have t0:=(ct hb5 T0 (by simp;omega));have t1:=(ct hb5 T1 (by simp;omega));have r0:=(ct hb5 R0 z2);have r1:=(ct hb5 R1 z2);have r2:=(hb5.frozen (p:=⟨w.heap.size+1,0,none⟩) z2).trans R2;have r3:=(hb5.frozen (p:=⟨w.heap.size+1,1,none⟩) z2).trans R3;have hBs4:w2.heap.size<w4.heap.size:=wl S0;clear T0 T1 R0 R1 R2 R3 hb4 hb5 W20 hB3))
   have T0:=t0;have T1:=t1;have R0:=r0;have R1:=r1;have R2:=r2;have R3:=r3;clear t0 t1 r0 r1 r2 r3;obtain⟨Bs,hBB⟩:=nm (w2.heap.size);simp only[hBB]at S0 S1 hBs4 z2⊢;clear hBB;generalize w4=W0 at *;obtain⟨c0,c1,c2,c3,c4,c5,c6,c7⟩:=HC.out;have d0:=(ct hB4 c0 hb);have d1:=(ct hB4 c1 hb);have d2:=(ct hB4 c2 hb);have d3:=(ct hB4 c3 hb);have d4:=(ct hB4 c4 hb);have d5:=(ct hB4 c5 hb);have d6:=(ct hB4 c6 hb);have d7:=(ct hB4 c7 hb);clear c0 c1 c2 c3 c4 c5 c6 c7
   have HX:Hid (∀x w',Sm Bs x W0 w'→W0.heap.size≤w'.heap.size∧w'.cell? ⟨b,off+i*8,none⟩=some (.int .i64 (Al L i).f0)∧w'.cell? ⟨b,off+i*8+1,none⟩=some (.int .i64 (Al L i).f1)∧w'.cell? ⟨b,off+i*8+2,none⟩=some (.int .i64 (Al L i).a0)∧w'.cell? ⟨b,off+i*8+3,none⟩=some (.int .i64 (Al L i).a1)∧w'.cell? ⟨b,off+i*8+4,none⟩=some (.int .i64 (Al L i).b0)∧w'.cell? ⟨b,off+i*8+5,none⟩=some (.int .i64 (Al L i).b1)∧w'.cell? ⟨b,off+i*8+6,none⟩=some (.int .i64 (Al L i).c0)∧w'.cell? ⟨b,off+i*8+7,none⟩=some (.int .i64 (Al L i).c1)∧w'.cell? ⟨w.heap.size,0,none⟩=some (.int .i64 t.1)∧w'.cell? ⟨w.heap.size,1,none⟩=some (.int .i64 t.2)):=lh fun x w' h=>
    ⟨h.size,(h.other (p:=⟨b,off+i*8,none⟩) (by simp;omega) (by simp;omega)).trans d0,(h.other (p:=⟨b,off+i*8+1,none⟩) (by simp;omega) (by simp;omega)).trans d1,(h.other (p:=⟨b,off+i*8+2,none⟩) (by simp;omega) (by simp;omega)).trans d2,(h.other (p:=⟨b,off+i*8+3,none⟩) (by simp;omega) (by simp;omega)).trans d3,(h.other (p:=⟨b,off+i*8+4,none⟩) (by simp;omega) (by simp;omega)).trans d4,(h.other (p:=⟨b,off+i*8+5,none⟩) (by simp;omega) (by simp;omega)).trans d5,(h.other (p:=⟨b,off+i*8+6,none⟩) (by simp;omega) (by simp;omega)).trans d6,(h.other (p:=⟨b,off+i*8+7,none⟩) (by simp;omega) (by simp;omega)).trans d7,(h.other (p:=⟨w.heap.size,0,none⟩) (by simp;omega) (by simp;omega)).trans T0,(h.other (p:=⟨w.heap.size,1,none⟩) (by simp;omega) (by simp;omega)).trans T1⟩
   have HY:Hid (∀x w',Sm Bs x W0 w'→w'.cell? ⟨w.heap.size+1,0,none⟩=some (.int .i64 0)∧w'.cell? ⟨w.heap.size+1,1,none⟩=some (.int .i64 0)∧w'.frozen? ⟨w.heap.size+1,0,none⟩=false∧w'.frozen? ⟨w.heap.size+1,1,none⟩=false):=lh fun x w' h=>
    ⟨(h.other (p:=⟨w.heap.size+1,0,none⟩) (by simp;omega) (by simp;omega)).trans R0,(h.other (p:=⟨w.heap.size+1,1,none⟩) (by simp;omega) (by simp;omega)).trans R1,(h.otherF (p:=⟨w.heap.size+1,0,none⟩) (by simp;omega) (by simp;omega)).trans R2,(h.otherF (p:=⟨w.heap.size+1,1,none⟩) (by simp;omega) (by simp;omega)).trans R3⟩
   have HZs:Hid (∀x w',Sm Bs x W0 w'→∀v0 v1,(fun w'=>W0.heap.size≤w'.heap.size∧w'.cell? ⟨b,off+i*8,none⟩=some (.int .i64 (Al L i).f0)∧w'.cell? ⟨b,off+i*8+1,none⟩=some (.int .i64 (Al L i).f1)∧w'.cell? ⟨b,off+i*8+2,none⟩=some (.int .i64 (Al L i).a0)∧w'.cell? ⟨b,off+i*8+3,none⟩=some (.int .i64 (Al L i).a1)∧w'.cell? ⟨b,off+i*8+4,none⟩=some (.int .i64 (Al L i).b0)∧w'.cell? ⟨b,off+i*8+5,none⟩=some (.int .i64 (Al L i).b1)∧w'.cell? ⟨b,off+i*8+6,none⟩=some (.int .i64 (Al L i).c0)∧w'.cell? ⟨b,off+i*8+7,none⟩=some (.int .i64 (Al L i).c1)∧w'.cell? ⟨w.heap.size,0,none⟩=some (.int .i64 t.1)∧w'.cell? ⟨w.heap.size,1,none⟩=some (.int .i64 t.2)) ((w'.setCell ⟨w.heap.size+1,0,none⟩ v0).setCell ⟨w.heap.size+1,1,none⟩ v1)):=lh fun x w' h v0 v1=>by
    obtain⟨h0,h1,h2,h3,h4,h5,h6,h7,h8,h9,h10⟩:=HX.out x w' h;refine⟨by simpa using h0,?_,?_,?_,?_,?_,?_,?_,?_,?_,?_⟩
    all_goals (refine(Ch (by omega) _ _ _).trans ?_;assumption)
   have hsd:Sm Bs 0 W0 W0.drew:=(Sm.refl S0 S1).drew;clear S0 S1 T0 T1 R0 R1 R2 R3 d0 d1 d2 d3 d4 d5 d6 d7;refine wp_region_held_drew (S:=(fun w'=>W0.heap.size≤w'.heap.size∧w'.cell? ⟨b,off+i*8,none⟩=some (.int .i64 (Al L i).f0)∧w'.cell? ⟨b,off+i*8+1,none⟩=some (.int .i64 (Al L i).f1)∧w'.cell? ⟨b,off+i*8+2,none⟩=some (.int .i64 (Al L i).a0)∧w'.cell? ⟨b,off+i*8+3,none⟩=some (.int .i64 (Al L i).a1)∧w'.cell? ⟨b,off+i*8+4,none⟩=some (.int .i64 (Al L i).b0)∧w'.cell? ⟨b,off+i*8+5,none⟩=some (.int .i64 (Al L i).b1)∧w'.cell? ⟨b,off+i*8+6,none⟩=some (.int .i64 (Al L i).c0)∧w'.cell? ⟨b,off+i*8+7,none⟩=some (.int .i64 (Al L i).c1)∧w'.cell? ⟨w.heap.size,0,none⟩=some (.int .i64 t.1)∧w'.cell? ⟨w.heap.size,1,none⟩=some (.int .i64 t.2))) (by kernel_rfl) (HX.out _ _ hsd) (fun hHeld=>?_);refine tkB 0 ?_;simp only[Act.put,Co,Cp,Cn,Ba,Az];refine tk 1 ?_;refine tk 2 ?_;refine tk 3 ?_;refine tk 4 ?_;refine tk 5 ?_;refine tk 6 ?_;refine tk 7 ?_;refine tk 8 ?_;refine tk 9 ?_;refine tk 10 ?_;refine tk 11 ?_;refine tk 12 ?_;refine r1 13 (fun K hK=>?_)
   try simp only[Ba,Bc,Az]
   go_simp
   (go_at_call 62;go_split_ands;go_fit (HC1.out _ _ hsd.cell hsd.free);rintro z w5 ⟨rfl,ht1⟩;have hs1:=hsd.trans ht1)
   go_wp2_with fail
   refine hK.out _ _ (HX.out _ _ hs1) (fun hHeld=>?_);clear hK K
   try simp only[Act.put,Co,Cp,Cn,Ba,Bc,Az]
   refine r1 14 (fun K hK=>?_)
   try simp only[Ba,Bc,Az]
   go_simp
   (go_at_call 63;go_split_ands;go_fit (HC2.out _ _ hs1.cell hs1.free);rintro z w6 ⟨rfl,ht2⟩;have hs2:=hs1.trans ht2)
   go_wp2_with fail
   refine hK.out _ _ (HX.out _ _ hs2) (fun hHeld=>?_);clear hK K
   try simp only[Act.put,Co,Cp,Cn,Ba,Bc,Az]
   refine r1 15 (fun K hK=>?_)
   try simp only[Ba,Bc,Az]
   go_simp
   (go_at_call 70;go_split_ands;go_fit (HC3.out _ _ hs2.cell);rintro z w7 ⟨rfl,hb7⟩;have hs3:=hs2.then hb7)
   go_wp2_with fail
   refine hK.out _ _ (HX.out _ _ hs3) (fun hHeld=>?_);clear hK K
   try simp only[Act.put,Co,Cp,Cn,Ba,Bc,Az]
   refine tk 16 ?_;refine tk 17 ?_;refine r1 18 (fun K hK=>?_);go_split_ands;obtain⟨g0,g1,g2,g3⟩:=HY.out _ _ hs3
   try simp only[Ba,Bc,Az]
   go_wp2_with fail
   refine hK.out _ _ (HZs.out _ _ hs3 _ _) (fun hHeld=>?_);clear hK K
   try simp only[Act.put,Co,Cp,Cn,Ba,Bc,Az]
   refine tk 19 ?_;refine wpAnyH_done (by kernel_rfl) ?_ _
   go_wp2_with fail
   have l0:=(Ag (v0:=.int .i64 q1) (v1:=.int .i64 q2) g0 g1).1;have l1:=(Ag (v0:=.int .i64 q1) (v1:=.int .i64 q2) g0 g1).2;refine bodyPost_ret (v:=.tuple #[.agg #[.int .i64 q1,.int .i64 q2],.int .i64 K2.2]) (by simp[results,Tryz.results39,go_sem,l0,l1]) rfl ⟨rfl,?_⟩;have hB5:=hB4.trans (hs3.below (n:=w.heap.size) (by omega) (by omega));exact(hB5.setCell (p:=⟨w.heap.size+1,0,none⟩) (Nat.le_succ _) _).setCell (p:=⟨w.heap.size+1,1,none⟩) (Nat.le_succ _) _
end
section
def zMv:Mv:=⟨⟨#[]⟩,0,0,0,0⟩
def mvI(M:List Mv)(s:ByteArray):Int:=Gw M (fun y=>decide (y.name=s))
def mvB(M:List Mv)(s:ByteArray):Bool:=decide (0≤mvI M s)
def Oo(M:List Mv)(s:ByteArray):Mv:=if mvI M s<0 then zMv else mg M (mvI M s).toNat
theorem ASx{M:List Mv}{s:ByteArray}(h:mvI M s=-1):mvB M s=false∧Oo M s=zMv:=by
 unfold mvB Oo;rw[h];exact⟨rfl,rfl⟩
theorem AOs{M:List Mv}{s:ByteArray}{k:Nat}(h:mvI M s=k):mvB M s=true∧Oo M s=mg M k:=by
 unfold mvB Oo;rw[h];exact⟨dT (Int.natCast_nonneg k),by rw[if_neg (by omega)];rfl⟩
def Pg(C:List An)(S N:List Int)(i k j:Nat):Prop:=mvB (cg C k).moves (mg (cg C i).moves j).name=true→ig S k+ig N k≤ig S i
def Tf(C:List An)(S N:List Int):Prop:=∀i,i<C.length→∀k,k<i→∀j,j<(cg C i).moves.length→Pg C S N i k j
noncomputable def Nu(C:List An)(S N:List Int):Bool:=@decide (Tf C S N) (Classical.propDecidable _)
theorem Ti{C:List An}{S N:List Int}:Nu C S N=true↔Tf C S N:=by exact @decide_eq_true_iff (Tf C S N) (Classical.propDecidable _)
theorem AQu{C:List An}{S N:List Int}(n:¬Tf C S N):Nu C S N=false:=by
 cases h:Nu C S N
 ·rfl
 ·exact absurd (Ti.1 h) n
def zPc:Pc:=⟨0,0,0,0,0,0,0,0⟩
def Ep(x:Pc)(s z:Int)(up:Bool):Pc×Int:=
 let f:=Jn (Ay s 1000) (Ar s 1000) x.f0 x.f1
 if f.2.2=0 then
  let a:=Jn z 1 (if up then x.a0 else -x.a0) x.a1
  (⟨f.1,f.2.1,a.1,a.2.1,if up then x.b0 else -x.b0,x.b1,if up then x.c0 else -x.c0,x.c1⟩,a.2.2)
 else(zPc,f.2.2)
def AIa(out:List Pc):Pc:=Al out (out.length-1)
def Rb(out:List Pc)(y:Pc):List Pc:=if(AIa out).f0=y.f0∧(AIa out).f1=y.f1 then out.set (out.length-1) y else out++[y]
def Ea(s z:Int)(up:Bool)(out W:List Pc):Nat→List Pc×Int
 | 0=>(out,0)
 | k+1=>if(Ea s z up out W k).2=0 then(if(Ep (Al W k) s z up).2=0 then(Rb (Ea s z up out W k).1 (Ep (Al W k) s z up).1,0)else([],(Ep (Al W k) s z up).2))else Ea s z up out W k
noncomputable def Cq(h:Ae)(C:List An)(S:List Int)(k:Nat):Nat→List Pc×Int
 | 0=>([⟨0,1,(hg h.sets k).high,1,0,1,0,1⟩],0)
 | n+1=>
  let r:=Cq h C S k n
  let m:=Oo (cg C n).moves (hg h.sets k).name
  let z:=ig (Ez h C n) k
  if r.2=0∧mvB (cg C n).moves (hg h.sets k).name=true∧m.to≠z then
   let d:=if z≤m.to then m.to-z else z-m.to
   let W:=Dg d m.rise m.fall (Lb d m)
   Ea (ig S n) z (decide (z<m.to)) r.1 W W.length
  else r
noncomputable def He(h:Ae)(C:List An)(S:List Int)(k:Nat):List Pc×Int:=
 if(Cq h C S k C.length).2=0 then(if 200<(Cq h C S k C.length).1.length then([],4)else Cq h C S k C.length)else([],(Cq h C S k C.length).2)
theorem ARs(out:List Pc)(y:Pc):0<(Rb out y).length∧(Rb out y).length≤out.length+1∧out.length≤(Rb out y).length∨out.length=0∧(Rb out y).length≤out.length+1∧out.length≤(Rb out y).length:=by
 unfold Rb
 split
 ·rw[List.length_set];omega
 ·rw[List.length_append];simp
theorem Ud(s z:Int)(up:Bool)(out W:List Pc):∀k,(Ea s z up out W k).2=0→out.length≤(Ea s z up out W k).1.length∧(Ea s z up out W k).1.length≤out.length+k
 | 0,_=>by simp[Ea]
 | k+1,h=>by
  simp only[Ea]at h⊢
  by_cases a:(Ea s z up out W k).2=0
  ·rw[if_pos a]at h⊢
   have ih:=Ud s z up out W k a
   by_cases b:(Ep (Al W k) s z up).2=0
   ·rw[if_pos b]at h⊢
    have p:=ARs (Ea s z up out W k).1 (Ep (Al W k) s z up).1;show _≤(Rb _ _).length∧(Rb _ _).length≤_;omega
   ·rw[if_neg b]at h;exact absurd h b
  ·rw[if_neg a]at h;exact absurd h a
theorem Zr{s z:Int}{up:Bool}{out W:List Pc}{k:Nat}(h:(Ea s z up out W k).2≠0):∀n,k≤n→Ea s z up out W n=Ea s z up out W k
 | 0,hn=>by
  obtain rfl:k=0:=by omega
  rfl
 | n+1,hn=>by
  rcases Nat.lt_or_ge n k with l | l
  ·obtain rfl:k=n+1:=by omega
   rfl
  ·have ih:=Zr h n l
   rw[Ea,ih,if_neg h]
theorem AHm{s z:Int}{up:Bool}{out W:List Pc}{k:Nat}(h:(Ea s z up out W k).2=0)(e:(Ep (Al W k) s z up).2≠0):Ea s z up out W (k+1)=([],(Ep (Al W k) s z up).2):=by
 rw[Ea,if_pos h,if_neg e]
theorem AFw{s z:Int}{up:Bool}{out W:List Pc}{k:Nat}(h:(Ea s z up out W k).2=0)(e:(Ep (Al W k) s z up).2=0):Ea s z up out W (k+1)=(Rb (Ea s z up out W k).1 (Ep (Al W k) s z up).1,0):=by
 rw[Ea,if_pos h,if_pos e]
theorem Qz{h:Ae}{C:List An}{S:List Int}{k n:Nat}(e:(Cq h C S k n).2≠0):∀m,n≤m→Cq h C S k m=Cq h C S k n
 | 0,hn=>by
  obtain rfl:n=0:=by omega
  rfl
 | m+1,hn=>by
  rcases Nat.lt_or_ge m n with l | l
  ·obtain rfl:n=m+1:=by omega
   rfl
  ·have ih:=Qz e m l
   rw[Cq,ih];exact if_neg (fun q=>e q.1)
theorem Ol{h:Ae}{C:List An}{S:List Int}{k n:Nat}(e:mvB (cg C n).moves (hg h.sets k).name=false∨(Oo (cg C n).moves (hg h.sets k).name).to=ig (Ez h C n) k):Cq h C S k (n+1)=Cq h C S k n:=by
 rw[Cq];refine if_neg (fun q=>?_);rcases e with e | e
 ·rw[e]at q;exact absurd q.2.1 (by decide)
 ·exact q.2.2 e
theorem Tw{h:Ae}{C:List An}{S:List Int}{k n:Nat}{m:Mv}{z d:Int}{W:List Pc}(e:(Cq h C S k n).2=0)(b:mvB (cg C n).moves (hg h.sets k).name=true)(hm:Oo (cg C n).moves (hg h.sets k).name=m)(hz:ig (Ez h C n) k=z)(ne:m.to≠z)(hd:(if z≤m.to then m.to-z else z-m.to)=d)(hW:Dg d m.rise m.fall (Lb d m)=W):
  Cq h C S k (n+1)=Ea (ig S n) z (decide (z<m.to)) (Cq h C S k n).1 W W.length:=by
 rw[Cq];simp only[hm,hz,hd,hW];exact if_pos ⟨e,b,ne⟩
theorem Xe(d R F t:Int):(Dg d R F t).length≤4:=by
 unfold Dg
 split
 ·simp
 ·split<;>simp
theorem Lc(h:Ae)(C:List An)(S:List Int)(k:Nat):∀n,(Cq h C S k n).2=0→1≤(Cq h C S k n).1.length∧(Cq h C S k n).1.length≤1+4*n
 | 0,_=>by simp[Cq]
 | n+1,e=>by
  by_cases a:(Cq h C S k n).2=0
  ·have ih:=Lc h C S k n a
   by_cases b:mvB (cg C n).moves (hg h.sets k).name=true
   ·by_cases c:(Oo (cg C n).moves (hg h.sets k).name).to=ig (Ez h C n) k
    ·rw[Ol (.inr c)];omega
    ·have g:=Tw (S:=S) a b rfl rfl c rfl rfl
     rw[g]at e⊢;have l:=Ud _ _ _ _ _ _ e;have m:=Xe (if ig (Ez h C n) k≤(Oo (cg C n).moves (hg h.sets k).name).to then(Oo (cg C n).moves (hg h.sets k).name).to-ig (Ez h C n) k else ig (Ez h C n) k-(Oo (cg C n).moves (hg h.sets k).name).to) (Oo (cg C n).moves (hg h.sets k).name).rise (Oo (cg C n).moves (hg h.sets k).name).fall (Lb (if ig (Ez h C n) k≤(Oo (cg C n).moves (hg h.sets k).name).to then(Oo (cg C n).moves (hg h.sets k).name).to-ig (Ez h C n) k else ig (Ez h C n) k-(Oo (cg C n).moves (hg h.sets k).name).to) (Oo (cg C n).moves (hg h.sets k).name));omega
   ·rw[Ol (.inl (Bool.eq_false_iff.2 b))];omega
  ·rw[Qz a (n+1) (Nat.le_succ n)]at e;exact absurd e a
theorem AMe{h:Ae}{C:List An}{S:List Int}{k n:Nat}(hn:n≤C.length)(e:(Cq h C S k n).2≠0):He h C S k=([],(Cq h C S k n).2):=by
 unfold He;rw[Qz e _ hn,if_neg e]
theorem AFt{h:Ae}{C:List An}{S:List Int}{k:Nat}(e:(Cq h C S k C.length).2=0)(l:200<(Cq h C S k C.length).1.length):He h C S k=([],4):=by
 unfold He;rw[if_pos e,if_pos l]
theorem ACz{h:Ae}{C:List An}{S:List Int}{k:Nat}(e:(Cq h C S k C.length).2=0)(l:¬200<(Cq h C S k C.length).1.length):He h C S k=Cq h C S k C.length:=by
 unfold He;rw[if_pos e,if_neg l]
end
section
open Go.RowKit Go.Shelf
def Ak(w:World)(b:Nat):Nat→List Value→World
 | _,[]=>w
 | j,v::vs=>Ak (w.setCell ⟨b,j,none⟩ v) b (j+1) vs
theorem Dl{m b:Nat}{W:World}:∀(vs:List Value) (w:World) (j:Nat),Below m W w→m≤b→Below m W (Ak w b j vs)
 | [],_,_,h,_=>h
 | v::vs,_,j,h,hb=>Dl vs _ (j+1) (h.setCell (p:=⟨b,j,none⟩) hb v) hb
theorem ADi:∀(vs:List Value) (w:World) (b j i:Nat),i<j→(Ak w b j vs).cell? ⟨b,i,none⟩=w.cell? ⟨b,i,none⟩
 | [],_,_,_,_,_=>rfl
 | v::vs,w,b,j,i,h=>(ADi vs _ b (j+1) i (by omega)).trans (World.cell?_setCell_other _ _ _ _ (by intro q;injection q with _ q;omega))
theorem Po:∀(vs:List Value) (w:World) (b j:Nat),(∀i,i<vs.length→(w.cell? ⟨b,j+i,none⟩).isSome=true)→∀i (h:i<vs.length),(Ak w b j vs).cell? ⟨b,j+i,none⟩=some vs[i]
 | [],_,_,_,_,i,h=>absurd h (Nat.not_lt_zero _)
 | v::vs,w,b,j,hs,i,h=>by
  have h0:=hs 0 (by simp);obtain⟨u,hu⟩:=Option.isSome_iff_exists.1 h0
  match i,h with
  | 0,_=>exact(ADi vs _ b (j+1) (j+0) (by omega)).trans (World.cell?_setCell_same _ _ _ hu)
  | i+1,h=>
   have:=Po vs (w.setCell ⟨b,j,none⟩ v) b (j+1) (fun k hk=>by
    rw[World.cell?_setCell_other _ _ _ _ (by intro q;injection q with _ q;omega),show j+1+k=j+(k+1)by omega];exact hs (k+1) (by simpa using hk)) i (by simpa using h)
   rw[show j+(i+1)=j+1+i by omega];exact this
end
end Go.Proofs.YtebofaenlhhkaaaGreat
