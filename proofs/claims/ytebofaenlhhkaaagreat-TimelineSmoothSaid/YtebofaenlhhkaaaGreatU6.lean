/-
  THE WALK of ratio.Add, where the sum of the magnitudes is below 2^64.
-/
import Derived.RegionTactic
import Derived.IntWalk
import Derived.Outline
import Derived.Deep.DeepCutAuto
import Derived.Test.YtebofaenlhhkaaaGreatU5
namespace Go.Proofs.YtebofaenlhhkaaaGreat
set_option maxRecDepth 100000
set_option maxHeartbeats 80000000
section
open Go.RowKit Go.Shelf
def fitP(p q:Int):Int×Int×Int:=if 1152921504606846976<p.natAbs∨1152921504606846976<q then(0,0,5)else(p,q,0)
theorem sign_fit{neg:Bool}{p q:Int}(h:neg=decide (p<0)):signP neg (p.natAbs:Int) q=fitP p q:=by
 unfold signP fitP
 by_cases c:1152921504606846976<p.natAbs∨1152921504606846976<q
 ·have c':(1152921504606846976:Int)<(p.natAbs:Int)∨1152921504606846976<q:=by omega
  rw[if_pos c,if_pos c']
 ·have c':¬((1152921504606846976:Int)<(p.natAbs:Int)∨1152921504606846976<q):=by omega
  rw[if_neg c,if_neg c'];subst h
  by_cases d:p<0
  ·rw[if_pos (decide_eq_true d),show -(p.natAbs:Int)=p by omega]
  ·rw[if_neg (by simpa using d),show(p.natAbs:Int)=p by omega]

def addP(an ad bn bd:Int):Int×Int×Int:=fitP (lowN (an*bd+bn*ad) (ad*bd)) (lowD (an*bd+bn*ad) (ad*bd))
theorem mag_cases(an qb x:Int)(h:(an.natAbs:Int)*qb=x):an<0∧an*qb=-x∨¬an<0∧an*qb=x:=by
 by_cases c:an<0
 ·refine .inl ⟨c,?_⟩
  rw[←h,show(an.natAbs:Int)=-an by omega,Int.neg_mul];omega
 ·refine .inr ⟨c,?_⟩
  rw[←h,show(an.natAbs:Int)=an by omega]
theorem add_plain{an ad bn bd g qa qb S c nS:Int}{ng:Bool}(ha:0<ad)(hb:0<bd)(ca:Int.gcd an ad=1)(cb:Int.gcd bn bd=1)(hg:(Int.gcd ad bd:Int)=g)(hqa:ad/g=qa)(hqb:bd/g=qb)(hS:S=an*qb+bn*qa)(hn:nS=(S.natAbs:Int))(hc:(Int.gcd g (nS%g):Int)=c)(hng:nS≠0→ng=decide (S<0))(h0:nS≠0):
  signP ng (nS/c) (qa*(bd/c))=fitP (lowN (an*bd+bn*ad) (ad*bd)) (lowD (an*bd+bn*ad) (ad*bd)):=by
 have e:Int.gcd g (nS%g)=Int.gcd g S:=by
  have h:nS%g=nS-g*(nS/g):=by have:=Int.mul_ediv_add_emod nS g;omega
  rw[h,Int.gcd_sub_mul_left_right,hn]
  simp[Int.gcd]
 have gp:0<g:=by rw[←hg];exact gcd_posR hb
 have hc':c=(Int.gcd g S:Int):=by rw[←hc,e]
 have cp:0<c:=by rw[hc'];have:=Int.gcd_pos_of_ne_zero_left (a:=g) S (by omega);omega
 obtain⟨h1,h2⟩:=sum_low ha hb ca cb g hg.symm S c (by rw[hS,hqa,hqb]) hc';rw[←h1,←h2,hqa];obtain⟨s,es⟩:c∣S:=by rw[hc'];exact Int.gcd_dvd_right g S
 have q:S/c=s:=by rw[es];exact Int.mul_ediv_cancel_left _ (by omega)
 have q2:nS/c=(s.natAbs:Int):=by
  rw[hn,es,Int.natAbs_mul];have:((c.natAbs*s.natAbs:Nat):Int)=c*(s.natAbs:Int):=by rw[Int.natCast_mul];rw[show(c.natAbs:Int)=c by omega]
  rw[this];exact Int.mul_ediv_cancel_left _ (by omega)
 rw[q,q2];refine sign_fit ?_;rw[hng h0]
 have:S<0↔s<0:=by
  rw[es]
  constructor
  ·intro l
   rcases Int.lt_or_le s 0 with k | k
   ·exact k
   ·have:=Int.mul_nonneg (Int.le_of_lt cp) k;omega
  ·intro l
   exact Int.mul_neg_of_pos_of_neg cp l
 simp[this]
theorem add_zero{an ad bn bd g qa qb S nS:Int}(ha:0<ad)(hb:0<bd)(hg:(Int.gcd ad bd:Int)=g)(hqa:ad/g=qa)(hqb:bd/g=qb)(hS:S=an*qb+bn*qa)(hn:nS=(S.natAbs:Int))(h0:nS=0):
  (0,1,0)=fitP (lowN (an*bd+bn*ad) (ad*bd)) (lowD (an*bd+bn*ad) (ad*bd)):=by
 have gp:0<g:=by rw[←hg];exact gcd_posR hb
 have s0:an*qb+bn*qa=0:=by omega
 have e1:bd=qb*g:=by rw[←hqb];exact(Int.ediv_mul_cancel (by rw[←hg];exact Int.gcd_dvd_right _ _)).symm
 have e2:ad=qa*g:=by rw[←hqa];exact(Int.ediv_mul_cancel (by rw[←hg];exact Int.gcd_dvd_left _ _)).symm
 have:an*bd+bn*ad=0:=by
  rw[e1,e2,←Int.mul_assoc,←Int.mul_assoc,←Int.add_mul,s0,Int.zero_mul]
 rw[this,(low_zero (Int.mul_pos ha hb)).1,(low_zero (Int.mul_pos ha hb)).2]
 rfl

def NewF(w:World)(b:Nat):Prop:=w.cell? ⟨b,0,none⟩=some (.int .u64 0)∧w.cell? ⟨b,1,none⟩=some (.int .u64 0)∧w.frozen? ⟨b,0,none⟩=false∧w.frozen? ⟨b,1,none⟩=false∧b<w.heap.size
theorem carry{W w:World}{b:Nat}(h:Below W.heap.size W w)(f:NewF W b):NewF w b:=
 ⟨(h.cell (p:=⟨b,0,none⟩) f.2.2.2.2).trans f.1,(h.cell (p:=⟨b,1,none⟩) f.2.2.2.2).trans f.2.1,(h.frozen (p:=⟨b,0,none⟩) f.2.2.2.2).trans f.2.2.1,(h.frozen (p:=⟨b,1,none⟩) f.2.2.2.2).trans f.2.2.2.1,Nat.lt_of_lt_of_le f.2.2.2.2 h.size⟩
theorem newF(W:World)(ty:TypeId):NewF (W.alloc (.cells #[.int .u64 0,.int .u64 0] ty)) W.heap.size:=⟨by simp,by simp,by simp,by simp,by simp⟩
theorem new1{W w:World}{ty:TypeId}(h:Below (W.alloc (.cells #[.int .u64 0,.int .u64 0] ty)).heap.size (W.alloc (.cells #[.int .u64 0,.int .u64 0] ty)) w):NewF w W.heap.size:=carry h (newF W ty)
theorem new2{W w:World}{ty:TypeId}(h:Below ((W.alloc (.cells #[.int .u64 0,.int .u64 0] ty)).alloc (.cells #[.int .u64 0,.int .u64 0] ty)).heap.size ((W.alloc (.cells #[.int .u64 0,.int .u64 0] ty)).alloc (.cells #[.int .u64 0,.int .u64 0] ty)) w):NewF w W.heap.size∧NewF w (W.heap.size+1):=
 ⟨carry h (carry (below_new _ _) (newF W ty)),by have:=carry h (newF (W.alloc (.cells #[.int .u64 0,.int .u64 0] ty)) ty);rwa [World.size_alloc]at this⟩
theorem new1D{W w:World}{ty:TypeId}(h:Below (W.alloc (.cells #[.int .u64 0,.int .u64 0] ty)).drew.heap.size (W.alloc (.cells #[.int .u64 0,.int .u64 0] ty)).drew w):NewF w W.heap.size:=new1 (ty:=ty) ⟨h.os,h.tape,h.output,h.size,h.block⟩
theorem new2D{W w:World}{ty:TypeId}(h:Below ((W.alloc (.cells #[.int .u64 0,.int .u64 0] ty)).alloc (.cells #[.int .u64 0,.int .u64 0] ty)).drew.heap.size ((W.alloc (.cells #[.int .u64 0,.int .u64 0] ty)).alloc (.cells #[.int .u64 0,.int .u64 0] ty)).drew w):NewF w W.heap.size∧NewF w (W.heap.size+1):=new2 (ty:=ty) ⟨h.os,h.tape,h.output,h.size,h.block⟩
theorem below_s{W w:World}(p:Addr)(u:Value)(h:Below W.heap.size W w)(hp:W.heap.size≤p.block):Below W.heap.size W (w.setCell p u):=h.setCell hp u
theorem below_a{W w:World}(o:Obj)(h:Below W.heap.size W w):Below W.heap.size W (w.alloc o):=h.alloc h.size o

def Rel78(W0:World)(B7 B8:Nat)(x y:Int)(wx:World):Prop:=W0.heap.size≤B7∧W0.heap.size≤B8∧Below W0.heap.size W0 wx∧wx.cell? ⟨B7,0,none⟩=some (.int .u64 0)∧wx.cell? ⟨B7,1,none⟩=some (.int .u64 x)∧wx.cell? ⟨B8,0,none⟩=some (.int .u64 0)∧wx.cell? ⟨B8,1,none⟩=some (.int .u64 y)
theorem Rel78.swap{W0:World}{B7 B8:Nat}{x y:Int}{wx:World}(h:Rel78 W0 B7 B8 x y wx):Rel78 W0 B8 B7 y x wx:=⟨h.2.1,h.1,h.2.2.1,h.2.2.2.2.2.1,h.2.2.2.2.2.2,h.2.2.2.1,h.2.2.2.2.1⟩
theorem rel1{W0 w:World}(x y:Int)(t:TypeId)(h:Below W0.heap.size W0 w):Rel78 W0 w.heap.size (w.heap.size+1) x y ((w.alloc (.cells #[.int .u64 0,.int .u64 x] t)).alloc (.cells #[.int .u64 0,.int .u64 y] t)):=
 ⟨h.size,Nat.le_succ_of_le h.size,below_a _ (below_a _ h),by simp,by simp,by simp,by simp⟩
theorem two_cells{w:World}{B:Nat}{v0 v1 u0 u1:Value}(f0:w.cell? ⟨B,0,none⟩=some u0)(f1:w.cell? ⟨B,1,none⟩=some u1):((w.setCell ⟨B,0,none⟩ v0).setCell ⟨B,1,none⟩ v1).cell? ⟨B,0,none⟩=some v0∧((w.setCell ⟨B,0,none⟩ v0).setCell ⟨B,1,none⟩ v1).cell? ⟨B,1,none⟩=some v1:=by
 have s0:=World.cell?_setCell_same w ⟨B,0,none⟩ v0 f0;have s1:(w.setCell ⟨B,0,none⟩ v0).cell? ⟨B,1,none⟩=some u1:=(World.cell?_setCell_other _ _ _ _ (fun x=>absurd (congrArg Addr.off x) (by simp))).trans f1;exact⟨(World.cell?_setCell_other _ _ _ _ (fun x=>absurd (congrArg Addr.off x) (by simp))).trans s0,World.cell?_setCell_same _ _ _ s1⟩
theorem two_other{w:World}{B C:Nat}(h:C≠B)(v0 v1:Value)(i:Nat):((w.setCell ⟨B,0,none⟩ v0).setCell ⟨B,1,none⟩ v1).cell? ⟨C,i,none⟩=w.cell? ⟨C,i,none⟩:=
 (World.cell?_setCell_other _ _ _ _ (fun x=>h (congrArg Addr.block x).symm)).trans (World.cell?_setCell_other _ _ _ _ (fun x=>h (congrArg Addr.block x).symm))
theorem new_cells(V:World)(a b:Value)(t:TypeId):(V.alloc (.cells #[a,b] t)).cell? ⟨V.heap.size,0,none⟩=some a∧(V.alloc (.cells #[a,b] t)).cell? ⟨V.heap.size,1,none⟩=some b:=⟨by simp,by simp⟩
theorem rel2{W0 w:World}(B:Nat)(x y:Int)(t:TypeId)(h:Below W0.heap.size W0 w)(f:NewF w B)(hB:W0.heap.size≤B):Rel78 W0 B w.heap.size x y (((w.setCell ⟨B,0,none⟩ (.int .u64 0)).setCell ⟨B,1,none⟩ (.int .u64 x)).alloc (.cells #[.int .u64 0,.int .u64 y] t)):=by
 obtain⟨c0,c1⟩:=two_cells (v0:=.int .u64 0) (v1:=.int .u64 x) f.1 f.2.1;have hl:B<((w.setCell ⟨B,0,none⟩ (.int .u64 0)).setCell ⟨B,1,none⟩ (.int .u64 x)).heap.size:=by simpa using f.2.2.2.2
 have hs:((w.setCell ⟨B,0,none⟩ (.int .u64 0)).setCell ⟨B,1,none⟩ (.int .u64 x)).heap.size=w.heap.size:=by simp
 refine⟨hB,h.size,below_a _ (below_s ⟨B,1,none⟩ _ (below_s ⟨B,0,none⟩ _ h hB) hB),(World.cell?_alloc_lt _ _ _ hl).trans c0,(World.cell?_alloc_lt _ _ _ hl).trans c1,?_⟩;have:=new_cells ((w.setCell ⟨B,0,none⟩ (.int .u64 0)).setCell ⟨B,1,none⟩ (.int .u64 x)) (.int .u64 0) (.int .u64 y) t
 rwa [hs]at this
theorem rel3{W0 w:World}(B C:Nat)(x y:Int)(h:Below W0.heap.size W0 w)(f:NewF w B)(f':NewF w C)(hB:W0.heap.size≤B)(hC:W0.heap.size≤C)(hne:B≠C):Rel78 W0 B C x y ((((w.setCell ⟨B,0,none⟩ (.int .u64 0)).setCell ⟨B,1,none⟩ (.int .u64 x)).setCell ⟨C,0,none⟩ (.int .u64 0)).setCell ⟨C,1,none⟩ (.int .u64 y)):=by
 obtain⟨c0,c1⟩:=two_cells (v0:=.int .u64 0) (v1:=.int .u64 x) f.1 f.2.1;have f2:NewF ((w.setCell ⟨B,0,none⟩ (.int .u64 0)).setCell ⟨B,1,none⟩ (.int .u64 x)) C:=⟨(two_other (Ne.symm hne) _ _ _).trans f'.1,(two_other (Ne.symm hne) _ _ _).trans f'.2.1,by simpa using f'.2.2.1,by simpa using f'.2.2.2.1,by simpa using f'.2.2.2.2⟩;obtain⟨d0,d1⟩:=two_cells (v0:=.int .u64 0) (v1:=.int .u64 y) f2.1 f2.2.1;exact⟨hB,hC,below_s ⟨C,1,none⟩ _ (below_s ⟨C,0,none⟩ _ (below_s ⟨B,1,none⟩ _ (below_s ⟨B,0,none⟩ _ h hB) hB) hC) hC,(two_other hne _ _ _).trans c0,(two_other hne _ _ _).trans c1,d0,d1⟩

theorem add_any(an ad bn bd:Int)(va:validF an ad=true)(vb:validF bn bd=true)(hsum:(an.natAbs:Int)*(bd/(Int.gcd ad bd:Int))+(bn.natAbs:Int)*(ad/(Int.gcd ad bd:Int))<18446744073709551616)(hden:ad*bd<18446744073709551616)(w:World):
  Calls Tryz.prog 124 #[.agg #[.int .i64 an,.int .i64 ad],.agg #[.int .i64 bn,.int .i64 bd]] w fun e w'=>e=.returned (.tuple #[.agg #[.int .i64 (addP an ad bn bd).1,.int .i64 (addP an ad bn bd).2.1],.int .i64 (addP an ad bn bd).2.2])∧Below w.heap.size w w':=by
 obtain⟨P,hP⟩:=nm (addP an ad bn bd);have HPP:=lh hP;rw[hP];clear hP;obtain⟨a1,a2,a3,a4,a5⟩:=(validF_iff _ _).1 va;obtain⟨b1,b2,b3,b4,b5⟩:=(validF_iff _ _).1 vb;have HVA:=lh va;have HVB:=lh vb;obtain⟨g,hg⟩:=nm ((Int.gcd ad bd:Int):Int);rw[hg]at hsum;have HG:=lh hg;have gp:0<g:=by rw[←hg];exact gcd_posR (by omega)
 have g0:¬g=0:=by omega
 have g0':(g==0)=false:=by simpa using g0
 obtain⟨qa,hqa⟩:=nm (ad/g:Int);obtain⟨qb,hqb⟩:=nm (bd/g:Int);rw[hqa,hqb]at hsum;have ga:g∣ad:=by rw[←hg];exact Int.gcd_dvd_left _ _
 have gb:g∣bd:=by rw[←hg];exact Int.gcd_dvd_right _ _
 have qa0:0≤qa:=by rw[←hqa];exact Int.ediv_nonneg (by omega) (by omega)
 have qb0:0≤qb:=by rw[←hqb];exact Int.ediv_nonneg (by omega) (by omega)
 have qa1:qa≤ad:=by rw[←hqa];exact Int.ediv_le_self g (by omega)
 have qb1:qb≤bd:=by rw[←hqb];exact Int.ediv_le_self g (by omega)
 have wa:IntKind.u64.wrap ad=ad:=by rw[IntKind.wrap_u64];omega
 have wb:IntKind.u64.wrap bd=bd:=by rw[IntKind.wrap_u64];omega
 have da:IntKind.u64.wrap (ad.tdiv g)=qa:=by rw[Int.tdiv_eq_ediv_of_nonneg (by omega),hqa,IntKind.wrap_u64];omega
 have db:IntKind.u64.wrap (bd.tdiv g)=qb:=by rw[Int.tdiv_eq_ediv_of_nonneg (by omega),hqb,IntKind.wrap_u64];omega
 obtain⟨na,hna⟩:=nm ((an.natAbs:Int):Int);obtain⟨nb,hnb⟩:=nm ((bn.natAbs:Int):Int);rw[hna,hnb]at hsum;have na0:0≤na:=by omega
 have nb0:0≤nb:=by omega
 have na1:na<18446744073709551616:=by omega
 have nb1:nb<18446744073709551616:=by omega
 obtain⟨x,hx⟩:=nm (na*qb:Int);obtain⟨y,hy⟩:=nm (nb*qa:Int);rw[hx,hy]at hsum;have x0:0≤x:=by rw[←hx];exact Int.mul_nonneg na0 qb0
 have y0:0≤y:=by rw[←hy];exact Int.mul_nonneg nb0 qa0
 have HNA:=lh hna;have HNB:=lh hnb;have HX:=lh hx;have HY:=lh hy;have HQA:=lh hqa;have HQB:=lh hqb;have HGA:=lh ga;have HGB:=lh gb;have HDEN:=lh hden;have HA5:=lh a5;have HB5:=lh b5;have nx:na*qb<18446744073709551616:=by omega
 have ny:nb*qa<18446744073709551616:=by omega
 have HNX:=lh nx;have HNY:=lh ny;clear hg hqa hqb ga gb hna hnb hx hy hden a5 b5 va vb nx ny
 go_enter Tryz.func124,Tryz.ntmps124
 go_upto_region 4 with (first
  | (go_at_call 68;(with_reducible refine(valid_any an ad _).mono ?_);rintro e w1 ⟨rfl,hb1⟩;rw[HVA.out];have z0:w1.cell? ⟨w.heap.size,0,none⟩=some (.int .i64 an):=(hb1.cell (p:=⟨w.heap.size,0,none⟩) (by simp<;>omega)).trans (by simp[go_sem,World.cell?_alloc_past]);have z1:w1.cell? ⟨w.heap.size,1,none⟩=some (.int .i64 ad):=(hb1.cell (p:=⟨w.heap.size,1,none⟩) (by simp<;>omega)).trans (by simp[go_sem,World.cell?_alloc_past]);have z2:w1.cell? ⟨w.heap.size+1,0,none⟩=some (.int .i64 bn):=(hb1.cell (p:=⟨w.heap.size+1,0,none⟩) (by simp<;>omega)).trans (by simp[go_sem,World.cell?_alloc_past]);have z3:w1.cell? ⟨w.heap.size+1,1,none⟩=some (.int .i64 bd):=(hb1.cell (p:=⟨w.heap.size+1,1,none⟩) (by simp<;>omega)).trans (by simp[go_sem,World.cell?_alloc_past]))
  | (go_at_call 68;(with_reducible refine(valid_any bn bd _).mono ?_);rintro e w2 ⟨rfl,hb2⟩;rw[HVB.out];have z5:w2.cell? ⟨w.heap.size,1,none⟩=some (.int .i64 ad):=(hb2.cell (p:=⟨w.heap.size,1,none⟩) (wl z1)).trans z1;have z6:w2.cell? ⟨w.heap.size+1,1,none⟩=some (.int .i64 bd):=(hb2.cell (p:=⟨w.heap.size+1,1,none⟩) (wl z3)).trans z3)
  | (go_at_call 90;(with_reducible refine(gcd_any ad bd (by omega) (by omega) (by omega) (by omega) _).mono ?_);rintro e w3 ⟨rfl,m,rfl⟩;rw[HG.out]))
 have hb3:=below_drewN (hb1.trans (hb2.mono hb1.size)) m;have k0:(w2.drewN m).cell? ⟨w.heap.size,0,none⟩=some (.int .i64 an):=(hb3.cell (p:=⟨w.heap.size,0,none⟩) (by simp<;>omega)).trans (by simp[go_sem,World.cell?_alloc_past]);have k1:(w2.drewN m).cell? ⟨w.heap.size,1,none⟩=some (.int .i64 ad):=(hb3.cell (p:=⟨w.heap.size,1,none⟩) (by simp<;>omega)).trans (by simp[go_sem,World.cell?_alloc_past]);have k2:(w2.drewN m).cell? ⟨w.heap.size+1,0,none⟩=some (.int .i64 bn):=(hb3.cell (p:=⟨w.heap.size+1,0,none⟩) (by simp<;>omega)).trans (by simp[go_sem,World.cell?_alloc_past]);have k3:(w2.drewN m).cell? ⟨w.heap.size+1,1,none⟩=some (.int .i64 bd):=(hb3.cell (p:=⟨w.heap.size+1,1,none⟩) (by simp<;>omega)).trans (by simp[go_sem,World.cell?_alloc_past]);have k4:(w2.drewN m).cell? ⟨w.heap.size+1+1,0,none⟩=some (.int .i64 0):=(hb3.cell (p:=⟨w.heap.size+1+1,0,none⟩) (by simp<;>omega)).trans (by simp[go_sem]);have k5:(w2.drewN m).cell? ⟨w.heap.size+1+1,1,none⟩=some (.int .i64 0):=(hb3.cell (p:=⟨w.heap.size+1+1,1,none⟩) (by simp<;>omega)).trans (by simp[go_sem]);have k6:(w2.drewN m).frozen? ⟨w.heap.size+1+1,0,none⟩=false:=(hb3.frozen (p:=⟨w.heap.size+1+1,0,none⟩) (by simp<;>omega)).trans (by simp[go_sem]);have k7:(w2.drewN m).frozen? ⟨w.heap.size+1+1,1,none⟩=false:=(hb3.frozen (p:=⟨w.heap.size+1+1,1,none⟩) (by simp<;>omega)).trans (by simp[go_sem]);have hW:=(((below_new w (.cells #[.int .i64 an,.int .i64 ad] 49)).alloc (by simp) (.cells #[.int .i64 bn,.int .i64 bd] 49)).alloc (by simp<;>omega) (.cells #[.int .i64 0,.int .i64 0] 49)).trans (hb3.mono (by simp<;>omega));have hz:w.heap.size+1+1<(w2.drewN m).heap.size:=by have:=hb3.size;simp at this⊢;omega
 clear hb3 hb1 hb2 z0 z1 z2 z3 z5 z6;generalize w2.drewN m=W0 at *
 have HK:Hid (∀w',Below W0.heap.size W0 w'→Below w.heap.size w w'∧w'.cell? ⟨w.heap.size,0,none⟩=some (.int .i64 an)∧w'.cell? ⟨w.heap.size,1,none⟩=some (.int .i64 ad)∧w'.cell? ⟨w.heap.size+1,0,none⟩=some (.int .i64 bn)∧w'.cell? ⟨w.heap.size+1,1,none⟩=some (.int .i64 bd)∧w'.cell? ⟨w.heap.size+1+1,0,none⟩=some (.int .i64 0)∧w'.cell? ⟨w.heap.size+1+1,1,none⟩=some (.int .i64 0)∧w'.frozen? ⟨w.heap.size+1+1,0,none⟩=false∧w'.frozen? ⟨w.heap.size+1+1,1,none⟩=false∧w.heap.size+1+1<w'.heap.size):=lh fun w' h=>
  ⟨hW.trans (h.mono (by omega)),(h.cell (p:=⟨w.heap.size,0,none⟩) (by simp<;>omega)).trans k0,(h.cell (p:=⟨w.heap.size,1,none⟩) (by simp<;>omega)).trans k1,(h.cell (p:=⟨w.heap.size+1,0,none⟩) (by simp<;>omega)).trans k2,(h.cell (p:=⟨w.heap.size+1,1,none⟩) (by simp<;>omega)).trans k3,(h.cell (p:=⟨w.heap.size+1+1,0,none⟩) (by simp<;>omega)).trans k4,(h.cell (p:=⟨w.heap.size+1+1,1,none⟩) (by simp<;>omega)).trans k5,(h.frozen (p:=⟨w.heap.size+1+1,0,none⟩) (by simp<;>omega)).trans k6,(h.frozen (p:=⟨w.heap.size+1+1,1,none⟩) (by simp<;>omega)).trans k7,by have:=h.size;omega⟩
 have HS:Hid (∀w',Below W0.heap.size W0 w'→Below W0.heap.size W0 w'∧w'.cell? ⟨w.heap.size,0,none⟩=some (.int .i64 an)∧w'.cell? ⟨w.heap.size,1,none⟩=some (.int .i64 ad)∧w'.cell? ⟨w.heap.size+1,0,none⟩=some (.int .i64 bn)∧w'.cell? ⟨w.heap.size+1,1,none⟩=some (.int .i64 bd)):=lh fun w' h=>
  ⟨h,(HK.out _ h).2.1,(HK.out _ h).2.2.1,(HK.out _ h).2.2.2.1,(HK.out _ h).2.2.2.2.1⟩
 have hb0:=Below.refl W0.heap.size W0;have hbd:=hb0.drew;clear k0 k1 k2 k3 k4 k5 k6 k7 hW
 go_cut [7,8] (fun v7 v8 wx=>∃B7 B8:Nat,v7=.pointer (some ⟨B7,0,none⟩)∧v8=.pointer (some ⟨B8,0,none⟩)∧Rel78 W0 B7 B8 x y wx)
 case first=>
  go_region_held3 (fun w'=>Below W0.heap.size W0 w'∧w'.cell? ⟨w.heap.size,0,none⟩=some (.int .i64 an)∧w'.cell? ⟨w.heap.size,1,none⟩=some (.int .i64 ad)∧w'.cell? ⟨w.heap.size+1,0,none⟩=some (.int .i64 bn)∧w'.cell? ⟨w.heap.size+1,1,none⟩=some (.int .i64 bd))
   (first | exact HS.out _ hb0.drew | (go_split_ands;refine HS.out _ ?_;repeat' (first | assumption | apply below_a | apply Below.drew | (refine below_s _ _ ?_ (Below.size (by assumption))) | (refine below_s _ _ ?_ (Nat.le_succ_of_le (Below.size (by assumption)))))))
   (first
    | (go_at_call 89;go_split_ands;(with_reducible refine(size_any an (by omega) (by omega) _).mono ?_);rintro e w1 ⟨rfl,rfl⟩;rw[HNA.out])
    | (go_at_call 89;go_split_ands;(with_reducible refine(size_any bn (by omega) (by omega) _).mono ?_);rintro e w1 ⟨rfl,rfl⟩;rw[HNB.out])
    | (go_at_call 110;go_split_ands;(with_reducible refine(product_small na qb na0 na1 qb0 (by omega) HNX.out _).mono ?_);rintro e w4 ⟨rfl,hb4⟩;rw[HX.out];have hb5:=held_next (wr:=W0) (by assumption) hb4;first | (have hq:=new2D hb4;obtain⟨⟨c0,c1,c2,c3,c4⟩,⟨d0,d1,d2,d3,d4⟩⟩:=hq) | (have hq:=new1D hb4;obtain⟨c0,c1,c2,c3,c4⟩:=hq) | skip)
    | (go_at_call 110;go_split_ands;(with_reducible refine(product_small nb qa nb0 nb1 qa0 (by omega) HNY.out _).mono ?_);rintro e w5 ⟨rfl,hb6⟩;rw[HY.out];have hb7:=held_next (wr:=W0) (by assumption) hb6;have hv:Below w4.heap.size w4 w5:=(by first | exact hb6 | exact(below_new _ _).trans (hb6.mono (by simp)) | exact((below_new _ _).alloc (by simp) _).trans (hb6.mono (by simp<;>omega)));(first | (have hq:=new2 hb6;obtain⟨⟨e0,e1,e2,e3,e4⟩,⟨f0,f1,f2,f3,f4⟩⟩:=hq) | (have hq:=new1 hb6;obtain⟨e0,e1,e2,e3,e4⟩:=hq) | skip);(first | (have hq:=carry hv ⟨c0,c1,c2,c3,c4⟩;obtain⟨g0,g1,g2,g3,g4⟩:=hq) | skip);(first | (have hq:=carry hv ⟨d0,d1,d2,d3,d4⟩;obtain⟨h0,h1,h2,h3,h4⟩:=hq) | skip)))
  all_goals go_wp2_with fail
  all_goals go_meet
  all_goals refine⟨_,_,rfl,rfl,?_⟩
  all_goals first
   | (with_reducible refine rel1 x y _ ?_);assumption
   | (with_reducible refine(rel1 y x _ ?_).swap);assumption
   | (with_reducible refine rel2 _ x y _ ?_ ?_ ?_);(next=>assumption);(next=>(refine⟨?_,?_,?_,?_,?_⟩<;>assumption));(next=>(first | exact Nat.le_refl _ | exact Nat.le_succ _ | exact Below.size (by assumption) | exact Nat.le_succ_of_le (Below.size (by assumption))))
   | (with_reducible refine(rel2 _ y x _ ?_ ?_ ?_).swap);(next=>assumption);(next=>(refine⟨?_,?_,?_,?_,?_⟩<;>assumption));(next=>(first | exact Nat.le_refl _ | exact Nat.le_succ _ | exact Below.size (by assumption) | exact Nat.le_succ_of_le (Below.size (by assumption))))
   | (with_reducible refine rel3 _ _ x y ?_ ?_ ?_ ?_ ?_ ?_);(next=>assumption);(next=>(refine⟨?_,?_,?_,?_,?_⟩<;>assumption));(next=>(refine⟨?_,?_,?_,?_,?_⟩<;>assumption));(next=>(first | exact Nat.le_refl _ | exact Nat.le_succ _ | exact Below.size (by assumption) | exact Nat.le_succ_of_le (Below.size (by assumption))));(next=>(first | exact Nat.le_refl _ | exact Nat.le_succ _ | exact Below.size (by assumption) | exact Nat.le_succ_of_le (Below.size (by assumption))));(next=>omega)
 case rest=>
  obtain⟨B7,B8,rfl,rfl,hB7,hB8,hBx,x0',x1',x2',x3'⟩:=hcut;obtain⟨W1,rfl⟩:∃W:World,W=wc:=⟨_,rfl⟩;have p7:=wl x0';have p8:=wl x2';simp only at p7 p8;obtain⟨S,hS⟩:∃S:Int,S=an*qb+bn*qa:=⟨_,rfl⟩;obtain⟨nS,hn⟩:∃n:Int,n=(S.natAbs:Int):=⟨_,rfl⟩;have nS0:0≤nS:=by omega
  have MA:=mag_cases an qb x (by rw[HNA.out];exact HX.out);have MB:=mag_cases bn qa y (by rw[HNB.out];exact HY.out);have nSy:nS≤x+y:=by rcases MA with ⟨_,e⟩ | ⟨_,e⟩<;>rcases MB with ⟨_,e'⟩ | ⟨_,e'⟩<;>omega
  have HSS:=lh hS;have HNS:=lh hn;have HMA:=lh MA;have HMB:=lh MB;clear MA MB hS hn
  go_upto_region 5 with (fail)
  go_cut [9,10] (fun v9 v10 wx=>v9=.bool (decide (an<0))∧v10=.pointer (some ⟨W1.heap.size,0,none⟩)∧wx=W1.alloc (.cells #[.int .u64 0,.int .u64 0] 184))
  case first=>
   obtain⟨_,l0,l1,l2,l3,_⟩:=HK.out _ hBx
   go_wp2_with fail
   go_meet
   exact⟨rfl,rfl,rfl⟩
  case rest=>
   obtain⟨rfl,rfl,rfl⟩:=hcut;have hBn:Below W0.heap.size W0 (W1.alloc (.cells #[.int .u64 0,.int .u64 0] 184)):=below_a _ hBx
   have HX7:Hid (∀w',Below (W1.alloc (.cells #[.int .u64 0,.int .u64 0] 184)).heap.size (W1.alloc (.cells #[.int .u64 0,.int .u64 0] 184)) w'→w'.cell? ⟨B7,0,none⟩=some (.int .u64 0)∧w'.cell? ⟨B7,1,none⟩=some (.int .u64 x)∧w'.cell? ⟨B8,0,none⟩=some (.int .u64 0)∧w'.cell? ⟨B8,1,none⟩=some (.int .u64 y)):=lh fun w' h=>
    ⟨(h.cell (p:=⟨B7,0,none⟩) (by simp<;>omega)).trans ((World.cell?_alloc_lt _ _ _ p7).trans x0'),(h.cell (p:=⟨B7,1,none⟩) (by simp<;>omega)).trans ((World.cell?_alloc_lt _ _ _ p7).trans x1'),(h.cell (p:=⟨B8,0,none⟩) (by simp<;>omega)).trans ((World.cell?_alloc_lt _ _ _ p8).trans x2'),(h.cell (p:=⟨B8,1,none⟩) (by simp<;>omega)).trans ((World.cell?_alloc_lt _ _ _ p8).trans x3')⟩
   have HXT:Hid (∀w',Below (W1.alloc (.cells #[.int .u64 0,.int .u64 0] 184)).heap.size (W1.alloc (.cells #[.int .u64 0,.int .u64 0] 184)) w'→NewF w' W1.heap.size):=lh fun w' h=>carry h (newF W1 _);have hsz:W1.heap.size<(W1.alloc (.cells #[.int .u64 0,.int .u64 0] 184)).heap.size:=by simp
   have hW01:W0.heap.size≤W1.heap.size:=hBx.size;clear x0' x1' x2' x3' p7 p8;generalize W1.alloc (.cells #[.int .u64 0,.int .u64 0] 184)=W2 at *;generalize W1.heap.size=BT at *;have hb2:=Below.refl W2.heap.size W2;obtain⟨y0',y1',y2',y3'⟩:=HX7.out _ hb2;obtain⟨_,l0,l1,l2,l3,_⟩:=HK.out _ hBn;obtain⟨t0,t1,t2,t3,t4⟩:=HXT.out _ hb2
   apply_assumption
   go_step
   go_cut [9,10] (fun v9 v10 wx=>∃ng:Bool,v9=.bool ng∧v10=.pointer (some ⟨BT,0,none⟩)∧Hid (nS≠0→ng=decide (S<0))∧Below W0.heap.size W0 wx∧wx.cell? ⟨BT,0,none⟩=some (.int .u64 0)∧wx.cell? ⟨BT,1,none⟩=some (.int .u64 nS)∧wx.frozen? ⟨BT,0,none⟩=false∧wx.frozen? ⟨BT,1,none⟩=false)
   case first=>
    by_cases ca:an<0
    ·have ea:=decide_eq_true ca
     by_cases cb:bn<0
     ·have eb:=decide_eq_true cb
      have HEN:Hid (nS=x+y):=lh (by have:=HMA.out;have:=HMB.out;have:=HSS.out;have:=HNS.out;omega);have HR:Hid (nS≠0→true=decide (S<0)):=lh (fun h=>by have:=HMA.out;have:=HMB.out;have:=HSS.out;have:=HNS.out;rw[dT (by omega)]);clear ca cb
      go_wp2_with (go_at_call 164;(with_reducible refine(plus_small x y x0 y0 hsum _).mono ?_);rintro e w6 ⟨rfl,hb6⟩;rw[←HEN.out];obtain⟨t0,t1,t2,t3,t4⟩:=HXT.out _ hb6)
      have s0:=World.cell?_setCell_same w6 ⟨BT,0,none⟩ (.int .u64 0) t0;have s1:(w6.setCell ⟨BT,0,none⟩ (.int .u64 0)).cell? ⟨BT,1,none⟩=some (.int .u64 0):=(World.cell?_setCell_other _ _ _ _ (fun x=>absurd (congrArg Addr.off x) (by simp))).trans t1;have s2:=World.cell?_setCell_same _ ⟨BT,1,none⟩ (.int .u64 nS) s1;have s3:((w6.setCell ⟨BT,0,none⟩ (.int .u64 0)).setCell ⟨BT,1,none⟩ (.int .u64 nS)).cell? ⟨BT,0,none⟩=some (.int .u64 0):=(World.cell?_setCell_other _ _ _ _ (fun x=>absurd (congrArg Addr.off x) (by simp))).trans s0
      go_meet
      exact⟨_,rfl,rfl,HR,below_s ⟨BT,1,none⟩ _ (below_s ⟨BT,0,none⟩ _ (hBn.trans (hb6.mono hBn.size)) hW01) hW01,s3,s2,by simpa using t2,by simpa using t3⟩
     ·have eb:=decide_eq_false cb
      by_cases cl:x<y
      ·have el:=decide_eq_true cl
       have HEN:Hid (nS=y-x):=lh (by have:=HMA.out;have:=HMB.out;have:=HSS.out;have:=HNS.out;omega);have HR:Hid (nS≠0→false=decide (S<0)):=lh (fun h=>by have:=HMA.out;have:=HMB.out;have:=HSS.out;have:=HNS.out;rw[dF (by omega)]);clear ca cb
       go_wp2_with (first | (go_at_call 157;(with_reducible refine(less_small x y _).mono ?_);rintro e w5 ⟨rfl,hb5⟩;rw[el];obtain⟨y0',y1',y2',y3'⟩:=HX7.out _ hb5) | (go_at_call 165;(with_reducible refine(minus_small y x (by omega) x0 (by omega) _).mono ?_);rintro e w6 ⟨rfl,hb6'⟩;rw[←HEN.out];have hb6:=held_next (wr:=W2) hb5 hb6';obtain⟨t0,t1,t2,t3,t4⟩:=HXT.out _ hb6))
       have s0:=World.cell?_setCell_same w6 ⟨BT,0,none⟩ (.int .u64 0) t0;have s1:(w6.setCell ⟨BT,0,none⟩ (.int .u64 0)).cell? ⟨BT,1,none⟩=some (.int .u64 0):=(World.cell?_setCell_other _ _ _ _ (fun x=>absurd (congrArg Addr.off x) (by simp))).trans t1;have s2:=World.cell?_setCell_same _ ⟨BT,1,none⟩ (.int .u64 nS) s1;have s3:((w6.setCell ⟨BT,0,none⟩ (.int .u64 0)).setCell ⟨BT,1,none⟩ (.int .u64 nS)).cell? ⟨BT,0,none⟩=some (.int .u64 0):=(World.cell?_setCell_other _ _ _ _ (fun x=>absurd (congrArg Addr.off x) (by simp))).trans s0
       go_meet
       exact⟨_,rfl,rfl,HR,below_s ⟨BT,1,none⟩ _ (below_s ⟨BT,0,none⟩ _ (hBn.trans (hb6.mono hBn.size)) hW01) hW01,s3,s2,by simpa using t2,by simpa using t3⟩
      ·have el:=decide_eq_false cl
       have HEN:Hid (nS=x-y):=lh (by have:=HMA.out;have:=HMB.out;have:=HSS.out;have:=HNS.out;omega);have HR:Hid (nS≠0→true=decide (S<0)):=lh (fun h=>by have:=HMA.out;have:=HMB.out;have:=HSS.out;have:=HNS.out;rw[dT (by omega)]);clear ca cb
       go_wp2_with (first | (go_at_call 157;(with_reducible refine(less_small x y _).mono ?_);rintro e w5 ⟨rfl,hb5⟩;rw[el];obtain⟨y0',y1',y2',y3'⟩:=HX7.out _ hb5) | (go_at_call 165;(with_reducible refine(minus_small x y (by omega) y0 (by omega) _).mono ?_);rintro e w6 ⟨rfl,hb6'⟩;rw[←HEN.out];have hb6:=held_next (wr:=W2) hb5 hb6';obtain⟨t0,t1,t2,t3,t4⟩:=HXT.out _ hb6))
       have s0:=World.cell?_setCell_same w6 ⟨BT,0,none⟩ (.int .u64 0) t0;have s1:(w6.setCell ⟨BT,0,none⟩ (.int .u64 0)).cell? ⟨BT,1,none⟩=some (.int .u64 0):=(World.cell?_setCell_other _ _ _ _ (fun x=>absurd (congrArg Addr.off x) (by simp))).trans t1;have s2:=World.cell?_setCell_same _ ⟨BT,1,none⟩ (.int .u64 nS) s1;have s3:((w6.setCell ⟨BT,0,none⟩ (.int .u64 0)).setCell ⟨BT,1,none⟩ (.int .u64 nS)).cell? ⟨BT,0,none⟩=some (.int .u64 0):=(World.cell?_setCell_other _ _ _ _ (fun x=>absurd (congrArg Addr.off x) (by simp))).trans s0
       go_meet
       exact⟨_,rfl,rfl,HR,below_s ⟨BT,1,none⟩ _ (below_s ⟨BT,0,none⟩ _ (hBn.trans (hb6.mono hBn.size)) hW01) hW01,s3,s2,by simpa using t2,by simpa using t3⟩
    ·have ea:=decide_eq_false ca
     by_cases cb:bn<0
     ·have eb:=decide_eq_true cb
      by_cases cl:x<y
      ·have el:=decide_eq_true cl
       have HEN:Hid (nS=y-x):=lh (by have:=HMA.out;have:=HMB.out;have:=HSS.out;have:=HNS.out;omega);have HR:Hid (nS≠0→true=decide (S<0)):=lh (fun h=>by have:=HMA.out;have:=HMB.out;have:=HSS.out;have:=HNS.out;rw[dT (by omega)]);clear ca cb
       go_wp2_with (first | (go_at_call 157;(with_reducible refine(less_small x y _).mono ?_);rintro e w5 ⟨rfl,hb5⟩;rw[el];obtain⟨y0',y1',y2',y3'⟩:=HX7.out _ hb5) | (go_at_call 165;(with_reducible refine(minus_small y x (by omega) x0 (by omega) _).mono ?_);rintro e w6 ⟨rfl,hb6'⟩;rw[←HEN.out];have hb6:=held_next (wr:=W2) hb5 hb6';obtain⟨t0,t1,t2,t3,t4⟩:=HXT.out _ hb6))
       have s0:=World.cell?_setCell_same w6 ⟨BT,0,none⟩ (.int .u64 0) t0;have s1:(w6.setCell ⟨BT,0,none⟩ (.int .u64 0)).cell? ⟨BT,1,none⟩=some (.int .u64 0):=(World.cell?_setCell_other _ _ _ _ (fun x=>absurd (congrArg Addr.off x) (by simp))).trans t1;have s2:=World.cell?_setCell_same _ ⟨BT,1,none⟩ (.int .u64 nS) s1;have s3:((w6.setCell ⟨BT,0,none⟩ (.int .u64 0)).setCell ⟨BT,1,none⟩ (.int .u64 nS)).cell? ⟨BT,0,none⟩=some (.int .u64 0):=(World.cell?_setCell_other _ _ _ _ (fun x=>absurd (congrArg Addr.off x) (by simp))).trans s0
       go_meet
       exact⟨_,rfl,rfl,HR,below_s ⟨BT,1,none⟩ _ (below_s ⟨BT,0,none⟩ _ (hBn.trans (hb6.mono hBn.size)) hW01) hW01,s3,s2,by simpa using t2,by simpa using t3⟩
      ·have el:=decide_eq_false cl
       have HEN:Hid (nS=x-y):=lh (by have:=HMA.out;have:=HMB.out;have:=HSS.out;have:=HNS.out;omega);have HR:Hid (nS≠0→false=decide (S<0)):=lh (fun h=>by have:=HMA.out;have:=HMB.out;have:=HSS.out;have:=HNS.out;rw[dF (by omega)]);clear ca cb
       go_wp2_with (first | (go_at_call 157;(with_reducible refine(less_small x y _).mono ?_);rintro e w5 ⟨rfl,hb5⟩;rw[el];obtain⟨y0',y1',y2',y3'⟩:=HX7.out _ hb5) | (go_at_call 165;(with_reducible refine(minus_small x y (by omega) y0 (by omega) _).mono ?_);rintro e w6 ⟨rfl,hb6'⟩;rw[←HEN.out];have hb6:=held_next (wr:=W2) hb5 hb6';obtain⟨t0,t1,t2,t3,t4⟩:=HXT.out _ hb6))
       have s0:=World.cell?_setCell_same w6 ⟨BT,0,none⟩ (.int .u64 0) t0;have s1:(w6.setCell ⟨BT,0,none⟩ (.int .u64 0)).cell? ⟨BT,1,none⟩=some (.int .u64 0):=(World.cell?_setCell_other _ _ _ _ (fun x=>absurd (congrArg Addr.off x) (by simp))).trans t1;have s2:=World.cell?_setCell_same _ ⟨BT,1,none⟩ (.int .u64 nS) s1;have s3:((w6.setCell ⟨BT,0,none⟩ (.int .u64 0)).setCell ⟨BT,1,none⟩ (.int .u64 nS)).cell? ⟨BT,0,none⟩=some (.int .u64 0):=(World.cell?_setCell_other _ _ _ _ (fun x=>absurd (congrArg Addr.off x) (by simp))).trans s0
       go_meet
       exact⟨_,rfl,rfl,HR,below_s ⟨BT,1,none⟩ _ (below_s ⟨BT,0,none⟩ _ (hBn.trans (hb6.mono hBn.size)) hW01) hW01,s3,s2,by simpa using t2,by simpa using t3⟩
     ·have eb:=decide_eq_false cb
      have HEN:Hid (nS=x+y):=lh (by have:=HMA.out;have:=HMB.out;have:=HSS.out;have:=HNS.out;omega);have HR:Hid (nS≠0→false=decide (S<0)):=lh (fun h=>by have:=HMA.out;have:=HMB.out;have:=HSS.out;have:=HNS.out;rw[dF (by omega)]);clear ca cb
      go_wp2_with (go_at_call 164;(with_reducible refine(plus_small x y x0 y0 hsum _).mono ?_);rintro e w6 ⟨rfl,hb6⟩;rw[←HEN.out];obtain⟨t0,t1,t2,t3,t4⟩:=HXT.out _ hb6)
      have s0:=World.cell?_setCell_same w6 ⟨BT,0,none⟩ (.int .u64 0) t0;have s1:(w6.setCell ⟨BT,0,none⟩ (.int .u64 0)).cell? ⟨BT,1,none⟩=some (.int .u64 0):=(World.cell?_setCell_other _ _ _ _ (fun x=>absurd (congrArg Addr.off x) (by simp))).trans t1;have s2:=World.cell?_setCell_same _ ⟨BT,1,none⟩ (.int .u64 nS) s1;have s3:((w6.setCell ⟨BT,0,none⟩ (.int .u64 0)).setCell ⟨BT,1,none⟩ (.int .u64 nS)).cell? ⟨BT,0,none⟩=some (.int .u64 0):=(World.cell?_setCell_other _ _ _ _ (fun x=>absurd (congrArg Addr.off x) (by simp))).trans s0
      go_meet
      exact⟨_,rfl,rfl,HR,below_s ⟨BT,1,none⟩ _ (below_s ⟨BT,0,none⟩ _ (hBn.trans (hb6.mono hBn.size)) hW01) hW01,s3,s2,by simpa using t2,by simpa using t3⟩
   case rest=>
    obtain⟨ng,rfl,rfl,HR,hB3,u0,u1,u2,u3⟩:=hcut;obtain⟨W3,rfl⟩:∃W:World,W=wc:=⟨_,rfl⟩;have hBT:BT<W3.heap.size:=wl u0;clear hb2 y0' y1' y2' y3' l0 l1 l2 l3 t0 t1 t2 t3 t4 HX7 HXT hsz hBn hBx;obtain⟨_,l0,l1,l2,l3,l4,l5,l6,l7,l8⟩:=HK.out _ hB3
    by_cases z:nS=0
    ·have z1:(nS==0)=true:=by simpa using z
     have HP:Hid (P=(0,1,0)):=lh (HPP.out.symm.trans (add_zero (by omega) (by omega) HG.out HQA.out HQB.out HSS.out HNS.out z).symm);clear z
     go_wp2_with fail
     have s0:=World.cell?_setCell_same W3 ⟨w.heap.size+1+1,0,none⟩ (.int .i64 0) l4;have s1:(W3.setCell ⟨w.heap.size+1+1,0,none⟩ (.int .i64 0)).cell? ⟨w.heap.size+1+1,1,none⟩=some (.int .i64 0):=(World.cell?_setCell_other _ _ _ _ (fun x=>absurd (congrArg Addr.off x) (by simp))).trans l5;have s2:=World.cell?_setCell_same _ ⟨w.heap.size+1+1,1,none⟩ (.int .i64 1) s1;have s3:((W3.setCell ⟨w.heap.size+1+1,0,none⟩ (.int .i64 0)).setCell ⟨w.heap.size+1+1,1,none⟩ (.int .i64 1)).cell? ⟨w.heap.size+1+1,0,none⟩=some (.int .i64 0):=(World.cell?_setCell_other _ _ _ _ (fun x=>absurd (congrArg Addr.off x) (by simp))).trans s0;refine bodyPost_ret (v:=.tuple #[.agg #[.int .i64 0,.int .i64 1],.int .i64 0]) (by simp[results,Tryz.results124,go_sem,s2,s3]) rfl ⟨by rw[HP.out],?_⟩;exact((HK.out _ hB3).1.setCell (p:=⟨w.heap.size+1+1,0,none⟩) (by simp<;>omega) _).setCell (p:=⟨w.heap.size+1+1,1,none⟩) (by simp<;>omega) _
    ·have z1:(nS==0)=false:=by simpa using z
     have nS1:nS<18446744073709551616:=by omega
     obtain⟨r,hr⟩:=nm (nS%g);have r0:0≤r:=by rw[←hr];exact Int.emod_nonneg _ g0
     have r1:r<g:=by rw[←hr];exact Int.emod_lt_of_pos _ gp
     obtain⟨c,hc⟩:=nm ((Int.gcd g r:Int):Int);have c0:0<c:=by rw[←hc];have:=Int.gcd_pos_of_ne_zero_left (a:=g) r g0;omega
     have c1:c≤g:=by rw[←hc];exact Int.gcd_le_left _ gp
     have gle:g≤ad:=by rw[←HG.out];exact Int.gcd_le_left _ (by omega)
     have c2:¬c=0:=by omega
     have c3:(c==0)=false:=by simpa using c2
     obtain⟨q1,hq1⟩:=nm (nS/g);obtain⟨q2,hq2⟩:=nm (nS/c);obtain⟨r2,hr2⟩:=nm (nS%c);obtain⟨qc,hqc⟩:=nm (bd/c);have q20:0≤q2:=by rw[←hq2];exact Int.ediv_nonneg nS0 (by omega)
     have qc0:0≤qc:=by rw[←hqc];exact Int.ediv_nonneg (by omega) (by omega)
     have qc1:qc≤bd:=by rw[←hqc];exact Int.ediv_le_self c (by omega)
     have dc:IntKind.u64.wrap (bd.tdiv c)=qc:=by rw[Int.tdiv_eq_ediv_of_nonneg (by omega),hqc,IntKind.wrap_u64];omega
     obtain⟨den,hd⟩:=nm (qa*qc);have den0:0≤den:=by rw[←hd];exact Int.mul_nonneg qa0 qc0
     have hdd:qa*qc<18446744073709551616:=by
      have:=HDEN.out;have:=Int.mul_le_mul qa1 qc1 qc0 (by omega);omega
     obtain⟨R,hR⟩:=nm (signP ng q2 den)
     have HP:Hid (P=R):=lh (by
      rw[←HPP.out,←hR,←hq2,←hd,←hqc];exact(add_plain (by omega) (by omega) HA5.out HB5.out HG.out HQA.out HQB.out HSS.out HNS.out (by rw[hr];exact hc) HR.out z).symm)
     have HRS:=lh hR;have HRR:=lh hr;have HC:=lh hc;have HQ1:=lh hq1;have HQ2:=lh hq2;have HR2:=lh hr2;have HDE:=lh hd;have HDD:=lh hdd;clear hr hc hq1 hq2 hr2 hqc hd hdd hR z
     have HT:Hid (∀w',Below W3.heap.size W3 w'→Below W0.heap.size W0 w'∧w'.cell? ⟨BT,0,none⟩=some (.int .u64 0)∧w'.cell? ⟨BT,1,none⟩=some (.int .u64 nS)∧w'.frozen? ⟨BT,0,none⟩=false∧w'.frozen? ⟨BT,1,none⟩=false):=lh fun w' h=>
      ⟨hB3.trans (h.mono hB3.size),(h.cell (p:=⟨BT,0,none⟩) hBT).trans u0,(h.cell (p:=⟨BT,1,none⟩) hBT).trans u1,(h.frozen (p:=⟨BT,0,none⟩) hBT).trans u2,(h.frozen (p:=⟨BT,1,none⟩) hBT).trans u3⟩
     go_upto_region 16 with (first
      | (go_at_call 166;(with_reducible refine(over_small nS g nS0 nS1 gp (by omega) _).mono ?_);rintro e w7 ⟨rfl,hb7⟩;rw[HQ1.out,HRR.out];obtain⟨hB7',v0,v1,v2,v3⟩:=HT.out _ hb7;have v4:=wl v0)
      | (go_at_call 90;(with_reducible refine(gcd_any g r (by omega) (by omega) r0 (by omega) _).mono ?_);rintro e w8 ⟨rfl,m8,rfl⟩;rw[HC.out])
      | (go_at_call 166;(with_reducible refine(over_small nS c nS0 nS1 c0 (by omega) _).mono ?_);rintro e w9 ⟨rfl,hb9⟩;rw[HQ2.out,HR2.out];have hb10:Below W3.heap.size W3 w9:=(by first | exact held_next (below_drewN (below_a _ hb7) _) hb9 | exact held_next (below_a _ (below_drewN hb7 _)) hb9 | exact held_next (below_drewN hb7 _) hb9);obtain⟨hB9,v0,v1,v2,v3⟩:=HT.out _ hb10))
     obtain⟨e0,e1⟩:=two_cells (w:=w9) (B:=BT) (v0:=.int .u64 0) (v1:=.int .u64 q2) v0 v1;have hB10:Below W0.heap.size W0 ((w9.setCell ⟨BT,0,none⟩ (.int .u64 0)).setCell ⟨BT,1,none⟩ (.int .u64 q2)):=below_s ⟨BT,1,none⟩ _ (below_s ⟨BT,0,none⟩ _ hB9 hW01) hW01;have hBT2:BT<((w9.setCell ⟨BT,0,none⟩ (.int .u64 0)).setCell ⟨BT,1,none⟩ (.int .u64 q2)).heap.size:=wl e0;clear hb7 hb9 hb10 hB7' hB9 v0 v1 v2 v3 v4 HT l0 l1 l2 l3 l4 l5 l6 l7 l8 u0 u1 u2 u3;generalize (w9.setCell ⟨BT,0,none⟩ (.int .u64 0)).setCell ⟨BT,1,none⟩ (.int .u64 q2)=W4 at *;obtain⟨_,l0,l1,l2,l3,l4,l5,l6,l7,l8⟩:=HK.out _ hB10;have hl1:w.heap.size<W4.heap.size:=by omega
     have hl2:w.heap.size+1<W4.heap.size:=by omega
     have HS4:Hid (∀w',Below W4.heap.size W4 w'→Below W4.heap.size W4 w'∧w'.cell? ⟨w.heap.size,1,none⟩=some (.int .i64 ad)∧w'.cell? ⟨w.heap.size+1,1,none⟩=some (.int .i64 bd)):=lh fun w' h=>⟨h,(h.cell (p:=⟨w.heap.size,1,none⟩) hl1).trans l1,(h.cell (p:=⟨w.heap.size+1,1,none⟩) hl2).trans l3⟩;have hb4:=Below.refl W4.heap.size W4;have hb4d:=hb4.drew
     go_cut [14] (fun v14 wx=>∃B:Nat,v14=.pointer (some ⟨B,0,none⟩)∧Below W4.heap.size W4 wx∧wx.cell? ⟨B,0,none⟩=some (.int .u64 0)∧wx.cell? ⟨B,1,none⟩=some (.int .u64 den))
     case first=>
      clear l0 l2 l4 l5 l6 l7 e0 e1
      go_region_held3 (fun w'=>Below W4.heap.size W4 w'∧w'.cell? ⟨w.heap.size,1,none⟩=some (.int .i64 ad)∧w'.cell? ⟨w.heap.size+1,1,none⟩=some (.int .i64 bd))
       (first | exact HS4.out _ hb4.drew | (go_split_ands;refine HS4.out _ ?_;repeat' (first | assumption | apply below_a | apply Below.drew | (refine below_s _ _ ?_ (Below.size (by assumption))) | (refine below_s _ _ ?_ (Nat.le_refl _)))))
       (first
        | (go_at_call 110;go_split_ands;(with_reducible refine(product_small qa qc qa0 (by omega) qc0 (by omega) HDD.out _).mono ?_);rintro e w5 ⟨rfl,hb5⟩;rw[HDE.out];have hb6:=held_next (wr:=W4) (by assumption) hb5;(first | (have hq:=new1D hb5;obtain⟨f0,f1,f2,f3,f4⟩:=hq) | skip)))
      all_goals go_wp2_with fail
      all_goals go_meet
      all_goals first
       | exact⟨_,rfl,below_a _ (by assumption),(new_cells _ _ _ _).1,(new_cells _ _ _ _).2⟩
       | (obtain⟨g0,g1⟩:=two_cells (w:=w5) (B:=W4.heap.size) (v0:=.int .u64 0) (v1:=.int .u64 den) f0 f1
          exact⟨_,rfl,below_s ⟨_,1,none⟩ _ (below_s ⟨_,0,none⟩ _ (by assumption) (Nat.le_refl _)) (Nat.le_refl _),g0,g1⟩)
     case rest=>
      obtain⟨B,rfl,hB5,m0,m1⟩:=hcut;obtain⟨W5,rfl⟩:∃W:World,W=wc:=⟨_,rfl⟩;have n0:=(hB5.cell (p:=⟨BT,0,none⟩) hBT2).trans e0;have n1:=(hB5.cell (p:=⟨BT,1,none⟩) hBT2).trans e1;have hB6:=hB10.trans (hB5.mono hB10.size);clear l0 l1 l2 l3 l4 l5 l6 l7 l8 e0 e1 hb4 hb4d
      go_wp2_with (first | (go_at_call 91;(with_reducible refine(signed_any ng q2 den q20 den0 _).mono ?_);rintro e w6 ⟨rfl,hb6⟩;rw[HRS.out];have hB7:=hB6.trans (hb6.mono hB6.size);obtain⟨hBW,l0,l1,l2,l3,l4,l5,l6,l7,l8⟩:=HK.out _ hB7))
      have s0:=World.cell?_setCell_same w6 ⟨w.heap.size+1+1,0,none⟩ (.int .i64 R.1) l4;have s1:(w6.setCell ⟨w.heap.size+1+1,0,none⟩ (.int .i64 R.1)).cell? ⟨w.heap.size+1+1,1,none⟩=some (.int .i64 0):=(World.cell?_setCell_other _ _ _ _ (fun x=>absurd (congrArg Addr.off x) (by simp))).trans l5;have s2:=World.cell?_setCell_same _ ⟨w.heap.size+1+1,1,none⟩ (.int .i64 R.2.1) s1;have s3:((w6.setCell ⟨w.heap.size+1+1,0,none⟩ (.int .i64 R.1)).setCell ⟨w.heap.size+1+1,1,none⟩ (.int .i64 R.2.1)).cell? ⟨w.heap.size+1+1,0,none⟩=some (.int .i64 R.1):=(World.cell?_setCell_other _ _ _ _ (fun x=>absurd (congrArg Addr.off x) (by simp))).trans s0;refine bodyPost_ret (v:=.tuple #[.agg #[.int .i64 R.1,.int .i64 R.2.1],.int .i64 R.2.2]) (by simp[results,Tryz.results124,go_sem,s2,s3]) rfl ⟨by rw[HP.out],?_⟩;exact(hBW.setCell (p:=⟨w.heap.size+1+1,0,none⟩) (by simp<;>omega) _).setCell (p:=⟨w.heap.size+1+1,1,none⟩) (by simp<;>omega) _
end
end Go.Proofs.YtebofaenlhhkaaaGreat
