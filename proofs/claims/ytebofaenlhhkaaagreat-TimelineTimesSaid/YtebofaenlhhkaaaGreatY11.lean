import Derived.Test.YtebofaenlhhkaaaGreatY6
namespace Go.Proofs.YtebofaenlhhkaaaGreat
set_option maxRecDepth 100000
set_option maxHeartbeats 80000000
section
open Go.RowKit Go.Shelf
def Ng(an ad bn bd:Int):Int×Int×Int:=Kx (Ay (an*bn) (ad*bd)) (Ar (an*bn) (ad*bd))
theorem ARx{an ad bn bd g h na nb qn1 qn2 qd1 qd2:Int}(ha:0<ad)(hb:0<bd)(ca:Int.gcd an ad=1)(cb:Int.gcd bn bd=1)(hna:(an.natAbs:Int)=na)(hnb:(bn.natAbs:Int)=nb)(hg:(Int.gcd na bd:Int)=g)(hh:(Int.gcd nb ad:Int)=h)
  (h1:na/g=qn1) (h2:nb/h=qn2) (h3:ad/h=qd1) (h4:bd/g=qd2):((Ay (an*bn) (ad*bd)).natAbs:Int)=qn1*qn2∧Ar (an*bn) (ad*bd)=qd1*qd2:=by
 have e1:Int.gcd na bd=Int.gcd an bd:=by rw[←hna];simp[Int.gcd]
 have e2:Int.gcd nb ad=Int.gcd bn ad:=by rw[←hnb];simp[Int.gcd]
 obtain⟨m1,m2⟩:=ASg ha hb ca cb g h (by rw[←hg,e1]) (by rw[←hh,e2]);rw[←m1,←m2,h3,h4];refine⟨?_,rfl⟩;have gp:0<g:=by rw[←hg];exact Dn hb
 have hp:0<h:=by rw[←hh];exact Dn ha
 have d1:g∣an:=by rw[←hg,e1];exact Int.gcd_dvd_left _ _
 have d2:h∣bn:=by rw[←hh,e2];exact Int.gcd_dvd_left _ _
 rw[Int.natAbs_mul,Int.natAbs_ediv_of_dvd d1,Int.natAbs_ediv_of_dvd d2,Int.natCast_mul,Int.natCast_ediv,Int.natCast_ediv,hna,hnb,show(g.natAbs:Int)=g by omega,show(h.natAbs:Int)=h by omega,h1,h2]
theorem APr{an ad bn bd:Int}(ha:0<ad)(hb:0<bd):(Ay (an*bn) (ad*bd)<0↔(an<0∧0<bn∨0<an∧bn<0)):=by
 rw[Rz (Int.mul_pos ha hb)]
 constructor
 ·intro l
  rcases Int.lt_trichotomy an 0 with c | c | c
  ·rcases Int.lt_or_le 0 bn with k | k
   ·exact .inl ⟨c,k⟩
   ·have:=Int.mul_nonneg_of_nonpos_of_nonpos (Int.le_of_lt c) k;omega
  ·subst c;simp at l
  ·rcases Int.lt_or_le bn 0 with k | k
   ·exact .inr ⟨c,k⟩
   ·have:=Int.mul_nonneg (Int.le_of_lt c) k;omega
 ·rintro (⟨a,b⟩ | ⟨a,b⟩)
  ·exact Int.mul_neg_of_neg_of_pos a b
  ·exact Int.mul_neg_of_pos_of_neg a b
theorem ABj{an ad bn bd:Int}:Ay (an*bn) (ad*bd)=0→an=0∨bn=0:=fun h=>Int.mul_eq_zero.1 (Ys h)
theorem AKf{an ad bn bd num den:Int}{ng:Bool}(ha:0<ad)(hb:0<bd)(h1:((Ay (an*bn) (ad*bd)).natAbs:Int)=num)(h2:Ar (an*bn) (ad*bd)=den)(hn:ng=(decide (0<num)&&(decide (an<0)!=decide (bn<0)))):Eh ng num den=Ng an ad bn bd:=by
 unfold Ng;rw[←h1,h2];refine Wa ?_;subst hn;have s:=APr (an:=an) (bn:=bn) ha hb;have z:=ABj (an:=an) (bn:=bn) (ad:=ad) (bd:=bd)
 by_cases hz:Ay (an*bn) (ad*bd)=0
 ·have:num=0:=by rw[←h1,hz];rfl
  rw[this,hz];rfl
 ·have:0<num:=by omega
  have an0:an≠0:=fun e=>hz (by rw[e,Int.zero_mul];exact(Lf (Int.mul_pos ha hb)).1);have bn0:bn≠0:=fun e=>hz (by rw[e,Int.mul_zero];exact(Lf (Int.mul_pos ha hb)).1);rw[dT this,Bool.true_and,Bool.eq_iff_iff];simp only[bne_iff_ne,ne_eq,decide_eq_decide,decide_eq_true_eq];rw[s];omega
theorem AId{an ad bn bd num den:Int}(h1:((Ay (an*bn) (ad*bd)).natAbs:Int)=num)(h2:Ar (an*bn) (ad*bd)=den)(h:18446744073709551616≤num∨18446744073709551616≤den):Ng an ad bn bd=(0,0,5):=by
 unfold Ng Kx;rw[if_pos (by omega)]

def ACd(W0:World)(B7 B8:Nat)(x' x y' y:Int)(wx:World):Prop:=W0.heap.size≤B7∧W0.heap.size≤B8∧Below W0.heap.size W0 wx∧wx.cell? ⟨B7,0,none⟩=some (.int .u64 x')∧wx.cell? ⟨B7,1,none⟩=some (.int .u64 x)∧wx.cell? ⟨B8,0,none⟩=some (.int .u64 y')∧wx.cell? ⟨B8,1,none⟩=some (.int .u64 y)
theorem ACd.swap{W0:World}{B7 B8:Nat}{x' x y' y:Int}{wx:World}(h:ACd W0 B7 B8 x' x y' y wx):ACd W0 B8 B7 y' y x' x wx:=⟨h.2.1,h.1,h.2.2.1,h.2.2.2.2.2.1,h.2.2.2.2.2.2,h.2.2.2.1,h.2.2.2.2.1⟩
theorem AIb{W0 w:World}(x' x y' y:Int)(t:TypeId)(h:Below W0.heap.size W0 w):ACd W0 w.heap.size (w.heap.size+1) x' x y' y ((w.alloc (.cells #[.int .u64 x',.int .u64 x] t)).alloc (.cells #[.int .u64 y',.int .u64 y] t)):=
 ⟨h.size,Nat.le_succ_of_le h.size,Aw _ (Aw _ h),by simp,by simp,by simp,by simp⟩
theorem AJb{W0 w:World}(B:Nat)(x' x y' y:Int)(t:TypeId)(h:Below W0.heap.size W0 w)(f:Rq w B)(hB:W0.heap.size≤B):ACd W0 B w.heap.size x' x y' y (((w.setCell ⟨B,0,none⟩ (.int .u64 x')).setCell ⟨B,1,none⟩ (.int .u64 x)).alloc (.cells #[.int .u64 y',.int .u64 y] t)):=by
 obtain⟨c0,c1⟩:=Ag (v0:=.int .u64 x') (v1:=.int .u64 x) f.1 f.2.1;have hl:B<((w.setCell ⟨B,0,none⟩ (.int .u64 x')).setCell ⟨B,1,none⟩ (.int .u64 x)).heap.size:=by simpa using f.2.2.2.2
 have hs:((w.setCell ⟨B,0,none⟩ (.int .u64 x')).setCell ⟨B,1,none⟩ (.int .u64 x)).heap.size=w.heap.size:=by simp
 refine⟨hB,h.size,Aw _ (Ad ⟨B,1,none⟩ _ (Ad ⟨B,0,none⟩ _ h hB) hB),(World.cell?_alloc_lt _ _ _ hl).trans c0,(World.cell?_alloc_lt _ _ _ hl).trans c1,?_⟩;have:=Mk ((w.setCell ⟨B,0,none⟩ (.int .u64 x')).setCell ⟨B,1,none⟩ (.int .u64 x)) (.int .u64 y') (.int .u64 y) t
 rwa [hs]at this
theorem ASu{W0 w:World}(B C:Nat)(x' x y' y:Int)(h:Below W0.heap.size W0 w)(f:Rq w B)(f':Rq w C)(hB:W0.heap.size≤B)(hC:W0.heap.size≤C)(hne:B≠C):ACd W0 B C x' x y' y ((((w.setCell ⟨B,0,none⟩ (.int .u64 x')).setCell ⟨B,1,none⟩ (.int .u64 x)).setCell ⟨C,0,none⟩ (.int .u64 y')).setCell ⟨C,1,none⟩ (.int .u64 y)):=by
 obtain⟨c0,c1⟩:=Ag (v0:=.int .u64 x') (v1:=.int .u64 x) f.1 f.2.1;have f2:Rq ((w.setCell ⟨B,0,none⟩ (.int .u64 x')).setCell ⟨B,1,none⟩ (.int .u64 x)) C:=⟨(Ch (Ne.symm hne) _ _ _).trans f'.1,(Ch (Ne.symm hne) _ _ _).trans f'.2.1,by simpa using f'.2.2.1,by simpa using f'.2.2.2.1,by simpa using f'.2.2.2.2⟩;obtain⟨d0,d1⟩:=Ag (v0:=.int .u64 y') (v1:=.int .u64 y) f2.1 f2.2.1;exact⟨hB,hC,Ad ⟨C,1,none⟩ _ (Ad ⟨C,0,none⟩ _ (Ad ⟨B,1,none⟩ _ (Ad ⟨B,0,none⟩ _ h hB) hB) hC) hC,(Ch hne _ _ _).trans c0,(Ch hne _ _ _).trans c1,d0,d1⟩

theorem AAu(an ad bn bd:Int)(va:Cf an ad=true)(vb:Cf bn bd=true)(w:World):
  Calls Tryz.prog 75 #[.agg #[.int .i64 an,.int .i64 ad],.agg #[.int .i64 bn,.int .i64 bd]] w fun e w'=>e=.returned (.tuple #[.agg #[.int .i64 (Ng an ad bn bd).1,.int .i64 (Ng an ad bn bd).2.1],.int .i64 (Ng an ad bn bd).2.2])∧Below w.heap.size w w':=by
 obtain⟨P,hP⟩:=nm (Ng an ad bn bd);have HPP:=lh hP;rw[hP];clear hP;obtain⟨a1,a2,a3,a4,a5⟩:=(Bj _ _).1 va;obtain⟨b1,b2,b3,b4,b5⟩:=(Bj _ _).1 vb;have HVA:=lh va;have HVB:=lh vb;obtain⟨na,hna⟩:=nm ((an.natAbs:Int):Int);obtain⟨nb,hnb⟩:=nm ((bn.natAbs:Int):Int);have na0:0≤na:=by omega
 have nb0:0≤nb:=by omega
 have na1:na≤1152921504606846976:=by omega
 have nb1:nb≤1152921504606846976:=by omega
 obtain⟨g,hg⟩:=nm ((Int.gcd na bd:Int):Int);obtain⟨h,hh⟩:=nm ((Int.gcd nb ad:Int):Int);have gp:0<g:=by rw[←hg];exact Dn (by omega)
 have hp:0<h:=by rw[←hh];exact Dn (by omega)
 have g0:¬g=0:=by omega
 have g0':(g==0)=false:=by simpa using g0
 have h0:¬h=0:=by omega
 have h0':(h==0)=false:=by simpa using h0
 obtain⟨qn1,hn1⟩:=nm (na/g:Int);obtain⟨qn2,hn2⟩:=nm (nb/h:Int);obtain⟨qd1,hd1⟩:=nm (ad/h:Int);obtain⟨qd2,hd2⟩:=nm (bd/g:Int);have qn10:0≤qn1:=by rw[←hn1];exact Int.ediv_nonneg (by omega) (by omega)
 have qn20:0≤qn2:=by rw[←hn2];exact Int.ediv_nonneg (by omega) (by omega)
 have qd10:0≤qd1:=by rw[←hd1];exact Int.ediv_nonneg (by omega) (by omega)
 have qd20:0≤qd2:=by rw[←hd2];exact Int.ediv_nonneg (by omega) (by omega)
 have qn11:qn1≤na:=by rw[←hn1];exact Int.ediv_le_self g (by omega)
 have qn21:qn2≤nb:=by rw[←hn2];exact Int.ediv_le_self h (by omega)
 have qd11:qd1≤ad:=by rw[←hd1];exact Int.ediv_le_self h (by omega)
 have qd21:qd2≤bd:=by rw[←hd2];exact Int.ediv_le_self g (by omega)
 have wa:IntKind.u64.wrap ad=ad:=by rw[IntKind.wrap_u64];omega
 have wb:IntKind.u64.wrap bd=bd:=by rw[IntKind.wrap_u64];omega
 have dn1:IntKind.u64.wrap (na.tdiv g)=qn1:=by rw[Int.tdiv_eq_ediv_of_nonneg (by omega),hn1,IntKind.wrap_u64];omega
 have dn2:IntKind.u64.wrap (nb.tdiv h)=qn2:=by rw[Int.tdiv_eq_ediv_of_nonneg (by omega),hn2,IntKind.wrap_u64];omega
 have dd1:IntKind.u64.wrap (ad.tdiv h)=qd1:=by rw[Int.tdiv_eq_ediv_of_nonneg (by omega),hd1,IntKind.wrap_u64];omega
 have dd2:IntKind.u64.wrap (bd.tdiv g)=qd2:=by rw[Int.tdiv_eq_ediv_of_nonneg (by omega),hd2,IntKind.wrap_u64];omega
 obtain⟨M1,M2⟩:=ARx (by omega) (by omega) a5 b5 hna hnb hg hh hn1 hn2 hd1 hd2;obtain⟨num,hnum⟩:=nm (qn1*qn2:Int);obtain⟨den,hden⟩:=nm (qd1*qd2:Int);have num0:0≤num:=by rw[←hnum];exact Int.mul_nonneg qn10 qn20
 have den0:0≤den:=by rw[←hden];exact Int.mul_nonneg qd10 qd20
 obtain⟨nq1,e1⟩:=nm (num/18446744073709551616:Int);obtain⟨nq2,e2⟩:=nm (num%18446744073709551616:Int);obtain⟨dq1,e3⟩:=nm (den/18446744073709551616:Int);obtain⟨dq2,e4⟩:=nm (den%18446744073709551616:Int);rw[hnum]at M1;rw[hden]at M2;have HM1:=lh M1;have HM2:=lh M2;have HNA:=lh hna;have HNB:=lh hnb;have HG:=lh hg;have HH:=lh hh;have HNUM:=lh hnum;have HDEN:=lh hden;have HE1:=lh e1;have HE2:=lh e2;have HE3:=lh e3;have HE4:=lh e4;clear hna hnb hg hh hn1 hn2 hd1 hd2 a5 b5 va vb M1 M2 hnum hden e1 e2 e3 e4
 go_enter Tryz.func75,Tryz.ntmps75
 go_upto_region 3 with (first
  | (go_at_call 68;go_fit (Df an ad _);rintro e w1 ⟨rfl,hb1⟩;rw[HVA.out];have z0:w1.cell? ⟨w.heap.size,0,none⟩=some (.int .i64 an):=(hb1.cell (p:=⟨w.heap.size,0,none⟩) (by simp<;>omega)).trans (by simp[go_sem,World.cell?_alloc_past]);have z1:w1.cell? ⟨w.heap.size,1,none⟩=some (.int .i64 ad):=(hb1.cell (p:=⟨w.heap.size,1,none⟩) (by simp<;>omega)).trans (by simp[go_sem,World.cell?_alloc_past]);have z2:w1.cell? ⟨w.heap.size+1,0,none⟩=some (.int .i64 bn):=(hb1.cell (p:=⟨w.heap.size+1,0,none⟩) (by simp<;>omega)).trans (by simp[go_sem,World.cell?_alloc_past]);have z3:w1.cell? ⟨w.heap.size+1,1,none⟩=some (.int .i64 bd):=(hb1.cell (p:=⟨w.heap.size+1,1,none⟩) (by simp<;>omega)).trans (by simp[go_sem,World.cell?_alloc_past]))
  | (go_at_call 68;go_fit (Df bn bd _);rintro e w2 ⟨rfl,hb2⟩;rw[HVB.out];have z4:w2.cell? ⟨w.heap.size,0,none⟩=some (.int .i64 an):=(ct hb2 z0 (wl z0));have z7:w2.cell? ⟨w.heap.size+1,0,none⟩=some (.int .i64 bn):=(ct hb2 z2 (wl z2));have z5:w2.cell? ⟨w.heap.size,1,none⟩=some (.int .i64 ad):=(ct hb2 z1 (wl z1));have z6:w2.cell? ⟨w.heap.size+1,1,none⟩=some (.int .i64 bd):=(ct hb2 z3 (wl z3))))
 have ha1:-9223372036854775808≤an:=by omega
 have ha2:an≤9223372036854775807:=by omega
 have ha3:-9223372036854775808≤bn:=by omega
 have ha4:bn≤9223372036854775807:=by omega
 have ha5:na<18446744073709551616:=by omega
 have ha6:nb<18446744073709551616:=by omega
 have ha7:0≤ad:=by omega
 have ha8:ad<18446744073709551616:=by omega
 have ha9:0≤bd:=by omega
 have ha10:bd<18446744073709551616:=by omega
 go_quiet (first
  | (go_at_call 89;refine Calls.quiet_of_same (v:=.int .u64 na) ?_;(with_reducible refine Calls.mono (Dm an ha1 ha2 _) ?_);exact fun e w' h=>⟨h.1.trans (Lw HNA.out),h.2.symm⟩)
  | (go_at_call 89;refine Calls.quiet_of_same (v:=.int .u64 nb) ?_;(with_reducible refine Calls.mono (Dm bn ha3 ha4 _) ?_);exact fun e w' h=>⟨h.1.trans (Lw HNB.out),h.2.symm⟩)
  | (go_at_call 90;refine Calls.quiet_of (v:=.int .u64 g) ?_;(with_reducible refine Calls.mono (Jg na bd na0 ha5 ha9 ha10 _) ?_);exact fun e w' h=>⟨h.1.trans (Lw HG.out),h.2⟩)
  | (go_at_call 90;refine Calls.quiet_of (v:=.int .u64 h) ?_;(with_reducible refine Calls.mono (Jg nb ad nb0 ha6 ha7 ha8 _) ?_);exact fun e w' h=>⟨h.1.trans (Lw HH.out),h.2⟩))
 go_upto_region 4 with (fail)
 have hb3:=Aj (hb1.trans (hb2.mono hb1.size)) nq;have k0:(w2.drewN nq).cell? ⟨w.heap.size,0,none⟩=some (.int .i64 an):=(hb3.cell (p:=⟨w.heap.size,0,none⟩) (by simp<;>omega)).trans (by simp[go_sem,World.cell?_alloc_past]);have k1:(w2.drewN nq).cell? ⟨w.heap.size,1,none⟩=some (.int .i64 ad):=(hb3.cell (p:=⟨w.heap.size,1,none⟩) (by simp<;>omega)).trans (by simp[go_sem,World.cell?_alloc_past]);have k2:(w2.drewN nq).cell? ⟨w.heap.size+1,0,none⟩=some (.int .i64 bn):=(hb3.cell (p:=⟨w.heap.size+1,0,none⟩) (by simp<;>omega)).trans (by simp[go_sem,World.cell?_alloc_past]);have k3:(w2.drewN nq).cell? ⟨w.heap.size+1,1,none⟩=some (.int .i64 bd):=(hb3.cell (p:=⟨w.heap.size+1,1,none⟩) (by simp<;>omega)).trans (by simp[go_sem,World.cell?_alloc_past]);have k4:(w2.drewN nq).cell? ⟨w.heap.size+1+1,0,none⟩=some (.int .i64 0):=(hb3.cell (p:=⟨w.heap.size+1+1,0,none⟩) (by simp<;>omega)).trans (by simp[go_sem]);have k5:(w2.drewN nq).cell? ⟨w.heap.size+1+1,1,none⟩=some (.int .i64 0):=(hb3.cell (p:=⟨w.heap.size+1+1,1,none⟩) (by simp<;>omega)).trans (by simp[go_sem]);have k6:(w2.drewN nq).frozen? ⟨w.heap.size+1+1,0,none⟩=false:=(hb3.frozen (p:=⟨w.heap.size+1+1,0,none⟩) (by simp<;>omega)).trans (by simp[go_sem]);have k7:(w2.drewN nq).frozen? ⟨w.heap.size+1+1,1,none⟩=false:=(hb3.frozen (p:=⟨w.heap.size+1+1,1,none⟩) (by simp<;>omega)).trans (by simp[go_sem]);have hW:=(((Aa w (.cells #[.int .i64 an,.int .i64 ad] 49)).alloc (by simp) (.cells #[.int .i64 bn,.int .i64 bd] 49)).alloc (by simp<;>omega) (.cells #[.int .i64 0,.int .i64 0] 49)).trans (hb3.mono (by simp<;>omega));have hz:w.heap.size+1+1<(w2.drewN nq).heap.size:=by have:=hb3.size;simp at this⊢;omega
 clear hb3 hb1 hb2 z0 z1 z2 z3 z4 z5 z6 z7;generalize w2.drewN nq=W0 at *
 have HK:Hid (∀w',Below W0.heap.size W0 w'→Below w.heap.size w w'∧w'.cell? ⟨w.heap.size,0,none⟩=some (.int .i64 an)∧w'.cell? ⟨w.heap.size,1,none⟩=some (.int .i64 ad)∧w'.cell? ⟨w.heap.size+1,0,none⟩=some (.int .i64 bn)∧w'.cell? ⟨w.heap.size+1,1,none⟩=some (.int .i64 bd)∧w'.cell? ⟨w.heap.size+1+1,0,none⟩=some (.int .i64 0)∧w'.cell? ⟨w.heap.size+1+1,1,none⟩=some (.int .i64 0)∧w'.frozen? ⟨w.heap.size+1+1,0,none⟩=false∧w'.frozen? ⟨w.heap.size+1+1,1,none⟩=false∧w.heap.size+1+1<w'.heap.size):=lh fun w' h=>
  ⟨hW.trans (h.mono (by omega)),(ct h k0),(ct h k1),(ct h k2),(ct h k3),(ct h k4),(ct h k5),(h.frozen (p:=⟨w.heap.size+1+1,0,none⟩) (by simp<;>omega)).trans k6,(h.frozen (p:=⟨w.heap.size+1+1,1,none⟩) (by simp<;>omega)).trans k7,by have:=h.size;omega⟩
 have HS:Hid (∀w',Below W0.heap.size W0 w'→Below W0.heap.size W0 w'∧w'.cell? ⟨w.heap.size,0,none⟩=some (.int .i64 an)∧w'.cell? ⟨w.heap.size,1,none⟩=some (.int .i64 ad)∧w'.cell? ⟨w.heap.size+1,0,none⟩=some (.int .i64 bn)∧w'.cell? ⟨w.heap.size+1,1,none⟩=some (.int .i64 bd)):=lh fun w' h=>
  ⟨h,(HK.out _ h).2.1,(HK.out _ h).2.2.1,(HK.out _ h).2.2.2.1,(HK.out _ h).2.2.2.2.1⟩
 have hb0:=Below.refl W0.heap.size W0;have hbd:=hb0.drew;clear k0 k1 k2 k3 k4 k5 k6 k7 hW
 go_cut [8,9] (fun v7 v8 wx=>∃B7 B8:Nat,v7=.pointer (some ⟨B7,0,none⟩)∧v8=.pointer (some ⟨B8,0,none⟩)∧ACd W0 B7 B8 nq1 nq2 dq1 dq2 wx)
 case first=>
  go_region_held3 (fun w'=>Below W0.heap.size W0 w'∧w'.cell? ⟨w.heap.size,0,none⟩=some (.int .i64 an)∧w'.cell? ⟨w.heap.size,1,none⟩=some (.int .i64 ad)∧w'.cell? ⟨w.heap.size+1,0,none⟩=some (.int .i64 bn)∧w'.cell? ⟨w.heap.size+1,1,none⟩=some (.int .i64 bd))
   (first | exact HS.out _ hb0.drew | (go_split_ands;refine HS.out _ ?_;repeat' (first | assumption | apply Aw | apply Below.drew | (refine Ad _ _ ?_ (Below.size (by assumption))) | (refine Ad _ _ ?_ (Nat.le_succ_of_le (Below.size (by assumption)))))))
   (first
    | (go_at_call 89;go_split_ands;go_fit (Dm an (by omega) (by omega) _);rintro e w1 ⟨rfl,rfl⟩;rw[HNA.out])
    | (go_at_call 89;go_split_ands;go_fit (Dm bn (by omega) (by omega) _);rintro e w1 ⟨rfl,rfl⟩;rw[HNB.out])
    | (go_at_call 110;go_split_ands;go_fit (Oi qn1 qn2 qn10 (by omega) qn20 (by omega) _);rintro e w4 ⟨rfl,hb4⟩;rw[HNUM.out,HE1.out,HE2.out];have hb5:=Av (wr:=W0) (by assumption) hb4;first | (have hq:=ASz hb4;obtain⟨⟨c0,c1,c2,c3,c4⟩,⟨d0,d1,d2,d3,d4⟩⟩:=hq) | (have hq:=APy hb4;obtain⟨c0,c1,c2,c3,c4⟩:=hq) | skip)
    | (go_at_call 110;go_split_ands;go_fit (Oi qd1 qd2 qd10 (by omega) qd20 (by omega) _);rintro e w5 ⟨rfl,hb6⟩;rw[HDEN.out,HE3.out,HE4.out];have hb7:=Av (wr:=W0) (by assumption) hb6;have hv:Below w4.heap.size w4 w5:=(by first | exact hb6 | exact(Aa _ _).trans (hb6.mono (by simp)) | exact((Aa _ _).alloc (by simp) _).trans (hb6.mono (by simp<;>omega)));(first | (have hq:=ATq hb6;obtain⟨⟨e0,e1,e2,e3,e4⟩,⟨f0,f1,f2,f3,f4⟩⟩:=hq) | (have hq:=ATk hb6;obtain⟨e0,e1,e2,e3,e4⟩:=hq) | skip);(first | (have hq:=carry hv ⟨c0,c1,c2,c3,c4⟩;obtain⟨g0,g1,g2,g3,g4⟩:=hq) | skip);(first | (have hq:=carry hv ⟨d0,d1,d2,d3,d4⟩;obtain⟨h0,h1,h2,h3,h4⟩:=hq) | skip)))
  all_goals go_wp2_with fail
  all_goals go_meet
  all_goals refine⟨_,_,rfl,rfl,?_⟩
  all_goals first
   | (with_reducible refine AIb nq1 nq2 dq1 dq2 _ ?_);assumption
   | (with_reducible refine(AIb dq1 dq2 nq1 nq2 _ ?_).swap);assumption
   | (with_reducible refine AJb _ nq1 nq2 dq1 dq2 _ ?_ ?_ ?_);(next=>assumption);(next=>(refine⟨?_,?_,?_,?_,?_⟩<;>assumption));(next=>(first | exact nr | exact Nat.le_succ _ | exact Below.size (by assumption) | exact Nat.le_succ_of_le (Below.size (by assumption))))
   | (with_reducible refine(AJb _ dq1 dq2 nq1 nq2 _ ?_ ?_ ?_).swap);(next=>assumption);(next=>(refine⟨?_,?_,?_,?_,?_⟩<;>assumption));(next=>(first | exact nr | exact Nat.le_succ _ | exact Below.size (by assumption) | exact Nat.le_succ_of_le (Below.size (by assumption))))
   | (with_reducible refine ASu _ _ nq1 nq2 dq1 dq2 ?_ ?_ ?_ ?_ ?_ ?_);(next=>assumption);(next=>(refine⟨?_,?_,?_,?_,?_⟩<;>assumption));(next=>(refine⟨?_,?_,?_,?_,?_⟩<;>assumption));(next=>(first | exact nr | exact Nat.le_succ _ | exact Below.size (by assumption) | exact Nat.le_succ_of_le (Below.size (by assumption))));(next=>(first | exact nr | exact Nat.le_succ _ | exact Below.size (by assumption) | exact Nat.le_succ_of_le (Below.size (by assumption))));(next=>omega)
 case rest=>
  obtain⟨B7,B8,rfl,rfl,hB7,hB8,hBx,x0',x1',x2',x3'⟩:=hcut;obtain⟨W1,rfl⟩:∃W:World,W=wc:=⟨_,rfl⟩;obtain⟨hBW,l0,l1,l2,l3,l4,l5,l6,l7,l8⟩:=HK.out _ hBx;have n10:0≤nq1:=by have:=HE1.out;omega
  have n20:0≤nq2:=by have:=HE2.out;omega
  have d10:0≤dq1:=by have:=HE3.out;omega
  have d20:0≤dq2:=by have:=HE4.out;omega
  by_cases c1:0<nq1
  ·have HQ:Hid (P=(0,0,5)):=lh (HPP.out.symm.trans (AId HM1.out HM2.out (.inl (by have:=HE1.out;omega))))
   have s2:=(Ag (v0:=.int .i64 0) (v1:=.int .i64 0) l4 l5).1;have s3:=(Ag (v0:=.int .i64 0) (v1:=.int .i64 0) l4 l5).2
   go_wp2_with fail
   refine bodyPost_ret (v:=.tuple #[.agg #[.int .i64 0,.int .i64 0],.int .i64 5]) (by simp[results,Tryz.results75,go_sem,s2,s3]) rfl ⟨by rw[HQ.out],?_⟩;exact(hBW.setCell (p:=⟨w.heap.size+1+1,0,none⟩) (by simp<;>omega) _).setCell (p:=⟨w.heap.size+1+1,1,none⟩) (by simp<;>omega) _
  ·by_cases c2:0<dq1
   ·have HQ:Hid (P=(0,0,5)):=lh (HPP.out.symm.trans (AId HM1.out HM2.out (.inr (by have:=HE3.out;omega))))
    have s2:=(Ag (v0:=.int .i64 0) (v1:=.int .i64 0) l4 l5).1;have s3:=(Ag (v0:=.int .i64 0) (v1:=.int .i64 0) l4 l5).2
    go_wp2_with fail
    refine bodyPost_ret (v:=.tuple #[.agg #[.int .i64 0,.int .i64 0],.int .i64 5]) (by simp[results,Tryz.results75,go_sem,s2,s3]) rfl ⟨by rw[HQ.out],?_⟩;exact(hBW.setCell (p:=⟨w.heap.size+1+1,0,none⟩) (by simp<;>omega) _).setCell (p:=⟨w.heap.size+1+1,1,none⟩) (by simp<;>omega) _
   ·have en:num=nq2:=by have:=HE1.out;have:=HE2.out;omega
    have ed:den=dq2:=by have:=HE3.out;have:=HE4.out;omega
    have HPL:Hid (∀ng:Bool,ng=(decide (0<nq2)&&(decide (an<0)!=decide (bn<0)))→P=Eh ng nq2 dq2):=lh fun ng hng=>HPP.out.symm.trans (AKf (by omega) (by omega) (HM1.out.trans en) (HM2.out.trans ed) hng).symm;clear en ed
    by_cases c3:0<nq2
    ·have t3:=dT c3
     by_cases c4:an<0
     ·have t4:=dT c4
      by_cases c5:bn<0
      ·have t5:=dT c5
       have HQ:Hid (P=Eh false nq2 dq2):=lh (HPL.out _ (by rw[t3,t4,t5];rfl));obtain⟨R,hR⟩:=nm (Eh false nq2 dq2);rw[hR]at HQ;have HRS:=lh hR;clear hR HPL
       go_wp2_with (first | (go_at_call 91;go_fit (El false nq2 dq2 n20 d20 _);rintro e w6 ⟨rfl,hb6⟩;rw[HRS.out];have hB7x:=hBx.trans (hb6.mono hBx.size);obtain⟨hBW,l0,l1,l2,l3,l4,l5,l6,l7,l8⟩:=HK.out _ hB7x))
       have s2:=(Ag (v0:=.int .i64 R.1) (v1:=.int .i64 R.2.1) l4 l5).1;have s3:=(Ag (v0:=.int .i64 R.1) (v1:=.int .i64 R.2.1) l4 l5).2;refine bodyPost_ret (v:=.tuple #[.agg #[.int .i64 R.1,.int .i64 R.2.1],.int .i64 R.2.2]) (by simp[results,Tryz.results75,go_sem,s2,s3]) rfl ⟨by rw[HQ.out],?_⟩;exact(hBW.setCell (p:=⟨w.heap.size+1+1,0,none⟩) (by simp<;>omega) _).setCell (p:=⟨w.heap.size+1+1,1,none⟩) (by simp<;>omega) _
      ·have t5:=dF c5
       have HQ:Hid (P=Eh true nq2 dq2):=lh (HPL.out _ (by rw[t3,t4,t5];rfl));obtain⟨R,hR⟩:=nm (Eh true nq2 dq2);rw[hR]at HQ;have HRS:=lh hR;clear hR HPL
       go_wp2_with (first | (go_at_call 91;go_fit (El true nq2 dq2 n20 d20 _);rintro e w6 ⟨rfl,hb6⟩;rw[HRS.out];have hB7x:=hBx.trans (hb6.mono hBx.size);obtain⟨hBW,l0,l1,l2,l3,l4,l5,l6,l7,l8⟩:=HK.out _ hB7x))
       have s2:=(Ag (v0:=.int .i64 R.1) (v1:=.int .i64 R.2.1) l4 l5).1;have s3:=(Ag (v0:=.int .i64 R.1) (v1:=.int .i64 R.2.1) l4 l5).2;refine bodyPost_ret (v:=.tuple #[.agg #[.int .i64 R.1,.int .i64 R.2.1],.int .i64 R.2.2]) (by simp[results,Tryz.results75,go_sem,s2,s3]) rfl ⟨by rw[HQ.out],?_⟩;exact(hBW.setCell (p:=⟨w.heap.size+1+1,0,none⟩) (by simp<;>omega) _).setCell (p:=⟨w.heap.size+1+1,1,none⟩) (by simp<;>omega) _
     ·have t4:=dF c4
      by_cases c5:bn<0
      ·have t5:=dT c5
       have HQ:Hid (P=Eh true nq2 dq2):=lh (HPL.out _ (by rw[t3,t4,t5];rfl));obtain⟨R,hR⟩:=nm (Eh true nq2 dq2);rw[hR]at HQ;have HRS:=lh hR;clear hR HPL
       go_wp2_with (first | (go_at_call 91;go_fit (El true nq2 dq2 n20 d20 _);rintro e w6 ⟨rfl,hb6⟩;rw[HRS.out];have hB7x:=hBx.trans (hb6.mono hBx.size);obtain⟨hBW,l0,l1,l2,l3,l4,l5,l6,l7,l8⟩:=HK.out _ hB7x))
       have s2:=(Ag (v0:=.int .i64 R.1) (v1:=.int .i64 R.2.1) l4 l5).1;have s3:=(Ag (v0:=.int .i64 R.1) (v1:=.int .i64 R.2.1) l4 l5).2;refine bodyPost_ret (v:=.tuple #[.agg #[.int .i64 R.1,.int .i64 R.2.1],.int .i64 R.2.2]) (by simp[results,Tryz.results75,go_sem,s2,s3]) rfl ⟨by rw[HQ.out],?_⟩;exact(hBW.setCell (p:=⟨w.heap.size+1+1,0,none⟩) (by simp<;>omega) _).setCell (p:=⟨w.heap.size+1+1,1,none⟩) (by simp<;>omega) _
      ·have t5:=dF c5
       have HQ:Hid (P=Eh false nq2 dq2):=lh (HPL.out _ (by rw[t3,t4,t5];rfl));obtain⟨R,hR⟩:=nm (Eh false nq2 dq2);rw[hR]at HQ;have HRS:=lh hR;clear hR HPL
       go_wp2_with (first | (go_at_call 91;go_fit (El false nq2 dq2 n20 d20 _);rintro e w6 ⟨rfl,hb6⟩;rw[HRS.out];have hB7x:=hBx.trans (hb6.mono hBx.size);obtain⟨hBW,l0,l1,l2,l3,l4,l5,l6,l7,l8⟩:=HK.out _ hB7x))
       have s2:=(Ag (v0:=.int .i64 R.1) (v1:=.int .i64 R.2.1) l4 l5).1;have s3:=(Ag (v0:=.int .i64 R.1) (v1:=.int .i64 R.2.1) l4 l5).2;refine bodyPost_ret (v:=.tuple #[.agg #[.int .i64 R.1,.int .i64 R.2.1],.int .i64 R.2.2]) (by simp[results,Tryz.results75,go_sem,s2,s3]) rfl ⟨by rw[HQ.out],?_⟩;exact(hBW.setCell (p:=⟨w.heap.size+1+1,0,none⟩) (by simp<;>omega) _).setCell (p:=⟨w.heap.size+1+1,1,none⟩) (by simp<;>omega) _
    ·have t3:=dF c3
     have HQ:Hid (P=Eh false nq2 dq2):=lh (HPL.out _ (by rw[t3];rfl));obtain⟨R,hR⟩:=nm (Eh false nq2 dq2);rw[hR]at HQ;have HRS:=lh hR;clear hR HPL
     go_wp2_with (first | (go_at_call 91;go_fit (El false nq2 dq2 n20 d20 _);rintro e w6 ⟨rfl,hb6⟩;rw[HRS.out];have hB7x:=hBx.trans (hb6.mono hBx.size);obtain⟨hBW,l0,l1,l2,l3,l4,l5,l6,l7,l8⟩:=HK.out _ hB7x))
     have s2:=(Ag (v0:=.int .i64 R.1) (v1:=.int .i64 R.2.1) l4 l5).1;have s3:=(Ag (v0:=.int .i64 R.1) (v1:=.int .i64 R.2.1) l4 l5).2;refine bodyPost_ret (v:=.tuple #[.agg #[.int .i64 R.1,.int .i64 R.2.1],.int .i64 R.2.2]) (by simp[results,Tryz.results75,go_sem,s2,s3]) rfl ⟨by rw[HQ.out],?_⟩;exact(hBW.setCell (p:=⟨w.heap.size+1+1,0,none⟩) (by simp<;>omega) _).setCell (p:=⟨w.heap.size+1+1,1,none⟩) (by simp<;>omega) _
end
end Go.Proofs.YtebofaenlhhkaaaGreat
