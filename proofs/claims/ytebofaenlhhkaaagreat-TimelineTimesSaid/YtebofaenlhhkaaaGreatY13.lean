import Derived.Test.YtebofaenlhhkaaaGreatY12
import Derived.Test.YtebofaenlhhkaaaGreatY11
namespace Go.Proofs.YtebofaenlhhkaaaGreat
set_option maxRecDepth 100000
set_option maxHeartbeats 80000000
section
open Go.RowKit Go.Shelf
theorem Zs{a:Int}(h0:0≤a)(h:a<18446744073709551616):Cr a=0:=by unfold Cr;omega
theorem Xv{a:Int}(h0:0≤a)(h:a<18446744073709551616):Cy a=a:=by unfold Cy;omega
theorem ACl{a:Int}(_:0≤a)(h:0<Cr a):18446744073709551616≤a:=by unfold Cr at h;omega
theorem Wl{a:Int}(_:0≤a)(h:¬0<Cr a):a<18446744073709551616:=by unfold Cr at h;omega
theorem ACj{ng:Bool}{n d:Int}(h:18446744073709551616≤n∨18446744073709551616≤d):Eh ng n d=(0,0,5):=by unfold Eh;rw[if_pos (by omega)]

theorem Ss(an ad bn bd:Int)(va:Cf an ad=true)(vb:Cf bn bd=true)(w:World):
  Calls Tryz.prog 124 #[.agg #[.int .i64 an,.int .i64 ad],.agg #[.int .i64 bn,.int .i64 bd]] w fun e w'=>e=.returned (.tuple #[.agg #[.int .i64 (Jn an ad bn bd).1,.int .i64 (Jn an ad bn bd).2.1],.int .i64 (Jn an ad bn bd).2.2])∧Below w.heap.size w w':=by
 obtain⟨P,hP⟩:=nm (Jn an ad bn bd);have HPP:=lh hP;rw[hP];clear hP;obtain⟨a1,a2,a3,a4,a5⟩:=(Bj _ _).1 va;obtain⟨b1,b2,b3,b4,b5⟩:=(Bj _ _).1 vb;have HVA:=lh va;have HVB:=lh vb;obtain⟨g,hg⟩:=nm ((Int.gcd ad bd:Int):Int);have HG:=lh hg;have gp:0<g:=by rw[←hg];exact Dn (by omega)
 have g0:¬g=0:=by omega
 have g0':(g==0)=false:=by simpa using g0
 obtain⟨qa,hqa⟩:=nm (ad/g:Int);obtain⟨qb,hqb⟩:=nm (bd/g:Int);have ga:g∣ad:=by rw[←hg];exact Int.gcd_dvd_left _ _
 have gb:g∣bd:=by rw[←hg];exact Int.gcd_dvd_right _ _
 have qa0:0≤qa:=by rw[←hqa];exact Int.ediv_nonneg (by omega) (by omega)
 have qb0:0≤qb:=by rw[←hqb];exact Int.ediv_nonneg (by omega) (by omega)
 have qa1:qa≤ad:=by rw[←hqa];exact Int.ediv_le_self g (by omega)
 have qb1:qb≤bd:=by rw[←hqb];exact Int.ediv_le_self g (by omega)
 have wa:IntKind.u64.wrap ad=ad:=by rw[IntKind.wrap_u64];omega
 have wb:IntKind.u64.wrap bd=bd:=by rw[IntKind.wrap_u64];omega
 have da:IntKind.u64.wrap (ad.tdiv g)=qa:=by rw[Int.tdiv_eq_ediv_of_nonneg (by omega),hqa,IntKind.wrap_u64];omega
 have db:IntKind.u64.wrap (bd.tdiv g)=qb:=by rw[Int.tdiv_eq_ediv_of_nonneg (by omega),hqb,IntKind.wrap_u64];omega
 obtain⟨na,hna⟩:=nm ((an.natAbs:Int):Int);obtain⟨nb,hnb⟩:=nm ((bn.natAbs:Int):Int);have na0:0≤na:=by omega
 have nb0:0≤nb:=by omega
 have na1:na<18446744073709551616:=by omega
 have nb1:nb<18446744073709551616:=by omega
 obtain⟨x,hx⟩:=nm (na*qb:Int);obtain⟨y,hy⟩:=nm (nb*qa:Int);have x0:0≤x:=by rw[←hx];exact Int.mul_nonneg na0 qb0
 have y0:0≤y:=by rw[←hy];exact Int.mul_nonneg nb0 qa0
 have HNA:=lh hna;have HNB:=lh hnb;have HX:=lh hx;have HY:=lh hy;have HQA:=lh hqa;have HQB:=lh hqb;have HGA:=lh ga;have HGB:=lh gb;have HA5:=lh a5;have HB5:=lh b5;have nx:x≤1329227995784915872903807060280344576:=by rw[←hx];exact Int.mul_le_mul (show na≤1152921504606846976 by omega) (show qb≤1152921504606846976 by omega) qb0 (by decide)
 have ny:y≤1329227995784915872903807060280344576:=by rw[←hy];exact Int.mul_le_mul (show nb≤1152921504606846976 by omega) (show qa≤1152921504606846976 by omega) qa0 (by decide)
 clear hg hqa hqb ga gb hna hnb hx hy a5 b5 va vb
 go_enter Tryz.func124,Tryz.ntmps124
 go_upto_region 4 with (first
  | (go_at_call 68;go_fit (Df an ad _);rintro e w1 ⟨rfl,hb1⟩;rw[HVA.out];have z0:w1.cell? ⟨w.heap.size,0,none⟩=some (.int .i64 an):=(hb1.cell (p:=⟨w.heap.size,0,none⟩) (by simp<;>omega)).trans (by simp[go_sem,World.cell?_alloc_past]);have z1:w1.cell? ⟨w.heap.size,1,none⟩=some (.int .i64 ad):=(hb1.cell (p:=⟨w.heap.size,1,none⟩) (by simp<;>omega)).trans (by simp[go_sem,World.cell?_alloc_past]);have z2:w1.cell? ⟨w.heap.size+1,0,none⟩=some (.int .i64 bn):=(hb1.cell (p:=⟨w.heap.size+1,0,none⟩) (by simp<;>omega)).trans (by simp[go_sem,World.cell?_alloc_past]);have z3:w1.cell? ⟨w.heap.size+1,1,none⟩=some (.int .i64 bd):=(hb1.cell (p:=⟨w.heap.size+1,1,none⟩) (by simp<;>omega)).trans (by simp[go_sem,World.cell?_alloc_past]))
  | (go_at_call 68;go_fit (Df bn bd _);rintro e w2 ⟨rfl,hb2⟩;rw[HVB.out];have z5:w2.cell? ⟨w.heap.size,1,none⟩=some (.int .i64 ad):=(ct hb2 z1 (wl z1));have z6:w2.cell? ⟨w.heap.size+1,1,none⟩=some (.int .i64 bd):=(ct hb2 z3 (wl z3)))
  | (go_at_call 90;go_fit (Jg ad bd (by omega) (by omega) (by omega) (by omega) _);rintro e w3 ⟨rfl,m,rfl⟩;rw[HG.out]))
 have hb3:=Aj (hb1.trans (hb2.mono hb1.size)) m;have k0:(w2.drewN m).cell? ⟨w.heap.size,0,none⟩=some (.int .i64 an):=(hb3.cell (p:=⟨w.heap.size,0,none⟩) (by simp<;>omega)).trans (by simp[go_sem,World.cell?_alloc_past]);have k1:(w2.drewN m).cell? ⟨w.heap.size,1,none⟩=some (.int .i64 ad):=(hb3.cell (p:=⟨w.heap.size,1,none⟩) (by simp<;>omega)).trans (by simp[go_sem,World.cell?_alloc_past]);have k2:(w2.drewN m).cell? ⟨w.heap.size+1,0,none⟩=some (.int .i64 bn):=(hb3.cell (p:=⟨w.heap.size+1,0,none⟩) (by simp<;>omega)).trans (by simp[go_sem,World.cell?_alloc_past]);have k3:(w2.drewN m).cell? ⟨w.heap.size+1,1,none⟩=some (.int .i64 bd):=(hb3.cell (p:=⟨w.heap.size+1,1,none⟩) (by simp<;>omega)).trans (by simp[go_sem,World.cell?_alloc_past]);have k4:(w2.drewN m).cell? ⟨w.heap.size+1+1,0,none⟩=some (.int .i64 0):=(hb3.cell (p:=⟨w.heap.size+1+1,0,none⟩) (by simp<;>omega)).trans (by simp[go_sem]);have k5:(w2.drewN m).cell? ⟨w.heap.size+1+1,1,none⟩=some (.int .i64 0):=(hb3.cell (p:=⟨w.heap.size+1+1,1,none⟩) (by simp<;>omega)).trans (by simp[go_sem]);have k6:(w2.drewN m).frozen? ⟨w.heap.size+1+1,0,none⟩=false:=(hb3.frozen (p:=⟨w.heap.size+1+1,0,none⟩) (by simp<;>omega)).trans (by simp[go_sem]);have k7:(w2.drewN m).frozen? ⟨w.heap.size+1+1,1,none⟩=false:=(hb3.frozen (p:=⟨w.heap.size+1+1,1,none⟩) (by simp<;>omega)).trans (by simp[go_sem]);have hW:=(((Aa w (.cells #[.int .i64 an,.int .i64 ad] 49)).alloc (by simp) (.cells #[.int .i64 bn,.int .i64 bd] 49)).alloc (by simp<;>omega) (.cells #[.int .i64 0,.int .i64 0] 49)).trans (hb3.mono (by simp<;>omega));have hz:w.heap.size+1+1<(w2.drewN m).heap.size:=by have:=hb3.size;simp at this⊢;omega
 clear hb3 hb1 hb2 z0 z1 z2 z3 z5 z6;generalize w2.drewN m=W0 at *
 have HK:Hid (∀w',Below W0.heap.size W0 w'→Below w.heap.size w w'∧w'.cell? ⟨w.heap.size,0,none⟩=some (.int .i64 an)∧w'.cell? ⟨w.heap.size,1,none⟩=some (.int .i64 ad)∧w'.cell? ⟨w.heap.size+1,0,none⟩=some (.int .i64 bn)∧w'.cell? ⟨w.heap.size+1,1,none⟩=some (.int .i64 bd)∧w'.cell? ⟨w.heap.size+1+1,0,none⟩=some (.int .i64 0)∧w'.cell? ⟨w.heap.size+1+1,1,none⟩=some (.int .i64 0)∧w'.frozen? ⟨w.heap.size+1+1,0,none⟩=false∧w'.frozen? ⟨w.heap.size+1+1,1,none⟩=false∧w.heap.size+1+1<w'.heap.size):=lh fun w' h=>
  ⟨hW.trans (h.mono (by omega)),(ct h k0),(ct h k1),(ct h k2),(ct h k3),(ct h k4),(ct h k5),(h.frozen (p:=⟨w.heap.size+1+1,0,none⟩) (by simp<;>omega)).trans k6,(h.frozen (p:=⟨w.heap.size+1+1,1,none⟩) (by simp<;>omega)).trans k7,by have:=h.size;omega⟩
 have HS:Hid (∀w',Below W0.heap.size W0 w'→Below W0.heap.size W0 w'∧w'.cell? ⟨w.heap.size,0,none⟩=some (.int .i64 an)∧w'.cell? ⟨w.heap.size,1,none⟩=some (.int .i64 ad)∧w'.cell? ⟨w.heap.size+1,0,none⟩=some (.int .i64 bn)∧w'.cell? ⟨w.heap.size+1,1,none⟩=some (.int .i64 bd)):=lh fun w' h=>
  ⟨h,(HK.out _ h).2.1,(HK.out _ h).2.2.1,(HK.out _ h).2.2.2.1,(HK.out _ h).2.2.2.2.1⟩
 have hb0:=Below.refl W0.heap.size W0;have hbd:=hb0.drew;clear k0 k1 k2 k3 k4 k5 k6 k7 hW
 go_cut [7,8] (fun v7 v8 wx=>∃B7 B8:Nat,v7=.pointer (some ⟨B7,0,none⟩)∧v8=.pointer (some ⟨B8,0,none⟩)∧ACd W0 B7 B8 (Cr x) (Cy x) (Cr y) (Cy y) wx)
 case first=>
  go_region_held3 (fun w'=>Below W0.heap.size W0 w'∧w'.cell? ⟨w.heap.size,0,none⟩=some (.int .i64 an)∧w'.cell? ⟨w.heap.size,1,none⟩=some (.int .i64 ad)∧w'.cell? ⟨w.heap.size+1,0,none⟩=some (.int .i64 bn)∧w'.cell? ⟨w.heap.size+1,1,none⟩=some (.int .i64 bd))
   (first | exact HS.out _ hb0.drew | (go_split_ands;refine HS.out _ ?_;repeat' (first | assumption | apply Aw | apply Below.drew | (refine Ad _ _ ?_ (Below.size (by assumption))) | (refine Ad _ _ ?_ (Nat.le_succ_of_le (Below.size (by assumption)))))))
   (first
    | (go_at_call 89;go_split_ands;go_fit (Dm an (by omega) (by omega) _);rintro e w1 ⟨rfl,rfl⟩;rw[HNA.out])
    | (go_at_call 89;go_split_ands;go_fit (Dm bn (by omega) (by omega) _);rintro e w1 ⟨rfl,rfl⟩;rw[HNB.out])
    | (go_at_call 110;go_split_ands;go_fit (Cg na qb na0 na1 qb0 (by omega) _);rintro e w4 ⟨rfl,hb4⟩;rw[HX.out];have hb5:=Av (wr:=W0) (by assumption) hb4;first | (have hq:=ASz hb4;obtain⟨⟨c0,c1,c2,c3,c4⟩,⟨d0,d1,d2,d3,d4⟩⟩:=hq) | (have hq:=APy hb4;obtain⟨c0,c1,c2,c3,c4⟩:=hq) | skip)
    | (go_at_call 110;go_split_ands;go_fit (Cg nb qa nb0 nb1 qa0 (by omega) _);rintro e w5 ⟨rfl,hb6⟩;rw[HY.out];have hb7:=Av (wr:=W0) (by assumption) hb6;have hv:Below w4.heap.size w4 w5:=(by first | exact hb6 | exact(Aa _ _).trans (hb6.mono (by simp)) | exact((Aa _ _).alloc (by simp) _).trans (hb6.mono (by simp<;>omega)));(first | (have hq:=ATq hb6;obtain⟨⟨e0,e1,e2,e3,e4⟩,⟨f0,f1,f2,f3,f4⟩⟩:=hq) | (have hq:=ATk hb6;obtain⟨e0,e1,e2,e3,e4⟩:=hq) | skip);(first | (have hq:=carry hv ⟨c0,c1,c2,c3,c4⟩;obtain⟨g0,g1,g2,g3,g4⟩:=hq) | skip);(first | (have hq:=carry hv ⟨d0,d1,d2,d3,d4⟩;obtain⟨h0,h1,h2,h3,h4⟩:=hq) | skip)))
  all_goals go_wp2_with fail
  all_goals go_meet
  all_goals refine⟨_,_,rfl,rfl,?_⟩
  all_goals first
   | (with_reducible refine AIb (Cr x) (Cy x) (Cr y) (Cy y) _ ?_);assumption
   | (with_reducible refine(AIb (Cr y) (Cy y) (Cr x) (Cy x) _ ?_).swap);assumption
   | (with_reducible refine AJb _ (Cr x) (Cy x) (Cr y) (Cy y) _ ?_ ?_ ?_);(next=>assumption);(next=>(refine⟨?_,?_,?_,?_,?_⟩<;>assumption));(next=>(first | exact nr | exact Nat.le_succ _ | exact Below.size (by assumption) | exact Nat.le_succ_of_le (Below.size (by assumption))))
   | (with_reducible refine(AJb _ (Cr y) (Cy y) (Cr x) (Cy x) _ ?_ ?_ ?_).swap);(next=>assumption);(next=>(refine⟨?_,?_,?_,?_,?_⟩<;>assumption));(next=>(first | exact nr | exact Nat.le_succ _ | exact Below.size (by assumption) | exact Nat.le_succ_of_le (Below.size (by assumption))))
   | (with_reducible refine ASu _ _ (Cr x) (Cy x) (Cr y) (Cy y) ?_ ?_ ?_ ?_ ?_ ?_);(next=>assumption);(next=>(refine⟨?_,?_,?_,?_,?_⟩<;>assumption));(next=>(refine⟨?_,?_,?_,?_,?_⟩<;>assumption));(next=>(first | exact nr | exact Nat.le_succ _ | exact Below.size (by assumption) | exact Nat.le_succ_of_le (Below.size (by assumption))));(next=>(first | exact nr | exact Nat.le_succ _ | exact Below.size (by assumption) | exact Nat.le_succ_of_le (Below.size (by assumption))));(next=>omega)
 case rest=>
  obtain⟨B7,B8,rfl,rfl,hB7,hB8,hBx,x0',x1',x2',x3'⟩:=hcut;obtain⟨W1,rfl⟩:∃W:World,W=wc:=⟨_,rfl⟩;have p7:=wl x0';have p8:=wl x2';simp only at p7 p8;obtain⟨S,hS⟩:∃S:Int,S=an*qb+bn*qa:=⟨_,rfl⟩;obtain⟨nS,hn⟩:∃n:Int,n=(S.natAbs:Int):=⟨_,rfl⟩;have nS0:0≤nS:=by omega
  have MA:=Zn an qb x (by rw[HNA.out];exact HX.out);have MB:=Zn bn qa y (by rw[HNB.out];exact HY.out);have nSy:nS≤x+y:=by rcases MA with ⟨_,e⟩ | ⟨_,e⟩<;>rcases MB with ⟨_,e'⟩ | ⟨_,e'⟩<;>omega
  have HSS:=lh hS;have HNS:=lh hn;have HMA:=lh MA;have HMB:=lh MB;clear MA MB hS hn
  go_upto_region 5 with (fail)
  go_cut [9,10] (fun v9 v10 wx=>v9=.bool (decide (an<0))∧v10=.pointer (some ⟨W1.heap.size,0,none⟩)∧wx=W1.alloc (.cells #[.int .u64 0,.int .u64 0] 184))
  case first=>
   obtain⟨_,l0,l1,l2,l3,_⟩:=HK.out _ hBx
   go_wp2_with fail
   go_meet
   exact⟨rfl,rfl,rfl⟩
  case rest=>
   obtain⟨rfl,rfl,rfl⟩:=hcut;have hBn:Below W0.heap.size W0 (W1.alloc (.cells #[.int .u64 0,.int .u64 0] 184)):=Aw _ hBx
   have HX7:Hid (∀w',Below (W1.alloc (.cells #[.int .u64 0,.int .u64 0] 184)).heap.size (W1.alloc (.cells #[.int .u64 0,.int .u64 0] 184)) w'→w'.cell? ⟨B7,0,none⟩=some (.int .u64 (Cr x))∧w'.cell? ⟨B7,1,none⟩=some (.int .u64 (Cy x))∧w'.cell? ⟨B8,0,none⟩=some (.int .u64 (Cr y))∧w'.cell? ⟨B8,1,none⟩=some (.int .u64 (Cy y))):=lh fun w' h=>
    ⟨(h.cell (p:=⟨B7,0,none⟩) (by simp<;>omega)).trans ((World.cell?_alloc_lt _ _ _ p7).trans x0'),(h.cell (p:=⟨B7,1,none⟩) (by simp<;>omega)).trans ((World.cell?_alloc_lt _ _ _ p7).trans x1'),(h.cell (p:=⟨B8,0,none⟩) (by simp<;>omega)).trans ((World.cell?_alloc_lt _ _ _ p8).trans x2'),(h.cell (p:=⟨B8,1,none⟩) (by simp<;>omega)).trans ((World.cell?_alloc_lt _ _ _ p8).trans x3')⟩
   have HXT:Hid (∀w',Below (W1.alloc (.cells #[.int .u64 0,.int .u64 0] 184)).heap.size (W1.alloc (.cells #[.int .u64 0,.int .u64 0] 184)) w'→Rq w' W1.heap.size):=lh fun w' h=>carry h (ARd W1 _);have hsz:W1.heap.size<(W1.alloc (.cells #[.int .u64 0,.int .u64 0] 184)).heap.size:=by simp
   have hW01:W0.heap.size≤W1.heap.size:=hBx.size;clear x0' x1' x2' x3' p7 p8;generalize W1.alloc (.cells #[.int .u64 0,.int .u64 0] 184)=W2 at *;generalize W1.heap.size=BT at *;have hb2:=Below.refl W2.heap.size W2;obtain⟨y0',y1',y2',y3'⟩:=HX7.out _ hb2;obtain⟨_,l0,l1,l2,l3,_⟩:=HK.out _ hBn;obtain⟨t0,t1,t2,t3,t4⟩:=HXT.out _ hb2
   apply_assumption
   go_step
   go_cut [9,10] (fun v9 v10 wx=>∃ng:Bool,v9=.bool ng∧v10=.pointer (some ⟨BT,0,none⟩)∧Hid (nS≠0→ng=decide (S<0))∧Below W0.heap.size W0 wx∧wx.cell? ⟨BT,0,none⟩=some (.int .u64 (Cr nS))∧wx.cell? ⟨BT,1,none⟩=some (.int .u64 (Cy nS))∧wx.frozen? ⟨BT,0,none⟩=false∧wx.frozen? ⟨BT,1,none⟩=false)
   case first=>
    by_cases ca:an<0
    ·have ea:=dT ca
     by_cases cb:bn<0
     ·have eb:=dT cb
      have HEN:Hid (nS=x+y):=lh (by have:=HMA.out;have:=HMB.out;have:=HSS.out;have:=HNS.out;omega);have HR:Hid (nS≠0→true=decide (S<0)):=lh (fun h=>by have:=HMA.out;have:=HMB.out;have:=HSS.out;have:=HNS.out;rw[dT (by omega)]);clear ca cb
      go_wp2_with (go_at_call 164;go_fit (Yx x y x0 y0 (by omega) _);rintro e w6 ⟨rfl,hb6⟩;rw[←HEN.out];obtain⟨t0,t1,t2,t3,t4⟩:=HXT.out _ hb6)
      have s0:=World.cell?_setCell_same w6 ⟨BT,0,none⟩ (.int .u64 (Cr nS)) t0;have s1:(w6.setCell ⟨BT,0,none⟩ (.int .u64 (Cr nS))).cell? ⟨BT,1,none⟩=some (.int .u64 0):=(World.cell?_setCell_other _ _ _ _ (fun x=>absurd (congrArg Addr.off x) (by simp))).trans t1;have s2:=World.cell?_setCell_same _ ⟨BT,1,none⟩ (.int .u64 (Cy nS)) s1;have s3:((w6.setCell ⟨BT,0,none⟩ (.int .u64 (Cr nS))).setCell ⟨BT,1,none⟩ (.int .u64 (Cy nS))).cell? ⟨BT,0,none⟩=some (.int .u64 (Cr nS)):=(World.cell?_setCell_other _ _ _ _ (fun x=>absurd (congrArg Addr.off x) (by simp))).trans s0
      go_meet
      exact⟨_,rfl,rfl,HR,Ad ⟨BT,1,none⟩ _ (Ad ⟨BT,0,none⟩ _ (hBn.trans (hb6.mono hBn.size)) hW01) hW01,s3,s2,by simpa using t2,by simpa using t3⟩
     ·have eb:=dF cb
      by_cases cl:x<y
      ·have el:=dT cl
       have HEN:Hid (nS=y-x):=lh (by have:=HMA.out;have:=HMB.out;have:=HSS.out;have:=HNS.out;omega);have HR:Hid (nS≠0→false=decide (S<0)):=lh (fun h=>by have:=HMA.out;have:=HMB.out;have:=HSS.out;have:=HNS.out;rw[dF (by omega)]);clear ca cb
       go_wp2_with (first | (go_at_call 157;go_fit (Ec x y _);rintro e w5 ⟨rfl,hb5⟩;rw[el];obtain⟨y0',y1',y2',y3'⟩:=HX7.out _ hb5) | (go_at_call 165;go_fit (Ns y x (by omega) x0 (by omega) _);rintro e w6 ⟨rfl,hb6'⟩;rw[←HEN.out];have hb6:=Av (wr:=W2) hb5 hb6';obtain⟨t0,t1,t2,t3,t4⟩:=HXT.out _ hb6))
       have s0:=World.cell?_setCell_same w6 ⟨BT,0,none⟩ (.int .u64 (Cr nS)) t0;have s1:(w6.setCell ⟨BT,0,none⟩ (.int .u64 (Cr nS))).cell? ⟨BT,1,none⟩=some (.int .u64 0):=(World.cell?_setCell_other _ _ _ _ (fun x=>absurd (congrArg Addr.off x) (by simp))).trans t1;have s2:=World.cell?_setCell_same _ ⟨BT,1,none⟩ (.int .u64 (Cy nS)) s1;have s3:((w6.setCell ⟨BT,0,none⟩ (.int .u64 (Cr nS))).setCell ⟨BT,1,none⟩ (.int .u64 (Cy nS))).cell? ⟨BT,0,none⟩=some (.int .u64 (Cr nS)):=(World.cell?_setCell_other _ _ _ _ (fun x=>absurd (congrArg Addr.off x) (by simp))).trans s0
       go_meet
       exact⟨_,rfl,rfl,HR,Ad ⟨BT,1,none⟩ _ (Ad ⟨BT,0,none⟩ _ (hBn.trans (hb6.mono hBn.size)) hW01) hW01,s3,s2,by simpa using t2,by simpa using t3⟩
      ·have el:=dF cl
       have HEN:Hid (nS=x-y):=lh (by have:=HMA.out;have:=HMB.out;have:=HSS.out;have:=HNS.out;omega);have HR:Hid (nS≠0→true=decide (S<0)):=lh (fun h=>by have:=HMA.out;have:=HMB.out;have:=HSS.out;have:=HNS.out;rw[dT (by omega)]);clear ca cb
       go_wp2_with (first | (go_at_call 157;go_fit (Ec x y _);rintro e w5 ⟨rfl,hb5⟩;rw[el];obtain⟨y0',y1',y2',y3'⟩:=HX7.out _ hb5) | (go_at_call 165;go_fit (Ns x y (by omega) y0 (by omega) _);rintro e w6 ⟨rfl,hb6'⟩;rw[←HEN.out];have hb6:=Av (wr:=W2) hb5 hb6';obtain⟨t0,t1,t2,t3,t4⟩:=HXT.out _ hb6))
       have s0:=World.cell?_setCell_same w6 ⟨BT,0,none⟩ (.int .u64 (Cr nS)) t0;have s1:(w6.setCell ⟨BT,0,none⟩ (.int .u64 (Cr nS))).cell? ⟨BT,1,none⟩=some (.int .u64 0):=(World.cell?_setCell_other _ _ _ _ (fun x=>absurd (congrArg Addr.off x) (by simp))).trans t1;have s2:=World.cell?_setCell_same _ ⟨BT,1,none⟩ (.int .u64 (Cy nS)) s1;have s3:((w6.setCell ⟨BT,0,none⟩ (.int .u64 (Cr nS))).setCell ⟨BT,1,none⟩ (.int .u64 (Cy nS))).cell? ⟨BT,0,none⟩=some (.int .u64 (Cr nS)):=(World.cell?_setCell_other _ _ _ _ (fun x=>absurd (congrArg Addr.off x) (by simp))).trans s0
       go_meet
       exact⟨_,rfl,rfl,HR,Ad ⟨BT,1,none⟩ _ (Ad ⟨BT,0,none⟩ _ (hBn.trans (hb6.mono hBn.size)) hW01) hW01,s3,s2,by simpa using t2,by simpa using t3⟩
    ·have ea:=dF ca
     by_cases cb:bn<0
     ·have eb:=dT cb
      by_cases cl:x<y
      ·have el:=dT cl
       have HEN:Hid (nS=y-x):=lh (by have:=HMA.out;have:=HMB.out;have:=HSS.out;have:=HNS.out;omega);have HR:Hid (nS≠0→true=decide (S<0)):=lh (fun h=>by have:=HMA.out;have:=HMB.out;have:=HSS.out;have:=HNS.out;rw[dT (by omega)]);clear ca cb
       go_wp2_with (first | (go_at_call 157;go_fit (Ec x y _);rintro e w5 ⟨rfl,hb5⟩;rw[el];obtain⟨y0',y1',y2',y3'⟩:=HX7.out _ hb5) | (go_at_call 165;go_fit (Ns y x (by omega) x0 (by omega) _);rintro e w6 ⟨rfl,hb6'⟩;rw[←HEN.out];have hb6:=Av (wr:=W2) hb5 hb6';obtain⟨t0,t1,t2,t3,t4⟩:=HXT.out _ hb6))
       have s0:=World.cell?_setCell_same w6 ⟨BT,0,none⟩ (.int .u64 (Cr nS)) t0;have s1:(w6.setCell ⟨BT,0,none⟩ (.int .u64 (Cr nS))).cell? ⟨BT,1,none⟩=some (.int .u64 0):=(World.cell?_setCell_other _ _ _ _ (fun x=>absurd (congrArg Addr.off x) (by simp))).trans t1;have s2:=World.cell?_setCell_same _ ⟨BT,1,none⟩ (.int .u64 (Cy nS)) s1;have s3:((w6.setCell ⟨BT,0,none⟩ (.int .u64 (Cr nS))).setCell ⟨BT,1,none⟩ (.int .u64 (Cy nS))).cell? ⟨BT,0,none⟩=some (.int .u64 (Cr nS)):=(World.cell?_setCell_other _ _ _ _ (fun x=>absurd (congrArg Addr.off x) (by simp))).trans s0
       go_meet
       exact⟨_,rfl,rfl,HR,Ad ⟨BT,1,none⟩ _ (Ad ⟨BT,0,none⟩ _ (hBn.trans (hb6.mono hBn.size)) hW01) hW01,s3,s2,by simpa using t2,by simpa using t3⟩
      ·have el:=dF cl
       have HEN:Hid (nS=x-y):=lh (by have:=HMA.out;have:=HMB.out;have:=HSS.out;have:=HNS.out;omega);have HR:Hid (nS≠0→false=decide (S<0)):=lh (fun h=>by have:=HMA.out;have:=HMB.out;have:=HSS.out;have:=HNS.out;rw[dF (by omega)]);clear ca cb
       go_wp2_with (first | (go_at_call 157;go_fit (Ec x y _);rintro e w5 ⟨rfl,hb5⟩;rw[el];obtain⟨y0',y1',y2',y3'⟩:=HX7.out _ hb5) | (go_at_call 165;go_fit (Ns x y (by omega) y0 (by omega) _);rintro e w6 ⟨rfl,hb6'⟩;rw[←HEN.out];have hb6:=Av (wr:=W2) hb5 hb6';obtain⟨t0,t1,t2,t3,t4⟩:=HXT.out _ hb6))
       have s0:=World.cell?_setCell_same w6 ⟨BT,0,none⟩ (.int .u64 (Cr nS)) t0;have s1:(w6.setCell ⟨BT,0,none⟩ (.int .u64 (Cr nS))).cell? ⟨BT,1,none⟩=some (.int .u64 0):=(World.cell?_setCell_other _ _ _ _ (fun x=>absurd (congrArg Addr.off x) (by simp))).trans t1;have s2:=World.cell?_setCell_same _ ⟨BT,1,none⟩ (.int .u64 (Cy nS)) s1;have s3:((w6.setCell ⟨BT,0,none⟩ (.int .u64 (Cr nS))).setCell ⟨BT,1,none⟩ (.int .u64 (Cy nS))).cell? ⟨BT,0,none⟩=some (.int .u64 (Cr nS)):=(World.cell?_setCell_other _ _ _ _ (fun x=>absurd (congrArg Addr.off x) (by simp))).trans s0
       go_meet
       exact⟨_,rfl,rfl,HR,Ad ⟨BT,1,none⟩ _ (Ad ⟨BT,0,none⟩ _ (hBn.trans (hb6.mono hBn.size)) hW01) hW01,s3,s2,by simpa using t2,by simpa using t3⟩
     ·have eb:=dF cb
      have HEN:Hid (nS=x+y):=lh (by have:=HMA.out;have:=HMB.out;have:=HSS.out;have:=HNS.out;omega);have HR:Hid (nS≠0→false=decide (S<0)):=lh (fun h=>by have:=HMA.out;have:=HMB.out;have:=HSS.out;have:=HNS.out;rw[dF (by omega)]);clear ca cb
      go_wp2_with (go_at_call 164;go_fit (Yx x y x0 y0 (by omega) _);rintro e w6 ⟨rfl,hb6⟩;rw[←HEN.out];obtain⟨t0,t1,t2,t3,t4⟩:=HXT.out _ hb6)
      have s0:=World.cell?_setCell_same w6 ⟨BT,0,none⟩ (.int .u64 (Cr nS)) t0;have s1:(w6.setCell ⟨BT,0,none⟩ (.int .u64 (Cr nS))).cell? ⟨BT,1,none⟩=some (.int .u64 0):=(World.cell?_setCell_other _ _ _ _ (fun x=>absurd (congrArg Addr.off x) (by simp))).trans t1;have s2:=World.cell?_setCell_same _ ⟨BT,1,none⟩ (.int .u64 (Cy nS)) s1;have s3:((w6.setCell ⟨BT,0,none⟩ (.int .u64 (Cr nS))).setCell ⟨BT,1,none⟩ (.int .u64 (Cy nS))).cell? ⟨BT,0,none⟩=some (.int .u64 (Cr nS)):=(World.cell?_setCell_other _ _ _ _ (fun x=>absurd (congrArg Addr.off x) (by simp))).trans s0
      go_meet
      exact⟨_,rfl,rfl,HR,Ad ⟨BT,1,none⟩ _ (Ad ⟨BT,0,none⟩ _ (hBn.trans (hb6.mono hBn.size)) hW01) hW01,s3,s2,by simpa using t2,by simpa using t3⟩
   case rest=>
    obtain⟨ng,rfl,rfl,HR,hB3,u0,u1,u2,u3⟩:=hcut;obtain⟨W3,rfl⟩:∃W:World,W=wc:=⟨_,rfl⟩;have hBT:BT<W3.heap.size:=wl u0;clear hb2 y0' y1' y2' y3' l0 l1 l2 l3 t0 t1 t2 t3 t4 HX7 HXT hsz hBn hBx;obtain⟨_,l0,l1,l2,l3,l4,l5,l6,l7,l8⟩:=HK.out _ hB3
    by_cases z:nS=0
    ·have z1:=fun w=>AQg z w
     have HP:Hid (P=(0,1,0)):=lh (HPP.out.symm.trans (add_zero (by omega) (by omega) HG.out HQA.out HQB.out HSS.out HNS.out z).symm);clear z
     go_wp2_with fail
     have s0:=World.cell?_setCell_same W3 ⟨w.heap.size+1+1,0,none⟩ (.int .i64 0) l4;have s1:(W3.setCell ⟨w.heap.size+1+1,0,none⟩ (.int .i64 0)).cell? ⟨w.heap.size+1+1,1,none⟩=some (.int .i64 0):=(World.cell?_setCell_other _ _ _ _ (fun x=>absurd (congrArg Addr.off x) (by simp))).trans l5;have s2:=World.cell?_setCell_same _ ⟨w.heap.size+1+1,1,none⟩ (.int .i64 1) s1;have s3:((W3.setCell ⟨w.heap.size+1+1,0,none⟩ (.int .i64 0)).setCell ⟨w.heap.size+1+1,1,none⟩ (.int .i64 1)).cell? ⟨w.heap.size+1+1,0,none⟩=some (.int .i64 0):=(World.cell?_setCell_other _ _ _ _ (fun x=>absurd (congrArg Addr.off x) (by simp))).trans s0;refine bodyPost_ret (v:=.tuple #[.agg #[.int .i64 0,.int .i64 1],.int .i64 0]) (by simp[results,Tryz.results124,go_sem,s2,s3]) rfl ⟨by rw[HP.out],?_⟩;exact((HK.out _ hB3).1.setCell (p:=⟨w.heap.size+1+1,0,none⟩) (by simp<;>omega) _).setCell (p:=⟨w.heap.size+1+1,1,none⟩) (by simp<;>omega) _
    ·have z1:=fun w=>ATm z w
     obtain⟨r,hr⟩:=nm (nS%g);have r0:0≤r:=by rw[←hr];exact Int.emod_nonneg _ g0
     have r1:r<g:=by rw[←hr];exact Int.emod_lt_of_pos _ gp
     obtain⟨c,hc⟩:=nm ((Int.gcd g r:Int):Int);have c0:0<c:=by rw[←hc];have:=Int.gcd_pos_of_ne_zero_left (a:=g) r g0;omega
     have c1:c≤g:=by rw[←hc];exact Int.gcd_le_left _ gp
     have gle:g≤ad:=by rw[←HG.out];exact Int.gcd_le_left _ (by omega)
     have c2:¬c=0:=by omega
     have c3:(c==0)=false:=by simpa using c2
     obtain⟨q1,hq1⟩:=nm (nS/g);obtain⟨q2,hq2⟩:=nm (nS/c);obtain⟨r2,hr2⟩:=nm (nS%c);obtain⟨qc,hqc⟩:=nm (bd/c);have q20:0≤q2:=by rw[←hq2];exact Int.ediv_nonneg nS0 (by omega)
     have qc0:0≤qc:=by rw[←hqc];exact Int.ediv_nonneg (by omega) (by omega)
     have qc1:qc≤bd:=by rw[←hqc];exact Int.ediv_le_self c (by omega)
     have dc:IntKind.u64.wrap (bd.tdiv c)=qc:=by rw[Int.tdiv_eq_ediv_of_nonneg (by omega),hqc,IntKind.wrap_u64];omega
     obtain⟨den,hd⟩:=nm (qa*qc);have den0:0≤den:=by rw[←hd];exact Int.mul_nonneg qa0 qc0
     have den1:den≤1329227995784915872903807060280344576:=by rw[←hd];exact Int.mul_le_mul (show qa≤1152921504606846976 by omega) (show qc≤1152921504606846976 by omega) qc0 (by decide)
     obtain⟨R,hR⟩:=nm (Eh ng q2 den)
     have HP:Hid (P=R):=lh (by
      rw[←HPP.out,←hR,←hq2,←hd,←hqc];exact(add_plain (by omega) (by omega) HA5.out HB5.out HG.out HQA.out HQB.out HSS.out HNS.out (by rw[hr];exact hc) HR.out z).symm)
     have HRS:=lh hR;have HRR:=lh hr;have HC:=lh hc;have HQ1:=lh hq1;have HQ2:=lh hq2;have HR2:=lh hr2;have HDE:=lh hd;clear hr hc hq1 hq2 hr2 hqc hd hR z
     have HT:Hid (∀w',Below W3.heap.size W3 w'→Below W0.heap.size W0 w'∧w'.cell? ⟨BT,0,none⟩=some (.int .u64 (Cr nS))∧w'.cell? ⟨BT,1,none⟩=some (.int .u64 (Cy nS))∧w'.frozen? ⟨BT,0,none⟩=false∧w'.frozen? ⟨BT,1,none⟩=false):=lh fun w' h=>
      ⟨hB3.trans (h.mono hB3.size),ct h u0 hBT,ct h u1 hBT,(h.frozen (p:=⟨BT,0,none⟩) hBT).trans u2,(h.frozen (p:=⟨BT,1,none⟩) hBT).trans u3⟩
     go_upto_region 16 with (first
      | (go_at_call 166;go_fit (Zz nS g nS0 (by omega) gp (by omega) _);rintro e w7 ⟨rfl,hb7⟩;rw[HQ1.out,HRR.out];obtain⟨hB7',v0,v1,v2,v3⟩:=HT.out _ hb7;have v4:=wl v0)
      | (go_at_call 90;go_fit (Jg g r (by omega) (by omega) r0 (by omega) _);rintro e w8 ⟨rfl,m8,rfl⟩;rw[HC.out])
      | (go_at_call 166;go_fit (Zz nS c nS0 (by omega) c0 (by omega) _);rintro e w9 ⟨rfl,hb9⟩;rw[HQ2.out,HR2.out];have hb10:Below W3.heap.size W3 w9:=(by first | exact Av (Aj (Aw _ hb7) _) hb9 | exact Av (Aw _ (Aj hb7 _)) hb9 | exact Av (Aj hb7 _) hb9);obtain⟨hB9,v0,v1,v2,v3⟩:=HT.out _ hb10))
     obtain⟨e0,e1⟩:=Ag (w:=w9) (B:=BT) (v0:=.int .u64 (Cr q2)) (v1:=.int .u64 (Cy q2)) v0 v1;have hB10:Below W0.heap.size W0 ((w9.setCell ⟨BT,0,none⟩ (.int .u64 (Cr q2))).setCell ⟨BT,1,none⟩ (.int .u64 (Cy q2))):=Ad ⟨BT,1,none⟩ _ (Ad ⟨BT,0,none⟩ _ hB9 hW01) hW01;have hBT2:BT<((w9.setCell ⟨BT,0,none⟩ (.int .u64 (Cr q2))).setCell ⟨BT,1,none⟩ (.int .u64 (Cy q2))).heap.size:=wl e0;clear hb7 hb9 hb10 hB7' hB9 v0 v1 v2 v3 v4 HT l0 l1 l2 l3 l4 l5 l6 l7 l8 u0 u1 u2 u3;generalize (w9.setCell ⟨BT,0,none⟩ (.int .u64 (Cr q2))).setCell ⟨BT,1,none⟩ (.int .u64 (Cy q2))=W4 at *;obtain⟨_,l0,l1,l2,l3,l4,l5,l6,l7,l8⟩:=HK.out _ hB10;have hl1:w.heap.size<W4.heap.size:=by omega
     have hl2:w.heap.size+1<W4.heap.size:=by omega
     have HS4:Hid (∀w',Below W4.heap.size W4 w'→Below W4.heap.size W4 w'∧w'.cell? ⟨w.heap.size,1,none⟩=some (.int .i64 ad)∧w'.cell? ⟨w.heap.size+1,1,none⟩=some (.int .i64 bd)):=lh fun w' h=>⟨h,ct h l1 hl1,ct h l3 hl2⟩;have hb4:=Below.refl W4.heap.size W4;have hb4d:=hb4.drew
     go_cut [14] (fun v14 wx=>∃B:Nat,v14=.pointer (some ⟨B,0,none⟩)∧Below W4.heap.size W4 wx∧wx.cell? ⟨B,0,none⟩=some (.int .u64 (Cr den))∧wx.cell? ⟨B,1,none⟩=some (.int .u64 (Cy den)))
     case first=>
      clear l0 l2 l4 l5 l6 l7 e0 e1
      go_region_held3 (fun w'=>Below W4.heap.size W4 w'∧w'.cell? ⟨w.heap.size,1,none⟩=some (.int .i64 ad)∧w'.cell? ⟨w.heap.size+1,1,none⟩=some (.int .i64 bd))
       (first | exact HS4.out _ hb4.drew | (go_split_ands;refine HS4.out _ ?_;repeat' (first | assumption | apply Aw | apply Below.drew | (refine Ad _ _ ?_ (Below.size (by assumption))) | (refine Ad _ _ ?_ nr))))
       (first
        | (go_at_call 110;go_split_ands;go_fit (Cg qa qc qa0 (by omega) qc0 (by omega) _);rintro e w5 ⟨rfl,hb5⟩;rw[HDE.out];have hb6:=Av (wr:=W4) (by assumption) hb5;(first | (have hq:=APy hb5;obtain⟨f0,f1,f2,f3,f4⟩:=hq) | skip)))
      all_goals go_wp2_with fail
      all_goals go_meet
      all_goals first
       | exact⟨_,rfl,Aw _ (by assumption),(Mk _ _ _ _).1,(Mk _ _ _ _).2⟩
       | (obtain⟨g0,g1⟩:=Ag (w:=w5) (B:=W4.heap.size) (v0:=.int .u64 (Cr den)) (v1:=.int .u64 (Cy den)) f0 f1
          exact⟨_,rfl,Ad ⟨_,1,none⟩ _ (Ad ⟨_,0,none⟩ _ (by assumption) nr) nr,g0,g1⟩)
     case rest=>
      obtain⟨B,rfl,hB5,m0,m1⟩:=hcut;obtain⟨W5,rfl⟩:∃W:World,W=wc:=⟨_,rfl⟩;have n0:=(ct hB5 e0 hBT2);have n1:=(ct hB5 e1 hBT2);have hB6:=hB10.trans (hB5.mono hB10.size);clear l0 l1 l2 l3 l4 l5 l6 l7 l8 e0 e1 hb4 hb4d
      by_cases c1:0<Cr q2
      ·obtain⟨hBW,l0,l1,l2,l3,l4,l5,l6,l7,l8⟩:=HK.out _ hB6
       have HQ:Hid (P=(0,0,5)):=lh (HP.out.trans (HRS.out.symm.trans (ACj (.inl (ACl q20 c1)))));have s2:=(Ag (v0:=.int .i64 0) (v1:=.int .i64 0) l4 l5).1;have s3:=(Ag (v0:=.int .i64 0) (v1:=.int .i64 0) l4 l5).2;clear HRS
       go_wp2_with fail
       refine bodyPost_ret (v:=.tuple #[.agg #[.int .i64 0,.int .i64 0],.int .i64 5]) (by simp[results,Tryz.results124,go_sem,s2,s3]) rfl ⟨by rw[HQ.out],?_⟩;exact(hBW.setCell (p:=⟨w.heap.size+1+1,0,none⟩) (by simp<;>omega) _).setCell (p:=⟨w.heap.size+1+1,1,none⟩) (by simp<;>omega) _
      have c1':q2<18446744073709551616:=Wl q20 c1;rw[Zs q20 c1']at n0;rw[Xv q20 c1']at n1;clear c1
      by_cases c2:0<Cr den
      ·obtain⟨hBW,l0,l1,l2,l3,l4,l5,l6,l7,l8⟩:=HK.out _ hB6
       have HQ:Hid (P=(0,0,5)):=lh (HP.out.trans (HRS.out.symm.trans (ACj (.inr (ACl den0 c2)))));have s2:=(Ag (v0:=.int .i64 0) (v1:=.int .i64 0) l4 l5).1;have s3:=(Ag (v0:=.int .i64 0) (v1:=.int .i64 0) l4 l5).2;clear HRS
       go_wp2_with fail
       refine bodyPost_ret (v:=.tuple #[.agg #[.int .i64 0,.int .i64 0],.int .i64 5]) (by simp[results,Tryz.results124,go_sem,s2,s3]) rfl ⟨by rw[HQ.out],?_⟩;exact(hBW.setCell (p:=⟨w.heap.size+1+1,0,none⟩) (by simp<;>omega) _).setCell (p:=⟨w.heap.size+1+1,1,none⟩) (by simp<;>omega) _
      have c2':den<18446744073709551616:=Wl den0 c2;rw[Zs den0 c2']at m0;rw[Xv den0 c2']at m1;clear c2
      go_wp2_with (first | (go_at_call 91;go_fit (El ng q2 den q20 den0 _);rintro e w6 ⟨rfl,hb6⟩;rw[HRS.out];have hB7:=hB6.trans (hb6.mono hB6.size);obtain⟨hBW,l0,l1,l2,l3,l4,l5,l6,l7,l8⟩:=HK.out _ hB7))
      have s0:=World.cell?_setCell_same w6 ⟨w.heap.size+1+1,0,none⟩ (.int .i64 R.1) l4;have s1:(w6.setCell ⟨w.heap.size+1+1,0,none⟩ (.int .i64 R.1)).cell? ⟨w.heap.size+1+1,1,none⟩=some (.int .i64 0):=(World.cell?_setCell_other _ _ _ _ (fun x=>absurd (congrArg Addr.off x) (by simp))).trans l5;have s2:=World.cell?_setCell_same _ ⟨w.heap.size+1+1,1,none⟩ (.int .i64 R.2.1) s1;have s3:((w6.setCell ⟨w.heap.size+1+1,0,none⟩ (.int .i64 R.1)).setCell ⟨w.heap.size+1+1,1,none⟩ (.int .i64 R.2.1)).cell? ⟨w.heap.size+1+1,0,none⟩=some (.int .i64 R.1):=(World.cell?_setCell_other _ _ _ _ (fun x=>absurd (congrArg Addr.off x) (by simp))).trans s0;refine bodyPost_ret (v:=.tuple #[.agg #[.int .i64 R.1,.int .i64 R.2.1],.int .i64 R.2.2]) (by simp[results,Tryz.results124,go_sem,s2,s3]) rfl ⟨by rw[HP.out],?_⟩;exact(hBW.setCell (p:=⟨w.heap.size+1+1,0,none⟩) (by simp<;>omega) _).setCell (p:=⟨w.heap.size+1+1,1,none⟩) (by simp<;>omega) _
end
end Go.Proofs.YtebofaenlhhkaaaGreat
