import Derived.Test.YtebofaenlhhkaaaGreatY19
import Derived.Test.YtebofaenlhhkaaaGreatY23
namespace Go.Proofs.YtebofaenlhhkaaaGreat
set_option maxRecDepth 100000
set_option maxHeartbeats 80000000
section
theorem APq(d R F t:Int):2*F*(t*t)+kP d R F t+2*R*(t*t)=tN d R F t:=by
 unfold kP tN;rw[Int.mul_add];have e1:2*F*(t*t)=2*(t*t*F):=by ac_rfl
 have e2:2*R*(t*t)=2*(t*t*R):=by ac_rfl
 rw[e1,e2];omega
theorem Sz{m:Mv}{t:Int}(hg:Ck 0 m=0):Ig 0 m t=(0,1):=by
 unfold Ig;rw[if_pos hg]
 rfl
theorem We{d:Int}{m:Mv}{t:Int}(hg:Ck d m=0)(hd:¬d=0):Ig d m t=(Ay (tN d m.rise m.fall t) (tD m.rise m.fall t),Ar (tN d m.rise m.fall t) (tD m.rise m.fall t)):=by
 have hl:=Rf d m.rise m.fall t;unfold Ig;rw[if_pos hg];unfold Ra;rw[Ow,ARp _ _ _ (by omega)];unfold Dg;rw[if_neg hd,APq]
 split<;>rfl
theorem AQq{d:Int}{m:Mv}{t:Int}(hg:Ck d m=0)(ht:Hd d m.spd m.rise m.fall t):
  0≤(Ig d m t).1∧(Ig d m t).1≤1152921504606846976∧0<(Ig d m t).2∧(Ig d m t).2≤1152921504606846976:=by
 by_cases hd:d=0
 ·subst hd
  rw[Sz hg]
  decide
 ·rw[We hg hd]
  obtain⟨hv,hdd⟩:=Hk hg;obtain⟨V0,V1,R0,R1,F0,F1⟩:=Gb hv;obtain⟨d1,d2⟩:=Fj.1 hdd;have tp:=Pw (show 1≤d by omega) R0 F0 V0 ht;have t1:=ht.2.1;obtain⟨B1,B2,B3,B4,_,_,_,_,_,B5,B6⟩:=Vf (d:=d) (R:=m.rise) (F:=m.fall) (w:=t) d1 d2 (by omega) R1 (by omega) F1 (by omega) (by omega);have B7:2*m.rise*m.fall*d≤536870912*1048576:=Int.mul_le_mul B6 d2 d1 (by decide);have B8:=Int.mul_nonneg B5 d1;have B9:2*m.rise*m.fall*t≤536870912*8192:=Int.mul_le_mul B6 (by omega) (by omega) (by decide);have B10:0<2*m.rise*m.fall*t:=Int.mul_pos (ATt R0 F0) (by omega);have n0:0≤tN d m.rise m.fall t:=by unfold tN;omega
  have n1:tN d m.rise m.fall t≤1152921504606846976:=by unfold tN;omega
  have q0:0<tD m.rise m.fall t:=by unfold tD;omega
  have q1:tD m.rise m.fall t≤1152921504606846976:=by unfold tD;omega
  have a:=Nq (tN d m.rise m.fall t) (tD m.rise m.fall t);have b:=Qd (n:=tN d m.rise m.fall t) q0;have c:=Eg (n:=tN d m.rise m.fall t) q0;have e:=Rz (n:=tN d m.rise m.fall t) q0;omega
end
section
open Go.RowKit Go.Shelf
theorem Yu{x y:Int}(hx:x%2=0)(hy:y%2=0):Int.gcd x y=2*Int.gcd (x/2) (y/2):=by
 have h:=Int.gcd_mul_left 2 (x/2) (y/2);rw[show 2*(x/2)=x by omega,show 2*(y/2)=y by omega]at h;exact h
theorem AMf{x y:Int}(hx:x%2=0)(hy:y%2=1):Int.gcd (x/2) y=Int.gcd x y:=by
 have c:Int.gcd 2 y=1:=by
  rw[show y=1+(y/2)*2 by omega,Int.gcd_add_mul_right_right]
  rfl
 have h:=Int.gcd_mul_right_left_of_gcd_eq_one (n:=2) (k:=x/2) c;rw[show 2*(x/2)=x by omega]at h;exact h.symm
theorem ASf{x y:Int}(h:Int.gcd x y%2=1)(hx:x%2=0):y%2=1:=by
 rcases(show y%2=0∨y%2=1 by omega)with c | c
 ·have:=Yu hx c;omega
 ·exact c
theorem Zi{x y:Int}(h:Int.gcd x y%2=1)(hx:x%2=0):Int.gcd (x/2) y=Int.gcd x y:=AMf hx (ASf h hx)
theorem AJd{x y:Int}(h:Int.gcd x y%2=1)(hy:y%2=0):Int.gcd x (y/2)=Int.gcd x y:=by
 rw[Int.gcd_comm x,Int.gcd_comm x];exact Zi (by rw[Int.gcd_comm];exact h) hy
theorem AIk{x y:Int}:Int.gcd (x-y) y=Int.gcd x y:=by
 rw[Int.gcd_sub_self_left]
theorem ASj{x y:Int}(hx:x%2=1∨y%2=1):Int.gcd x y%2=1:=by
 rcases(show Int.gcd x y%2=0∨Int.gcd x y%2=1 by omega)with c | c
 ·have h2:(2:Nat)∣Int.gcd x y:=Nat.dvd_of_mod_eq_zero c
  have d1:(2:Int)∣x:=Int.dvd_trans (Int.natCast_dvd_natCast.2 h2) (Int.gcd_dvd_left x y);have d2:(2:Int)∣y:=Int.dvd_trans (Int.natCast_dvd_natCast.2 h2) (Int.gcd_dvd_right x y);omega
 ·exact c

def UU(w:World)(n:Nat)(x y:Int):Prop:=w.cell? ⟨n,0,none⟩=some (.int .u64 0)∧w.cell? ⟨n,1,none⟩=some (.int .u64 x)∧w.cell? ⟨n+1,0,none⟩=some (.int .u64 0)∧w.cell? ⟨n+1,1,none⟩=some (.int .u64 y)∧w.cell? ⟨n+1+1,0,none⟩=some (.int .u64 0)∧w.cell? ⟨n+1+1,1,none⟩=some (.int .u64 0)∧w.frozen? ⟨n,0,none⟩=false∧w.frozen? ⟨n,1,none⟩=false∧w.frozen? ⟨n+1,0,none⟩=false∧w.frozen? ⟨n+1,1,none⟩=false∧w.frozen? ⟨n+1+1,0,none⟩=false∧w.frozen? ⟨n+1+1,1,none⟩=false∧n+1+1<w.heap.size
theorem UU.carry{W w:World}{n:Nat}{x y:Int}(f:UU W n x y)(h:Below W.heap.size W w):UU w n x y:=by
 obtain⟨a0,a1,a2,a3,a4,a5,b0,b1,b2,b3,b4,b5,c⟩:=f;have e0:n<W.heap.size:=by omega
 have e1:n+1<W.heap.size:=by omega
 exact⟨ct h a0 e0,ct h a1 e0,ct h a2 e1,ct h a3 e1,ct h a4 c,ct h a5 c,(h.frozen (p:=⟨n,0,none⟩) e0).trans b0,(h.frozen (p:=⟨n,1,none⟩) e0).trans b1,(h.frozen (p:=⟨n+1,0,none⟩) e1).trans b2,(h.frozen (p:=⟨n+1,1,none⟩) e1).trans b3,(h.frozen (p:=⟨n+1+1,0,none⟩) c).trans b4,(h.frozen (p:=⟨n+1+1,1,none⟩) c).trans b5,Nat.lt_of_lt_of_le c h.size⟩
theorem UU.setA{w:World}{n:Nat}{x y:Int}(f:UU w n x y)(z:Int):UU ((w.setCell ⟨n,0,none⟩ (.int .u64 0)).setCell ⟨n,1,none⟩ (.int .u64 z)) n z y:=by
 obtain⟨a0,a1,a2,a3,a4,a5,b0,b1,b2,b3,b4,b5,c⟩:=f;obtain⟨d0,d1⟩:=Ag (v0:=.int .u64 0) (v1:=.int .u64 z) a0 a1;exact⟨d0,d1,(Ch (by omega) _ _ _).trans a2,(Ch (by omega) _ _ _).trans a3,(Ch (by omega) _ _ _).trans a4,(Ch (by omega) _ _ _).trans a5,by simpa using b0,by simpa using b1,by simpa using b2,by simpa using b3,by simpa using b4,by simpa using b5,by simpa using c⟩
theorem UU.setB{w:World}{n:Nat}{x y:Int}(f:UU w n x y)(z:Int):UU ((w.setCell ⟨n+1,0,none⟩ (.int .u64 0)).setCell ⟨n+1,1,none⟩ (.int .u64 z)) n x z:=by
 obtain⟨a0,a1,a2,a3,a4,a5,b0,b1,b2,b3,b4,b5,c⟩:=f;obtain⟨d0,d1⟩:=Ag (v0:=.int .u64 0) (v1:=.int .u64 z) a2 a3;exact⟨(Ch (by omega) _ _ _).trans a0,(Ch (by omega) _ _ _).trans a1,d0,d1,(Ch (by omega) _ _ _).trans a4,(Ch (by omega) _ _ _).trans a5,by simpa using b0,by simpa using b1,by simpa using b2,by simpa using b3,by simpa using b4,by simpa using b5,by simpa using c⟩
theorem Vj(x:Int)(h0:0≤x)(h1:x<18446744073709551616):bits .and .u64 x 1=x%2:=by
 obtain⟨n,rfl⟩:=Int.eq_ofNat_of_zero_le h0;have h:=bits_and_u64_nat n 1 (by omega) (by omega);have e:n&&& 1=n%2:=Nat.and_two_pow_sub_one_eq_mod n 1;rw[e]at h;exact h.trans (by omega)

def mA(n:Nat)(w:World):Nat:=(intOf ((w.cell? ⟨n,1,none⟩).getD (.int .i64 0))).toNat
theorem Yg{w:World}{n:Nat}{x y:Int}(h:UU w n x y):mA n w=x.toNat:=by unfold mA;rw[h.2.1];rfl
theorem ANj{w:World}{n:Nat}{x y:Int}(h:UU w n x y):mA (n+1) w=y.toNat:=by unfold mA;rw[h.2.2.2.1];rfl
def mAB(n:Nat)(w:World):Nat:=mA n w+mA (n+1) w
theorem AAy{w:World}{n:Nat}{x y:Int}(h:UU w n x y):mAB n w=x.toNat+y.toNat:=by unfold mAB;rw[Yg h,ANj h]
def G2(g:Nat)(x y:Int):Prop:=Int.gcd x y=g∧g%2=1
def G5(k:Nat)(g:Nat)(j:Nat)(z:Int):Prop:=(2:Int)^j*z=2^k*(g:Int)

theorem AMg(a b:Int)(a0:0≤a)(a1:a<18446744073709551616)(b0:0<b)(b1:b<18446744073709551616)(w:World):
  Calls Tryz.prog 105 #[.agg #[.int .u64 0,.int .u64 a],.agg #[.int .u64 0,.int .u64 b]] w fun e w'=>e=.returned (.agg #[.int .u64 0,.int .u64 (Int.gcd a b:Int)])∧Below w.heap.size w w':=by
 by_cases ha:a=0
 ·have ha':(a==0)=true:=by simpa using ha
  have HR:Hid ((Int.gcd a b:Int)=b):=lh (by rw[ha];simp;omega);rw[HR.out];clear ha
  go_enter Tryz.func105,Tryz.ntmps105
  go_wp2_with fail
  refine bodyPost_ret (v:=.agg #[.int .u64 0,.int .u64 b]) (by simp[results,Tryz.results105,go_sem]) rfl ⟨rfl,?_⟩;exact((Aa _ _).alloc (by simp) _).alloc (by simp<;>omega) _
 ·have ha':(a==0)=false:=by simpa using ha
  have ap:0<a:=by omega
  clear ha;have HGB:Hid ((Int.gcd a b:Int)≤b):=lh (Int.le_of_dvd b0 (Int.gcd_dvd_right a b));obtain⟨GG,hGG⟩:=nm ((Int.gcd a b:Int):Int);rw[hGG];rw[hGG]at HGB;have HGG:=lh hGG;clear hGG
  go_enter Tryz.func105,Tryz.ntmps105
  go_wp2_with fail
  go_loopw [5] (fun t wr=>∃(k:Nat) (x y:Int),t=.int .i64 k∧k≤64∧0<x∧x<18446744073709551616∧0<y∧y<18446744073709551616∧Hid (Int.gcd a b=2^k*Int.gcd x y∧2^k*x≤a)∧UU wr w.heap.size x y∧Below w.heap.size w wr) (fun _ wr=>mA w.heap.size wr)
  case atStart=>
   refine⟨0,a,b,rfl,by omega,ap,a1,b0,b1,lh ⟨by simp,by simp⟩,?_,?_⟩
   ·refine⟨?_,?_,?_,?_,?_,?_,?_,?_,?_,?_,?_,?_,?_⟩
    all_goals first | (simp[go_sem,World.cell?_alloc_past];done) | (simp;done) | (simp<;>omega)
   ·exact((Aa _ _).alloc (by simp) _).alloc (by simp<;>omega) _
  case round=>
   obtain⟨k,x,y,rfl,hk,x0,x1,y0,y1,HG,hU,hB⟩:=hrel;have HU:=lh hU;obtain⟨u0,u1,u2,u3,u4,u5,f0,f1,f2,f3,f4,f5,uz⟩:=hU;have hx1:=Vj x (by omega) x1;have hy1:=Vj y (by omega) y1
   by_cases cb:x%2=0∧y%2=0
   ·have cx':(x%2==0)=true:=by simpa using cb.1
    have cy':(y%2==0)=true:=by simpa using cb.2
    have kl:k<64:=by
     rcases Nat.lt_or_ge k 64 with l | l
     ·exact l
     ·obtain rfl:k=64:=by omega
      have:=HG.out.2;omega
    have HN:Hid (Int.gcd a b=2^(k+1)*Int.gcd (x/2) (y/2)∧2^(k+1)*(x/2)≤a):=lh ⟨by
      rw[HG.out.1,Yu cb.1 cb.2,Nat.pow_succ,Nat.mul_assoc],by
      have h:=HG.out.2;have e:(2:Int)^(k+1)*(x/2)=2^k*x:=by rw[Int.pow_succ,Int.mul_assoc,show 2*(x/2)=x by omega]
      rw[e];exact h⟩
    have s1:IntKind.i64.wrap ((k:Int)+1)=(k:Int)+1:=IntWalk.i64_in _ (by omega);have hbr:=Below.refl wr.heap.size wr;have x2:0<x/2:=by omega
    have y2:0<y/2:=by omega
    clear cb
    go_wp2_with fail
    go_region_with (first
     | (go_at_call 153;go_fit (Rv x (by omega) x1 _);rintro e w1 ⟨rfl,hb1⟩;have hx:Below wr.heap.size wr w1:=hbr.drew.trans hb1;obtain⟨u0,u1,u2,u3,u4,u5,f0,f1,f2,f3,f4,f5,uz⟩:=UU.carry HU.out hx)
     | (go_at_call 153;go_fit (Rv y (by omega) y1 _);rintro e w2 ⟨rfl,hb2⟩;have hy:=Av (wr:=wr) hx hb2;obtain⟨u0,u1,u2,u3,u4,u5,f0,f1,f2,f3,f4,f5,uz⟩:=UU.carry HU.out hy))
    all_goals simp only[Act.put,List.setIfInBounds_toArray,List.set_cons_zero,List.set_cons_succ,List.getElem_toArray,List.getElem_cons_succ,List.getElem_cons_zero]
    all_goals go_wp2_with fail
    all_goals go_roundw
    all_goals have U2:=UU.carry HU.out hy
    all_goals have B2:Below w.heap.size w w2:=hB.trans (hy.mono hB.size)
    all_goals first
     | exact⟨k+1,x/2,y/2,by go_num,by omega,x2,by omega,y2,by omega,HN,by first | exact(U2.setA _).setB _ | exact(U2.setB _).setA _,by repeat' (first | exact B2 | refine Below.setCell ?_ (by simp) _)⟩
     | ((first | rw[Yg ((U2.setA (x/2)).setB (y/2)),Yg HU.out] | rw[Yg ((U2.setB (y/2)).setA (x/2)),Yg HU.out]);omega)
   ·have HO:Hid (Int.gcd x y%2=1):=lh (ASj (by omega))
    by_cases cx:x%2=0
    all_goals
     first
      | (have cx':(x%2==0)=true:=by simpa using cx
         have cy':(y%2==0)=false:=by simp;omega
         clear cb cx
         go_wp2_with fail)
      | (have cx':(x%2==0)=false:=by simpa using cx
         clear cb cx
         go_wp2_with fail)
     obtain⟨g,hg⟩:=nm (Int.gcd x y:Nat);have HP:Hid (GG=2^k*(g:Int)):=lh (by have:=HG.out.1;rw[hg]at this;rw[←HGG.out,this];simp);have HG2:Hid (G2 g x y):=lh ⟨hg,by rw[←hg];exact HO.out⟩;clear HO HG hg u0 u1 u2 u3 u4 u5 f0 f1 f2 f3 f4 f5 uz hx1 hy1;obtain⟨wp,rfl⟩:∃W:World,W=wr:=⟨_,rfl⟩
     go_loopw [] (fun wr=>∃(x y:Int),0≤x∧x<18446744073709551616∧0<y∧y<18446744073709551616∧Hid (G2 g x y)∧UU wr w.heap.size x y∧Below w.heap.size w wr) (fun wr=>mAB w.heap.size wr)
     case atStart=>exact⟨x,y,by omega,x1,y0,y1,HG2,HU.out,hB⟩
     case round=>
      obtain⟨x,y,x0,x1,y0,y1,HG,hU,hB⟩:=hrel;have HU:=lh hU;obtain⟨u0,u1,u2,u3,u4,u5,f0,f1,f2,f3,f4,f5,uz⟩:=hU
      by_cases cz:x=0
      ·have cz':(x==0)=true:=by simpa using cz
       have HZ:Hid (G5 k g k y):=lh (by
        have h:=HG.out.1;rw[cz]at h;unfold G5;rw[←h]
        congr 1
        simp
        omega)
       have HU2:Hid (UU wr w.heap.size 0 y):=lh (by have:=HU.out;rwa [cz]at this);clear cz HG HU HG2
       go_wp2_with fail
       clear u0 u1 u2 u3 u4 u5 f0 f1 f2 f3 f4 f5 uz cz';obtain⟨wo,rfl⟩:∃W:World,W=wr:=⟨_,rfl⟩
       go_loopw [5] (fun t wr=>∃(j:Nat) (z:Int),t=.int .i64 j∧j≤64∧0<z∧z<18446744073709551616∧Hid (G5 k g j z)∧UU wr w.heap.size 0 z∧Below w.heap.size w wr) (fun t _=>(intOf t).toNat)
       case atStart=>exact⟨k,y,rfl,hk,y0,y1,HZ,HU2.out,hB⟩
       case round=>
        obtain⟨j,z,rfl,hj,z0,z1,HG,hU,hB⟩:=hrel;have HU:=lh hU;obtain⟨u0,u1,u2,u3,u4,u5,f0,f1,f2,f3,f4,f5,uz⟩:=hU;rcases(show j=0∨∃i,j=i+1 by cases j with | zero=>exact .inl rfl | succ i=>exact .inr ⟨i,rfl⟩)with rfl | ⟨i,rfl⟩
        ·obtain rfl:z=GG:=by
          have h:=HG.out;unfold G5 at h;rw[Int.pow_zero,Int.one_mul,←HP.out]at h;exact h
         go_wp2_with fail
         have l0:=(Ag (v0:=.int .u64 0) (v1:=.int .u64 z) u4 u5).1;have l1:=(Ag (v0:=.int .u64 0) (v1:=.int .u64 z) u4 u5).2;refine bodyPost_ret (v:=.agg #[.int .u64 0,.int .u64 z]) (by simp[results,Tryz.results105,go_sem,l0,l1]) rfl ⟨rfl,?_⟩;exact Ad _ _ (Ad _ _ hB (by simp<;>omega)) (by simp<;>omega)
        ·have hz:z+z<18446744073709551616:=by
          have h:=HG.out;unfold G5 at h;rw[←HP.out,Int.pow_succ,Int.mul_assoc]at h
          have p1:(1:Int)≤2^i:=by
           have:=Nat.one_le_two_pow (n:=i);have e:((2^i:Nat):Int)=(2:Int)^i:=by simp
           omega
          have:=Int.mul_le_mul_of_nonneg_right p1 (show 0≤2*z by omega);have:=HGB.out;omega
         have HN:Hid (G5 k g i (z+z)):=lh (by
          have h:=HG.out;unfold G5 at *;rw[Int.pow_succ,Int.mul_assoc,Int.two_mul]at h;exact h)
         have hi0:(0:Int)≤i:=by omega
         clear HG
         go_wp2_with (go_at_call 155;go_fit (ALm z z (by omega) (by omega) hz _);rintro e w1 ⟨rfl,hb1⟩;have U1:=UU.carry HU.out hb1;obtain⟨u0,u1,u2,u3,u4,u5,f0,f1,f2,f3,f4,f5,uz⟩:=U1)
         go_roundw
         case rel=>exact⟨i,z+z,by go_num,by omega,by omega,hz,HN,(UU.carry HU.out hb1).setB _,Ad _ _ (Ad _ _ (hB.trans (hb1.mono hB.size)) (Nat.le_succ _)) (Nat.le_succ _)⟩
         case measure=>simp[intOf]
      ·have cz':(x==0)=false:=by simpa using cz
       have xp:0<x:=by omega
       clear cz HG2;have HUX:=HU
       go_wp2_with fail
       clear u0 u1 u2 u3 u4 u5 f0 f1 f2 f3 f4 f5 uz cz' HU;obtain⟨wo,rfl⟩:∃W:World,W=wr:=⟨_,rfl⟩
       go_loopw [] (fun wr=>∃x':Int,0<x'∧x'≤x∧Hid (G2 g x' y)∧UU wr w.heap.size x' y∧Below w.heap.size w wr) (fun wr=>mA w.heap.size wr)
       case atStart=>exact⟨x,xp,Int.le_refl _,HG,HUX.out,hB⟩
       case round=>
        clear HG hB;obtain⟨x',xp',xl,HG,hU,hB⟩:=hrel;have HU:=lh hU;obtain⟨u0,u1,u2,u3,u4,u5,f0,f1,f2,f3,f4,f5,uz⟩:=hU;have hx1:=Vj x' (by omega) (by omega)
        by_cases ex:x'%2=0
        ·have ex':(x'%2==0)=true:=by simpa using ex
         have HN:Hid (G2 g (x'/2) y):=lh ⟨by rw[Zi (by rw[HG.out.1];exact HG.out.2) ex];exact HG.out.1,HG.out.2⟩;have x2:0<x'/2:=by omega
         clear ex HG
         go_wp2_with (go_at_call 153;go_fit (Rv x' (by omega) (by omega) _);rintro e w1 ⟨rfl,hb1⟩;have U1:=UU.carry HU.out hb1;obtain⟨u0,u1,u2,u3,u4,u5,f0,f1,f2,f3,f4,f5,uz⟩:=U1)
         go_roundw
         case rel=>exact⟨x'/2,x2,by omega,HN,(UU.carry HU.out hb1).setA _,Ad _ _ (Ad _ _ (hB.trans (hb1.mono hB.size)) nr) nr⟩
         case measure=>rw[Yg ((UU.carry HU.out hb1).setA (x'/2)),Yg HU.out];omega
        ·have ex':(x'%2==0)=false:=by simpa using ex
         clear ex
         go_wp2_with fail
         clear u0 u1 u2 u3 u4 u5 f0 f1 f2 f3 f4 f5 uz ex' hx1;obtain⟨wq,rfl⟩:∃W:World,W=wr:=⟨_,rfl⟩
         go_loopw [] (fun wr=>∃y':Int,0<y'∧y'≤y∧Hid (G2 g x' y')∧UU wr w.heap.size x' y'∧Below w.heap.size w wr) (fun wr=>mA (w.heap.size+1) wr)
         case atStart=>exact⟨y,y0,Int.le_refl _,HG,HU.out,hB⟩
         case round=>
          clear HG hB HU;obtain⟨y',yp',yl,HG,hU,hB⟩:=hrel;have HU:=lh hU;obtain⟨u0,u1,u2,u3,u4,u5,f0,f1,f2,f3,f4,f5,uz⟩:=hU;have hy1:=Vj y' (by omega) (by omega)
          by_cases ey:y'%2=0
          ·have ey':(y'%2==0)=true:=by simpa using ey
           have HN:Hid (G2 g x' (y'/2)):=lh ⟨by rw[AJd (by rw[HG.out.1];exact HG.out.2) ey];exact HG.out.1,HG.out.2⟩;have y2:0<y'/2:=by omega
           clear ey HG
           go_wp2_with (go_at_call 153;go_fit (Rv y' (by omega) (by omega) _);rintro e w1 ⟨rfl,hb1⟩;have U1:=UU.carry HU.out hb1;obtain⟨u0,u1,u2,u3,u4,u5,f0,f1,f2,f3,f4,f5,uz⟩:=U1)
           go_roundw
           case rel=>exact⟨y'/2,y2,by omega,HN,(UU.carry HU.out hb1).setB _,Ad _ _ (Ad _ _ (hB.trans (hb1.mono hB.size)) (Nat.le_succ _)) (Nat.le_succ _)⟩
           case measure=>rw[ANj ((UU.carry HU.out hb1).setB (y'/2)),ANj HU.out];omega
          ·have ey':(y'%2==0)=false:=by simpa using ey
           clear ey;have HUq:=HU
           by_cases lt:x'<y'
           ·have lt':decide (x'<y')=true:=dT lt
            have HN:Hid (G2 g (y'-x') x'):=lh ⟨by rw[AIk,Int.gcd_comm];exact HG.out.1,HG.out.2⟩
            go_upto_region 13 with (go_at_call 72;go_fit (Zh x' y' _);rw[lt'];rintro e w1 ⟨rfl,hb1⟩;have U1:=UU.carry HU.out hb1;obtain⟨u0,u1,u2,u3,u4,u5,f0,f1,f2,f3,f4,f5,uz⟩:=U1)
            have U3:=((UU.carry HU.out hb1).setA y').setB x';have B3:Below w.heap.size w ((((w1.setCell ⟨w.heap.size,0,none⟩ (.int .u64 0)).setCell ⟨w.heap.size,1,none⟩ (.int .u64 y')).setCell ⟨w.heap.size+1,0,none⟩ (.int .u64 0)).setCell ⟨w.heap.size+1,1,none⟩ (.int .u64 x')):=Ad _ _ (Ad _ _ (Ad _ _ (Ad _ _ (hB.trans (hb1.mono hB.size)) nr) nr) (Nat.le_succ _)) (Nat.le_succ _);clear u0 u1 u2 u3 u4 u5 f0 f1 f2 f3 f4 f5 uz lt' ey' hy1 hb1 HU HG;generalize ((((w1.setCell ⟨w.heap.size,0,none⟩ (.int .u64 0)).setCell ⟨w.heap.size,1,none⟩ (.int .u64 y')).setCell ⟨w.heap.size+1,0,none⟩ (.int .u64 0)).setCell ⟨w.heap.size+1,1,none⟩ (.int .u64 x'))=w3 at *;have HU3:=lh U3;obtain⟨u0,u1,u2,u3,u4,u5,f0,f1,f2,f3,f4,f5,uz⟩:=U3
            go_wp2_with (go_at_call 154;go_fit (Wu y' x' (by omega) (by omega) (by omega) _);rintro e w4 ⟨rfl,hb4⟩;have U4:=UU.carry HU3.out hb4;obtain⟨u0,u1,u2,u3,u4,u5,f0,f1,f2,f3,f4,f5,uz⟩:=U4)
            go_roundw
            case rel=>exact⟨y'-x',x',by omega,by omega,by omega,by omega,HN,(UU.carry HU3.out hb4).setA _,Ad _ _ (Ad _ _ (B3.trans (hb4.mono B3.size)) nr) nr⟩
            case measure=>rw[AAy ((UU.carry HU3.out hb4).setA (y'-x')),AAy HUX.out];omega
           ·have lt':decide (x'<y')=false:=dF lt
            have HN:Hid (G2 g (x'-y') y'):=lh ⟨by rw[AIk];exact HG.out.1,HG.out.2⟩
            go_wp2_with (first | (go_at_call 72;go_fit (Zh x' y' _);rw[lt'];rintro e w1 ⟨rfl,hb1⟩;have U1:=UU.carry HU.out hb1;obtain⟨u0,u1,u2,u3,u4,u5,f0,f1,f2,f3,f4,f5,uz⟩:=U1) | (go_at_call 154;go_fit (Wu x' y' (by omega) (by omega) (by omega) _);rintro e w4 ⟨rfl,hb4⟩;have U4:=UU.carry (UU.carry HU.out hb1) hb4;obtain⟨u0,u1,u2,u3,u4,u5,f0,f1,f2,f3,f4,f5,uz⟩:=U4))
            have hb5:Below wr.heap.size wr w4:=Av hb1 hb4;go_roundw
            case rel=>exact⟨x'-y',y',by omega,by omega,by omega,by omega,HN,(UU.carry HU.out hb5).setA _,Ad _ _ (Ad _ _ (hB.trans (hb5.mono hB.size)) nr) nr⟩
            case measure=>rw[AAy ((UU.carry HU.out hb5).setA (x'-y')),AAy HUX.out];omega
theorem AEy(a b:Int)(a0:0≤a)(a1:a<18446744073709551616)(b0:0<b)(b1:b<18446744073709551616)(w:World):
  Calls Tryz.prog 106 #[.agg #[.int .u64 0,.int .u64 a],.agg #[.int .u64 0,.int .u64 b]] w fun e w'=>e=.returned (.tuple #[.agg #[.int .u64 0,.int .u64 (a/b)],.agg #[.int .u64 0,.int .u64 (a%b)]])∧Below w.heap.size w w':=by
 have hb:(b==0)=false:=by simp;omega
 have hq:=Int.ediv_nonneg a0 (Int.le_of_lt b0);have hr:=Int.emod_nonneg a (show b≠0 by omega)
 go_enter Tryz.func106,Tryz.ntmps106
 go_wp2_with fail
 go_region
 all_goals go_wp2_with fail
 all_goals refine bodyPost_ret (v:=.tuple #[.agg #[.int .u64 0,.int .u64 (a/b)],.agg #[.int .u64 0,.int .u64 (a%b)]]) (by simp[results,Tryz.results106,go_sem]) rfl ⟨rfl,?_⟩
 all_goals exact(Aw _ (Aw _ (Aw _ (Aa _ _)))).drew

def C2(w:World)(B:Nat)(v0 v1:Value):Prop:=w.cell? ⟨B,0,none⟩=some v0∧w.cell? ⟨B,1,none⟩=some v1
theorem C2.carry{W w:World}{B:Nat}{v0 v1:Value}(c:C2 W B v0 v1)(h:Below W.heap.size W w):C2 w B v0 v1:=
 ⟨(ct h c.1 (wl c.1)),(ct h c.2 (wl c.2))⟩
theorem C2.new(W:World)(v0 v1:Value)(t:TypeId):C2 (W.alloc (.cells #[v0,v1] t)) W.heap.size v0 v1:=⟨by simp,by simp⟩

def Hj(w:World)(b:Nat):Prop:=w.cell? ⟨b,0,none⟩=some (.int .i64 0)∧w.cell? ⟨b,1,none⟩=some (.int .i64 0)∧w.frozen? ⟨b,0,none⟩=false∧w.frozen? ⟨b,1,none⟩=false∧b<w.heap.size
theorem Hj.new(W:World)(t:TypeId):Hj (W.alloc (.cells #[.int .i64 0,.int .i64 0] t)) W.heap.size:=⟨by simp,by simp,by simp,by simp,by simp⟩
theorem Hj.carry{W w:World}{b:Nat}(f:Hj W b)(h:Below W.heap.size W w):Hj w b:=
 ⟨ct h f.1 f.2.2.2.2,ct h f.2.1 f.2.2.2.2,(h.frozen (p:=⟨b,0,none⟩) f.2.2.2.2).trans f.2.2.1,(h.frozen (p:=⟨b,1,none⟩) f.2.2.2.2).trans f.2.2.2.1,Nat.lt_of_lt_of_le f.2.2.2.2 h.size⟩

theorem AAf(n d:Int)(neg:Bool)(n0:0≤n)(n1:n≤1152921504606846976)(d0:0<d)(d1:d≤1152921504606846976)(w:World):
  Calls Tryz.prog 66 #[.agg #[.int .u64 0,.int .u64 n],.bool neg,.agg #[.int .u64 0,.int .u64 d]] w fun e w'=>e=.returned (.tuple #[.agg #[.int .i64 (if neg then -Ay n d else Ay n d),.int .i64 (Ar n d)],.int .i64 0])∧Below w.heap.size w w':=by
 have hd:(d==0)=false:=by simp;omega
 obtain⟨g,hg⟩:=nm ((Int.gcd n d:Int):Int);have gp:0<g:=by rw[←hg];exact Dn d0
 have gd:g≤d:=by rw[←hg];exact Int.le_of_dvd d0 (Int.gcd_dvd_right n d)
 have HG:Hid (∀w:World,Calls Tryz.prog 105 #[.agg #[.int .u64 0,.int .u64 n],.agg #[.int .u64 0,.int .u64 d]] w fun e w'=>e=.returned (.agg #[.int .u64 0,.int .u64 g])∧Below w.heap.size w w'):=lh fun w=>by
  have:=AMg n d n0 (by omega) d0 (by omega) w
  rwa [hg]at this
 have HN:=lh (AEy n g n0 (by omega) gp (by omega));have HD:=lh (AEy d g (Int.le_of_lt d0) (by omega) gp (by omega));have p0:0≤Ay n d:=by unfold Ay;rw[hg];exact Int.ediv_nonneg n0 (Int.le_of_lt gp)
 have p1:Ay n d≤n:=by have:=Nq n d;omega
 have q0:=Eg (n:=n) d0;have q1:=Qd (n:=n) d0;have eN:n/g=Ay n d:=by unfold Ay;rw[hg]
 have eD:d/g=Ar n d:=by unfold Ar;rw[hg]
 rw[eN]at HN;rw[eD]at HD;generalize Ay n d=p at *;generalize Ar n d=q at *;clear hg eN eD gd;have z1:decide (1152921504606846976<p)=false:=dF (by omega);have z2:decide (1152921504606846976<q)=false:=dF (by omega);have z3:IntKind.i64.wrap p=p:=IntWalk.i64_in _ (by omega);have z4:IntKind.i64.wrap q=q:=IntWalk.i64_in _ (by omega);have z5:IntKind.i64.wrap (0-p)=-p:=by rw[IntWalk.i64_in _ (by omega)];omega
 go_enter Tryz.func66,Tryz.ntmps66
 go_upto_region 3 with (fail)
 have hW0:Below w.heap.size w (((w.alloc (.cells #[.int .u64 0,.int .u64 n] 141)).alloc (.cells #[.int .u64 0,.int .u64 d] 141)).alloc (.cells #[.int .i64 0,.int .i64 0] 49)):=Aw _ (Aw _ (Aa _ _));have c3:C2 (((w.alloc (.cells #[.int .u64 0,.int .u64 n] 141)).alloc (.cells #[.int .u64 0,.int .u64 d] 141)).alloc (.cells #[.int .i64 0,.int .i64 0] 49)) w.heap.size (.int .u64 0) (.int .u64 n):=((C2.new w _ _ _).carry (Aa _ _)).carry (Aa _ _);have c5:C2 (((w.alloc (.cells #[.int .u64 0,.int .u64 n] 141)).alloc (.cells #[.int .u64 0,.int .u64 d] 141)).alloc (.cells #[.int .i64 0,.int .i64 0] 49)) (w.heap.size+1) (.int .u64 0) (.int .u64 d):=by have h:=C2.new (w.alloc (.cells #[.int .u64 0,.int .u64 n] 141)) (.int .u64 0) (.int .u64 d) 141;rw[World.size_alloc]at h;exact h.carry (Aa _ _)
 have f6:Hj (((w.alloc (.cells #[.int .u64 0,.int .u64 n] 141)).alloc (.cells #[.int .u64 0,.int .u64 d] 141)).alloc (.cells #[.int .i64 0,.int .i64 0] 49)) (w.heap.size+1+1):=by have h:=Hj.new ((w.alloc (.cells #[.int .u64 0,.int .u64 n] 141)).alloc (.cells #[.int .u64 0,.int .u64 d] 141)) 49;rw[World.size_alloc,World.size_alloc]at h;exact h
 obtain⟨Bd,hBd⟩:=nm (w.heap.size+1);obtain⟨Br,hBr⟩:=nm (w.heap.size+1+1);have hBr0:w.heap.size≤Br:=by omega
 simp only[hBr]at f6⊢;simp only[hBd]at c5⊢;clear hBd hBr;generalize (((w.alloc (.cells #[.int .u64 0,.int .u64 n] 141)).alloc (.cells #[.int .u64 0,.int .u64 d] 141)).alloc (.cells #[.int .i64 0,.int .i64 0] 49))=W0 at *;obtain⟨c30,c31⟩:=c3;obtain⟨c50,c51⟩:=c5
 go_upto_region 4 with (go_at_call 105;go_fit (HG.out _);rintro e w1 ⟨rfl,hb1⟩)
 have b1:Below W0.heap.size W0 (w1.alloc (.cells #[.int .u64 0,.int .u64 g] 141)):=Aw _ hb1;have c8:=C2.new w1 (.int .u64 0) (.int .u64 g) 141;have c3:=C2.carry (v0:=.int .u64 0) (v1:=.int .u64 n) ⟨c30,c31⟩ b1;have c5:=C2.carry (v0:=.int .u64 0) (v1:=.int .u64 d) ⟨c50,c51⟩ b1;have f6:=f6.carry b1;have hW1:=hW0.trans (b1.mono hW0.size);clear hb1 c30 c31 c50 c51 b1 hW0;generalize w1.alloc (.cells #[.int .u64 0,.int .u64 g] 141)=W1 at *;generalize w1.heap.size=B8 at *;obtain⟨c30,c31⟩:=c3;obtain⟨c80,c81⟩:=c8
 go_upto_region 5 with (go_at_call 106;go_fit (HN.out _);rintro e w2 ⟨rfl,hb2⟩)
 have b2:Below W1.heap.size W1 ((w2.alloc (.cells #[.int .u64 0,.int .u64 p] 141)).alloc (.cells #[.int .u64 0,.int .u64 (n%g)] 141)):=Aw _ (Aw _ hb2);have c9:C2 ((w2.alloc (.cells #[.int .u64 0,.int .u64 p] 141)).alloc (.cells #[.int .u64 0,.int .u64 (n%g)] 141)) w2.heap.size (.int .u64 0) (.int .u64 p):=by unfold C2;simp
 have c8:=C2.carry (v0:=.int .u64 0) (v1:=.int .u64 g) ⟨c80,c81⟩ b2;have c5:=c5.carry b2;have f6:=f6.carry b2;have hW2:=hW1.trans (b2.mono hW1.size);clear hb2 c30 c31 c80 c81 b2 hW1;obtain⟨Bx,hBx⟩:=nm (w2.heap.size+1);simp only[hBx];clear hBx;generalize ((w2.alloc (.cells #[.int .u64 0,.int .u64 p] 141)).alloc (.cells #[.int .u64 0,.int .u64 (n%g)] 141))=W2 at *;generalize w2.heap.size=B9 at *;obtain⟨c50,c51⟩:=c5;obtain⟨c80,c81⟩:=c8
 go_upto_region 6 with (go_at_call 106;go_fit (HD.out _);rintro e w3 ⟨rfl,hb3⟩)
 have b3:Below W2.heap.size W2 ((w3.alloc (.cells #[.int .u64 0,.int .u64 q] 141)).alloc (.cells #[.int .u64 0,.int .u64 (d%g)] 141)):=Aw _ (Aw _ hb3);have c11:C2 ((w3.alloc (.cells #[.int .u64 0,.int .u64 q] 141)).alloc (.cells #[.int .u64 0,.int .u64 (d%g)] 141)) w3.heap.size (.int .u64 0) (.int .u64 q):=by unfold C2;simp
 have c9:=c9.carry b3;have f6:=f6.carry b3;have hW3:=hW2.trans (b3.mono hW2.size);clear hb3 c50 c51 c80 c81 b3 hW2;obtain⟨By,hBy⟩:=nm (w3.heap.size+1);simp only[hBy];clear hBy;generalize ((w3.alloc (.cells #[.int .u64 0,.int .u64 q] 141)).alloc (.cells #[.int .u64 0,.int .u64 (d%g)] 141))=W3 at *;generalize w3.heap.size=B11 at *;obtain⟨c90,c91⟩:=c9;obtain⟨c110,c111⟩:=c11;obtain⟨g0,g1,g2,g3,g4⟩:=f6
 cases neg
 ·go_wp2_with fail
  have l0:=(Ag (v0:=.int .i64 p) (v1:=.int .i64 q) g0 g1).1;have l1:=(Ag (v0:=.int .i64 p) (v1:=.int .i64 q) g0 g1).2;refine bodyPost_ret (v:=.tuple #[.agg #[.int .i64 p,.int .i64 q],.int .i64 0]) (by simp[results,Tryz.results66,go_sem,l0,l1]) rfl ⟨rfl,?_⟩;exact Ad _ _ (Ad _ _ hW3 hBr0) hBr0
 ·go_wp2_with fail
  have l0:=(Ag (v0:=.int .i64 (-p)) (v1:=.int .i64 q) g0 g1).1;have l1:=(Ag (v0:=.int .i64 (-p)) (v1:=.int .i64 q) g0 g1).2;refine bodyPost_ret (v:=.tuple #[.agg #[.int .i64 (-p),.int .i64 q],.int .i64 0]) (by simp[results,Tryz.results66,go_sem,l0,l1]) rfl ⟨rfl,?_⟩;exact Ad _ _ (Ad _ _ hW3 hBr0) hBr0

theorem AJl(n d:Int)(n0:-1152921504606846976≤n)(n1:n≤1152921504606846976)(d0:0<d)(d1:d≤1152921504606846976)(w:World):
  Calls Tryz.prog 38 #[.int .i64 n,.int .i64 d] w fun e w'=>e=.returned (.tuple #[.agg #[.int .i64 (Ay n d),.int .i64 (Ar n d)],.int .i64 0])∧Below w.heap.size w w':=by
 have z1:=Fz n (by omega) (by omega);have z2:=Fz d (by omega) (by omega);rw[show(d.natAbs:Int)=d by omega]at z2;have hb:decide (d<0)=false:=dF (by omega);have hm:=AAf (n.natAbs:Int) d (decide (n<0)) (by omega) (by omega) d0 d1
 have e1:(if decide (n<0)then -Ay (n.natAbs:Int) d else Ay (n.natAbs:Int) d)=Ay n d:=by
  by_cases h:n<0
  ·rw[if_pos (dT h),show(n.natAbs:Int)=-n by omega,ADs,Int.neg_neg]
  ·rw[if_neg (by simpa using h),show(n.natAbs:Int)=n by omega]
 have e2:Ar (n.natAbs:Int) d=Ar n d:=by
  by_cases h:n<0
  ·rw[show(n.natAbs:Int)=-n by omega,Xp]
  ·rw[show(n.natAbs:Int)=n by omega]
 simp only[e1,e2]at hm;clear e1 e2;have Z1:=lh z1;have Z2:=lh z2;have HM:=lh hm;clear z1 z2 hm;generalize Ay n d=p at *;generalize Ar n d=q at *;generalize hx:decide (n<0)=b at *
 go_enter Tryz.func38,Tryz.ntmps38
 go_wp2_with (first
  | (go_at_call 67;go_fit (Z1.out _);rintro e w1 ⟨rfl,rfl⟩)
  | (go_at_call 67;go_fit (Z2.out _);rintro e w1 ⟨rfl,rfl⟩)
  | (go_at_call 66;go_fit (HM.out _);rintro e w1 ⟨rfl,hb1⟩;obtain⟨g0,g1,g2,g3,g4⟩:=(Hj.new w 49).carry hb1))
 have l0:=(Ag (v0:=.int .i64 p) (v1:=.int .i64 q) g0 g1).1;have l1:=(Ag (v0:=.int .i64 p) (v1:=.int .i64 q) g0 g1).2;refine bodyPost_ret (v:=.tuple #[.agg #[.int .i64 p,.int .i64 q],.int .i64 0]) (by simp[results,Tryz.results38,go_sem,l0,l1]) rfl ⟨rfl,?_⟩;exact Ad _ _ (Ad _ _ ((Aa _ _).trans (hb1.mono (by simp))) nr) nr
theorem AUe(n:Int)(w:World):Calls Tryz.prog 20 #[.int .i64 n] w fun e w'=>e=.returned (.agg #[.int .i64 n,.int .i64 1])∧Below w.heap.size w w':=by
 go_enter Tryz.func20,Tryz.ntmps20
 go_wp2_with fail
 refine bodyPost_ret (v:=.agg #[.int .i64 n,.int .i64 1]) (by simp[results,Tryz.results20,go_sem]) rfl ⟨rfl,?_⟩;exact Aa _ _
theorem Zt{w:World}{B:Nat}{o:Obj}{v0 v1 u0 u1:Value}(g0:w.cell? ⟨B,0,none⟩=some u0)(g1:w.cell? ⟨B,1,none⟩=some u1):
  (((w.setCell ⟨B,0,none⟩ v0).setCell ⟨B,1,none⟩ v1).alloc o).cell? ⟨B,0,none⟩=some v0∧(((w.setCell ⟨B,0,none⟩ v0).setCell ⟨B,1,none⟩ v1).alloc o).cell? ⟨B,1,none⟩=some v1:=by
 have hz:B<((w.setCell ⟨B,0,none⟩ v0).setCell ⟨B,1,none⟩ v1).heap.size:=by have:=wl g0;simpa using this
 have h:=Ag (v0:=v0) (v1:=v1) g0 g1;exact⟨(World.cell?_alloc_lt _ _ _ hz).trans h.1,(World.cell?_alloc_lt _ _ _ hz).trans h.2⟩

theorem ALh(n d:Int)(n0:-1152921504606846976≤n)(n1:n≤1152921504606846976)(d0:0<d)(d1:d≤1152921504606846976)(w:World):
  Calls Tryz.prog 139 #[.int .i64 n,.int .i64 d] w fun e w'=>e=.returned (.agg #[.int .i64 (Ay n d),.int .i64 (Ar n d)])∧Below w.heap.size w w':=by
 have HM:=lh (AJl n d n0 n1 d0 d1);have HN:=lh (Hj.new w 49);generalize Ay n d=p at *;generalize Ar n d=q at *
 go_enter Tryz.func139,Tryz.ntmps139
 go_wp2_with (go_at_call 38;go_fit (HM.out _);rintro e w1 ⟨rfl,hb1⟩;obtain⟨g0,g1,g2,g3,g4⟩:=HN.out.carry hb1)
 have l0:=(Zt (o:=.cells #[.int .i64 p,.int .i64 q] 49) (v0:=.int .i64 p) (v1:=.int .i64 q) g0 g1).1;have l1:=(Zt (o:=.cells #[.int .i64 p,.int .i64 q] 49) (v0:=.int .i64 p) (v1:=.int .i64 q) g0 g1).2;refine bodyPost_ret (v:=.agg #[.int .i64 p,.int .i64 q]) (by simp[results,Tryz.results139,go_sem,l0,l1]) rfl ⟨rfl,?_⟩;exact Aw _ (Ad ⟨w.heap.size,1,none⟩ _ (Ad ⟨w.heap.size,0,none⟩ _ ((Aa _ _).trans (hb1.mono (by simp))) nr) nr)

theorem AAc{d:Int}{m:Mv}{t:Int}(hg:Ck d m=0)(ht:Hd d m.spd m.rise m.fall t):
  0≤t∧t≤8192∧0≤t*t∧t*t≤67108864∧0≤t*t*(m.rise+m.fall)∧t*t*(m.rise+m.fall)≤2199023255552∧0≤2*m.rise*m.fall∧2*m.rise*m.fall≤536870912∧0≤2*m.rise*m.fall*d∧2*m.rise*m.fall*d≤562949953421312∧0≤2*m.rise*m.fall*t∧2*m.rise*m.fall*t≤4398046511104:=by
 obtain⟨hv,hdd⟩:=Hk hg;obtain⟨V0,V1,R0,R1,F0,F1⟩:=Gb hv;obtain⟨d1,d2⟩:=Fj.1 hdd;have t0:=ht.1;have t1:=ht.2.1;obtain⟨B1,B2,B3,B4,_,_,_,_,_,B5,B6⟩:=Vf (d:=d) (R:=m.rise) (F:=m.fall) (w:=t) d1 d2 (by omega) R1 (by omega) F1 (by omega) (by omega);have B7:2*m.rise*m.fall*d≤536870912*1048576:=Int.mul_le_mul B6 d2 d1 (by decide);have B8:=Int.mul_nonneg B5 d1;have B9:2*m.rise*m.fall*t≤536870912*8192:=Int.mul_le_mul B6 (by omega) (by omega) (by decide);have B10:=Int.mul_nonneg B5 t0;refine⟨t0,by omega,B1,B2,B3,B4,B5,B6,B8,by omega,B10,by omega⟩

theorem AKm(d:Int)(m:Mv)(t:Int)(hg:Ck d m=0)(ht:Hd d m.spd m.rise m.fall t)(w:World):
  Calls Tryz.prog 137 #[.int .i64 d,.agg #[.string m.name,.int .i64 m.to,.int .i64 m.spd,.int .i64 m.rise,.int .i64 m.fall]] w fun e w'=>e=.returned (.agg #[.int .i64 (Ig d m t).1,.int .i64 (Ig d m t).2])∧Below w.heap.size w w':=by
 by_cases hd:d=0
 ·have hd':(d==0)=true:=by simpa using hd
  have HP:Hid (Ig d m t=(0,1)):=lh (by subst hd;exact Sz hg);rw[HP.out];clear hd hg ht
  go_enter Tryz.func137,Tryz.ntmps137
  go_upto_region 2 with (fail)
  have hM:Jx ((w.alloc (.cells #[.string m.name,.int .i64 m.to,.int .i64 m.spd,.int .i64 m.rise,.int .i64 m.fall] 94)).alloc (.cells #[.int .i64 0,.int .i64 0] 49)) w.heap.size m:=(Jx.new w m _).carry (Aa _ _);have hR:Hj ((w.alloc (.cells #[.string m.name,.int .i64 m.to,.int .i64 m.spd,.int .i64 m.rise,.int .i64 m.fall] 94)).alloc (.cells #[.int .i64 0,.int .i64 0] 49)) (w.heap.size+1):=by have h:=Hj.new (w.alloc (.cells #[.string m.name,.int .i64 m.to,.int .i64 m.spd,.int .i64 m.rise,.int .i64 m.fall] 94)) 49;rw[World.size_alloc]at h;exact h
  have hW0:Below w.heap.size w ((w.alloc (.cells #[.string m.name,.int .i64 m.to,.int .i64 m.spd,.int .i64 m.rise,.int .i64 m.fall] 94)).alloc (.cells #[.int .i64 0,.int .i64 0] 49)):=Aw _ (Aa _ _);obtain⟨Br,hBr⟩:=nm (w.heap.size+1);have hle:w.heap.size≤Br:=by omega
  simp only[hBr]at hR⊢;clear hBr;generalize ((w.alloc (.cells #[.string m.name,.int .i64 m.to,.int .i64 m.spd,.int .i64 m.rise,.int .i64 m.fall] 94)).alloc (.cells #[.int .i64 0,.int .i64 0] 49))=W0 at *
  go_wp2_with (go_at_call 20;go_fit (AUe 0 _);rintro e w1 ⟨rfl,hb1⟩;obtain⟨g0,g1,g2,g3,g4⟩:=hR.carry hb1)
  have l0:=(Ag (v0:=.int .i64 0) (v1:=.int .i64 1) g0 g1).1;have l1:=(Ag (v0:=.int .i64 0) (v1:=.int .i64 1) g0 g1).2;refine bodyPost_ret (v:=.agg #[.int .i64 0,.int .i64 1]) (by simp[results,Tryz.results137,go_sem,l0,l1]) rfl ⟨rfl,?_⟩;exact Ad _ _ (Ad _ _ (hW0.trans (hb1.mono hW0.size)) hle) hle
 ·have hd':(d==0)=false:=by simpa using hd
  obtain⟨hv,hdd⟩:=Hk hg;obtain⟨V0,V1,R0,R1,F0,F1⟩:=Gb hv;obtain⟨d1,d2⟩:=Fj.1 hdd;have tp:=Pw (show 1≤d by omega) R0 F0 V0 ht;obtain⟨b0,b1,b2,b3,b4,b5,b6,b7,b8,b9,b10,b11⟩:=AAc hg ht;have hpos:0<2*m.rise*m.fall*t:=Int.mul_pos (ATt R0 F0) (by omega);have HF:=lh (ALh (2*m.rise*m.fall*d+t*t*(m.rise+m.fall)) (2*m.rise*m.fall*t) (by omega) (by omega) hpos (by omega));have HP:Hid (Ig d m t=(Ay (2*m.rise*m.fall*d+t*t*(m.rise+m.fall)) (2*m.rise*m.fall*t),Ar (2*m.rise*m.fall*d+t*t*(m.rise+m.fall)) (2*m.rise*m.fall*t))):=lh (We hg hd);rw[HP.out];have HT:=lh (AGz d m t hg ht);have s1:IntKind.i64.wrap (t*t)=t*t:=IntWalk.i64_in _ (by omega);have s2:IntKind.i64.wrap (m.rise+m.fall)=m.rise+m.fall:=IntWalk.i64_in _ (by omega);have s3:IntKind.i64.wrap (t*t*(m.rise+m.fall))=t*t*(m.rise+m.fall):=IntWalk.i64_in _ (by omega);have s4:IntKind.i64.wrap (2*m.rise)=2*m.rise:=IntWalk.i64_in _ (by omega);have s5:IntKind.i64.wrap (2*m.rise*m.fall)=2*m.rise*m.fall:=IntWalk.i64_in _ (by omega);have s6:IntKind.i64.wrap (2*m.rise*m.fall*d)=2*m.rise*m.fall*d:=IntWalk.i64_in _ (by omega);have s7:IntKind.i64.wrap (2*m.rise*m.fall*t)=2*m.rise*m.fall*t:=IntWalk.i64_in _ (by omega);have s8:IntKind.i64.wrap (2*m.rise*m.fall*d+t*t*(m.rise+m.fall))=2*m.rise*m.fall*d+t*t*(m.rise+m.fall):=IntWalk.i64_in _ (by omega);generalize Ay (2*m.rise*m.fall*d+t*t*(m.rise+m.fall)) (2*m.rise*m.fall*t)=p at *;generalize Ar (2*m.rise*m.fall*d+t*t*(m.rise+m.fall)) (2*m.rise*m.fall*t)=q at *;clear hd hg ht hv hdd b0 b1 b2 b3 b4 b5 b6 b7 b8 b9 b10 b11 hpos
  go_enter Tryz.func137,Tryz.ntmps137
  go_upto_region 3 with (fail)
  have hM:Jx ((w.alloc (.cells #[.string m.name,.int .i64 m.to,.int .i64 m.spd,.int .i64 m.rise,.int .i64 m.fall] 94)).alloc (.cells #[.int .i64 0,.int .i64 0] 49)) w.heap.size m:=(Jx.new w m _).carry (Aa _ _);have hR:Hj ((w.alloc (.cells #[.string m.name,.int .i64 m.to,.int .i64 m.spd,.int .i64 m.rise,.int .i64 m.fall] 94)).alloc (.cells #[.int .i64 0,.int .i64 0] 49)) (w.heap.size+1):=by have h:=Hj.new (w.alloc (.cells #[.string m.name,.int .i64 m.to,.int .i64 m.spd,.int .i64 m.rise,.int .i64 m.fall] 94)) 49;rw[World.size_alloc]at h;exact h
  have hW0:Below w.heap.size w ((w.alloc (.cells #[.string m.name,.int .i64 m.to,.int .i64 m.spd,.int .i64 m.rise,.int .i64 m.fall] 94)).alloc (.cells #[.int .i64 0,.int .i64 0] 49)):=Aw _ (Aa _ _);obtain⟨Br,hBr⟩:=nm (w.heap.size+1);have hle:w.heap.size≤Br:=by omega
  simp only[hBr]at hR⊢;clear hBr;generalize ((w.alloc (.cells #[.string m.name,.int .i64 m.to,.int .i64 m.spd,.int .i64 m.rise,.int .i64 m.fall] 94)).alloc (.cells #[.int .i64 0,.int .i64 0] 49))=W0 at *;have HM:=lh hM;obtain⟨k0,k1,k2,k3,k4⟩:=hM
  go_wp2_with (first
   | (go_at_call 138;go_fit (HT.out _);rintro e w1 ⟨rfl,hb1⟩;obtain⟨k0,k1,k2,k3,k4⟩:=HM.out.carry hb1)
   | (go_at_call 139;go_fit (HF.out _);rintro e w2 ⟨rfl,hb2⟩;have hb3:=Av hb1 hb2;obtain⟨g0,g1,g2,g3,g4⟩:=hR.carry hb3))
  have l0:=(Ag (v0:=.int .i64 p) (v1:=.int .i64 q) g0 g1).1;have l1:=(Ag (v0:=.int .i64 p) (v1:=.int .i64 q) g0 g1).2;refine bodyPost_ret (v:=.agg #[.int .i64 p,.int .i64 q]) (by simp[results,Tryz.results137,go_sem,l0,l1]) rfl ⟨rfl,?_⟩;exact Ad _ _ (Ad _ _ (hW0.trans (hb3.mono hW0.size)) hle) hle
def kp(e:Int)(r:Int×Int×Int):(Int×Int)×Int:=if r.2.2=0 then((r.1,r.2.1),e)else((0,1),if e=0 then r.2.2 else e)
def Om(e:Int)(a b:Int×Int):(Int×Int)×Int:=kp e (Jn a.1 a.2 b.1 b.2)
def Te(e:Int)(a b:Int×Int):(Int×Int)×Int:=kp e (Jn a.1 a.2 (-b.1) b.2)
def Ik(e:Int)(a b:Int×Int):(Int×Int)×Int:=kp e (Ng a.1 a.2 b.1 b.2)
def Wd(e:Int)(A B C u:Int×Int):(Int×Int)×Int:=Om (Ik (Om (Ik e C u).2 B (Ik e C u).1).2 (Om (Ik e C u).2 B (Ik e C u).1).1 u).2 A (Ik (Om (Ik e C u).2 B (Ik e C u).1).2 (Om (Ik e C u).2 B (Ik e C u).1).1 u).1
def Xq(e:Int)(B C u:Int×Int):(Int×Int)×Int:=Om (Ik (Ik e C u).2 (2,1) (Ik e C u).1).2 B (Ik (Ik e C u).2 (2,1) (Ik e C u).1).1
def vF(a:Int×Int):Bool:=Cf a.1 a.2
theorem AOk{p q:Int}(hq:0<q)(c:Int.gcd p q=1)(h:(Kx p q).2.2=0):Kx p q=(p,q,0)∧Cf p q=true:=by
 unfold Kx at *
 split at h
 ·cases h
 next hn=>
  rw[if_neg hn];exact⟨rfl,(Bj _ _).2 ⟨by omega,by omega,by omega,by omega,c⟩⟩
theorem AAo:vF (0,1)=true:=(Bj _ _).2 ⟨by decide,by decide,by decide,by decide,by decide⟩
theorem Xb{e p q:Int}(hq:0<q)(c:Int.gcd p q=1):vF (kp e (Kx p q)).1=true:=by
 unfold kp
 by_cases h:(Kx p q).2.2=0
 ·rw[if_pos h,(AOk hq c h).1]
  exact(AOk hq c h).2
 ·rw[if_neg h];exact AAo
theorem Bp{a:Int×Int}(h:vF a=true):0<a.2:=by have:=(Bj _ _).1 h;omega
theorem Iz{e:Int}{a b:Int×Int}(ha:vF a=true)(hb:vF b=true):vF (Om e a b).1=true:=Xb (Eg (Int.mul_pos (Bp ha) (Bp hb))) (Kl (Int.mul_pos (Bp ha) (Bp hb)))
theorem Le{e:Int}{a b:Int×Int}(ha:vF a=true)(hb:vF b=true):vF (Te e a b).1=true:=Xb (Eg (Int.mul_pos (Bp ha) (Bp hb))) (Kl (Int.mul_pos (Bp ha) (Bp hb)))
theorem Ff{e:Int}{a b:Int×Int}(ha:vF a=true)(hb:vF b=true):vF (Ik e a b).1=true:=Xb (Eg (Int.mul_pos (Bp ha) (Bp hb))) (Kl (Int.mul_pos (Bp ha) (Bp hb)))
theorem AGo:vF (2,1)=true:=(Bj _ _).2 ⟨by decide,by decide,by decide,by decide,by decide⟩
theorem AGh{e:Int}{A B C u:Int×Int}(hA:vF A=true)(hB:vF B=true)(hC:vF C=true)(hu:vF u=true):vF (Wd e A B C u).1=true:=Iz hA (Ff (Iz hB (Ff hC hu)) hu)
theorem AAm{e:Int}{B C u:Int×Int}(hB:vF B=true)(hC:vF C=true)(hu:vF u=true):vF (Xq e B C u).1=true:=Iz hB (Ff AGo (Ff hC hu))
end
end Go.Proofs.YtebofaenlhhkaaaGreat
