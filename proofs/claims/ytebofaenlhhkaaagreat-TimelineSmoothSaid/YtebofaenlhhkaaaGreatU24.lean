/-
  THE WALK of the reference's binary gcd (02), where the high words are 0: what its two numbers' memory looks like; the plain steps.
-/
import Derived.Test.YtebofaenlhhkaaaGreatU23
namespace Go.Proofs.YtebofaenlhhkaaaGreat
set_option maxRecDepth 100000
set_option maxHeartbeats 80000000
section
open Go.RowKit Go.Shelf
theorem gcd_half2{x y:Int}(hx:x%2=0)(hy:y%2=0):Int.gcd x y=2*Int.gcd (x/2) (y/2):=by
 have h:=Int.gcd_mul_left 2 (x/2) (y/2);rw[show 2*(x/2)=x by omega,show 2*(y/2)=y by omega]at h;exact h
theorem gcd_half1{x y:Int}(hx:x%2=0)(hy:y%2=1):Int.gcd (x/2) y=Int.gcd x y:=by
 have c:Int.gcd 2 y=1:=by
  rw[show y=1+(y/2)*2 by omega,Int.gcd_add_mul_right_right]
  rfl
 have h:=Int.gcd_mul_right_left_of_gcd_eq_one (n:=2) (k:=x/2) c;rw[show 2*(x/2)=x by omega]at h;exact h.symm
theorem gcd_odd{x y:Int}(h:Int.gcd x y%2=1)(hx:x%2=0):y%2=1:=by
 rcases(show y%2=0∨y%2=1 by omega)with c | c
 ·have:=gcd_half2 hx c;omega
 ·exact c
theorem gcd_halfL{x y:Int}(h:Int.gcd x y%2=1)(hx:x%2=0):Int.gcd (x/2) y=Int.gcd x y:=gcd_half1 hx (gcd_odd h hx)
theorem gcd_halfR{x y:Int}(h:Int.gcd x y%2=1)(hy:y%2=0):Int.gcd x (y/2)=Int.gcd x y:=by
 rw[Int.gcd_comm x,Int.gcd_comm x];exact gcd_halfL (by rw[Int.gcd_comm];exact h) hy
theorem gcd_sub{x y:Int}:Int.gcd (x-y) y=Int.gcd x y:=by
 rw[Int.gcd_sub_self_left]
theorem odd_one{x y:Int}(hx:x%2=1∨y%2=1):Int.gcd x y%2=1:=by
 rcases(show Int.gcd x y%2=0∨Int.gcd x y%2=1 by omega)with c | c
 ·have h2:(2:Nat)∣Int.gcd x y:=Nat.dvd_of_mod_eq_zero c
  have d1:(2:Int)∣x:=Int.dvd_trans (Int.natCast_dvd_natCast.2 h2) (Int.gcd_dvd_left x y);have d2:(2:Int)∣y:=Int.dvd_trans (Int.natCast_dvd_natCast.2 h2) (Int.gcd_dvd_right x y);omega
 ·exact c

def UU(w:World)(n:Nat)(x y:Int):Prop:=w.cell? ⟨n,0,none⟩=some (.int .u64 0)∧w.cell? ⟨n,1,none⟩=some (.int .u64 x)∧w.cell? ⟨n+1,0,none⟩=some (.int .u64 0)∧w.cell? ⟨n+1,1,none⟩=some (.int .u64 y)∧w.cell? ⟨n+1+1,0,none⟩=some (.int .u64 0)∧w.cell? ⟨n+1+1,1,none⟩=some (.int .u64 0)∧w.frozen? ⟨n,0,none⟩=false∧w.frozen? ⟨n,1,none⟩=false∧w.frozen? ⟨n+1,0,none⟩=false∧w.frozen? ⟨n+1,1,none⟩=false∧w.frozen? ⟨n+1+1,0,none⟩=false∧w.frozen? ⟨n+1+1,1,none⟩=false∧n+1+1<w.heap.size
theorem UU.carry{W w:World}{n:Nat}{x y:Int}(f:UU W n x y)(h:Below W.heap.size W w):UU w n x y:=by
 obtain⟨a0,a1,a2,a3,a4,a5,b0,b1,b2,b3,b4,b5,c⟩:=f;have e0:n<W.heap.size:=by omega
 have e1:n+1<W.heap.size:=by omega
 exact⟨(h.cell (p:=⟨n,0,none⟩) e0).trans a0,(h.cell (p:=⟨n,1,none⟩) e0).trans a1,(h.cell (p:=⟨n+1,0,none⟩) e1).trans a2,(h.cell (p:=⟨n+1,1,none⟩) e1).trans a3,(h.cell (p:=⟨n+1+1,0,none⟩) c).trans a4,(h.cell (p:=⟨n+1+1,1,none⟩) c).trans a5,(h.frozen (p:=⟨n,0,none⟩) e0).trans b0,(h.frozen (p:=⟨n,1,none⟩) e0).trans b1,(h.frozen (p:=⟨n+1,0,none⟩) e1).trans b2,(h.frozen (p:=⟨n+1,1,none⟩) e1).trans b3,(h.frozen (p:=⟨n+1+1,0,none⟩) c).trans b4,(h.frozen (p:=⟨n+1+1,1,none⟩) c).trans b5,Nat.lt_of_lt_of_le c h.size⟩
theorem UU.setA{w:World}{n:Nat}{x y:Int}(f:UU w n x y)(z:Int):UU ((w.setCell ⟨n,0,none⟩ (.int .u64 0)).setCell ⟨n,1,none⟩ (.int .u64 z)) n z y:=by
 obtain⟨a0,a1,a2,a3,a4,a5,b0,b1,b2,b3,b4,b5,c⟩:=f;obtain⟨d0,d1⟩:=two_cells (v0:=.int .u64 0) (v1:=.int .u64 z) a0 a1;exact⟨d0,d1,(two_other (by omega) _ _ _).trans a2,(two_other (by omega) _ _ _).trans a3,(two_other (by omega) _ _ _).trans a4,(two_other (by omega) _ _ _).trans a5,by simpa using b0,by simpa using b1,by simpa using b2,by simpa using b3,by simpa using b4,by simpa using b5,by simpa using c⟩
theorem UU.setB{w:World}{n:Nat}{x y:Int}(f:UU w n x y)(z:Int):UU ((w.setCell ⟨n+1,0,none⟩ (.int .u64 0)).setCell ⟨n+1,1,none⟩ (.int .u64 z)) n x z:=by
 obtain⟨a0,a1,a2,a3,a4,a5,b0,b1,b2,b3,b4,b5,c⟩:=f;obtain⟨d0,d1⟩:=two_cells (v0:=.int .u64 0) (v1:=.int .u64 z) a2 a3;exact⟨(two_other (by omega) _ _ _).trans a0,(two_other (by omega) _ _ _).trans a1,d0,d1,(two_other (by omega) _ _ _).trans a4,(two_other (by omega) _ _ _).trans a5,by simpa using b0,by simpa using b1,by simpa using b2,by simpa using b3,by simpa using b4,by simpa using b5,by simpa using c⟩
theorem and_one(x:Int)(h0:0≤x)(h1:x<18446744073709551616):bits .and .u64 x 1=x%2:=by
 obtain⟨n,rfl⟩:=Int.eq_ofNat_of_zero_le h0;have h:=bits_and_u64_nat n 1 (by omega) (by omega);have e:n&&& 1=n%2:=Nat.and_two_pow_sub_one_eq_mod n 1;rw[e]at h;exact h.trans (by omega)

def mA(n:Nat)(w:World):Nat:=(intOf ((w.cell? ⟨n,1,none⟩).getD (.int .i64 0))).toNat
theorem mA_of{w:World}{n:Nat}{x y:Int}(h:UU w n x y):mA n w=x.toNat:=by unfold mA;rw[h.2.1];rfl
theorem mB_of{w:World}{n:Nat}{x y:Int}(h:UU w n x y):mA (n+1) w=y.toNat:=by unfold mA;rw[h.2.2.2.1];rfl
def mAB(n:Nat)(w:World):Nat:=mA n w+mA (n+1) w
theorem mAB_of{w:World}{n:Nat}{x y:Int}(h:UU w n x y):mAB n w=x.toNat+y.toNat:=by unfold mAB;rw[mA_of h,mB_of h]
def G2(g:Nat)(x y:Int):Prop:=Int.gcd x y=g∧g%2=1
def G5(k:Nat)(g:Nat)(j:Nat)(z:Int):Prop:=(2:Int)^j*z=2^k*(g:Int)

theorem rgcd_any(a b:Int)(a0:0≤a)(a1:a<18446744073709551616)(b0:0<b)(b1:b<18446744073709551616)(w:World):
  Calls Tryz.prog 105 #[.agg #[.int .u64 0,.int .u64 a],.agg #[.int .u64 0,.int .u64 b]] w fun e w'=>e=.returned (.agg #[.int .u64 0,.int .u64 (Int.gcd a b:Int)])∧Below w.heap.size w w':=by
 by_cases ha:a=0
 ·have ha':(a==0)=true:=by simpa using ha
  have HR:Hid ((Int.gcd a b:Int)=b):=lh (by rw[ha];simp;omega);rw[HR.out];clear ha
  go_enter Tryz.func105,Tryz.ntmps105
  go_wp2_with fail
  refine bodyPost_ret (v:=.agg #[.int .u64 0,.int .u64 b]) (by simp[results,Tryz.results105,go_sem]) rfl ⟨rfl,?_⟩;exact((below_new _ _).alloc (by simp) _).alloc (by simp<;>omega) _
 ·have ha':(a==0)=false:=by simpa using ha
  have ap:0<a:=by omega
  clear ha;have HGB:Hid ((Int.gcd a b:Int)≤b):=lh (Int.le_of_dvd b0 (Int.gcd_dvd_right a b));obtain⟨GG,hGG⟩:=nm ((Int.gcd a b:Int):Int);rw[hGG];rw[hGG]at HGB;have HGG:=lh hGG;clear hGG
  go_enter Tryz.func105,Tryz.ntmps105
  go_wp2_with fail
  go_loopw [5] (fun t wr=>∃(k:Nat) (x y:Int),t=.int .i64 k∧k≤64∧0<x∧x<18446744073709551616∧0<y∧y<18446744073709551616∧Hid (Int.gcd a b=2^k*Int.gcd x y∧2^k*x≤a)∧UU wr w.heap.size x y∧Below w.heap.size w wr) (fun _ wr=>mA w.heap.size wr)
  case atStart=>
   refine⟨0,a,b,rfl,by omega,ap,a1,b0,b1,lh ⟨by simp,by simp⟩,?_,?_⟩
   ·refine⟨?_,?_,?_,?_,?_,?_,?_,?_,?_,?_,?_,?_,?_⟩
    all_goals first | (simp[go_sem,World.cell?_alloc_past];done) | (simp;done) | (simp<;>omega)
   ·exact((below_new _ _).alloc (by simp) _).alloc (by simp<;>omega) _
  case round=>
   obtain⟨k,x,y,rfl,hk,x0,x1,y0,y1,HG,hU,hB⟩:=hrel;have HU:=lh hU;obtain⟨u0,u1,u2,u3,u4,u5,f0,f1,f2,f3,f4,f5,uz⟩:=hU;have hx1:=and_one x (by omega) x1;have hy1:=and_one y (by omega) y1
   by_cases cb:x%2=0∧y%2=0
   ·have cx':(x%2==0)=true:=by simpa using cb.1
    have cy':(y%2==0)=true:=by simpa using cb.2
    have kl:k<64:=by
     rcases Nat.lt_or_ge k 64 with l | l
     ·exact l
     ·obtain rfl:k=64:=by omega
      have:=HG.out.2;omega
    have HN:Hid (Int.gcd a b=2^(k+1)*Int.gcd (x/2) (y/2)∧2^(k+1)*(x/2)≤a):=lh ⟨by
      rw[HG.out.1,gcd_half2 cb.1 cb.2,Nat.pow_succ,Nat.mul_assoc],by
      have h:=HG.out.2;have e:(2:Int)^(k+1)*(x/2)=2^k*x:=by rw[Int.pow_succ,Int.mul_assoc,show 2*(x/2)=x by omega]
      rw[e];exact h⟩
    have s1:IntKind.i64.wrap ((k:Int)+1)=(k:Int)+1:=IntWalk.i64_in _ (by omega);have hbr:=Below.refl wr.heap.size wr;have x2:0<x/2:=by omega
    have y2:0<y/2:=by omega
    clear cb
    go_wp2_with fail
    go_region_with (first
     | (go_at_call 153;(with_reducible refine(half_any x (by omega) x1 _).mono ?_);rintro e w1 ⟨rfl,hb1⟩;have hx:Below wr.heap.size wr w1:=hbr.drew.trans hb1;obtain⟨u0,u1,u2,u3,u4,u5,f0,f1,f2,f3,f4,f5,uz⟩:=UU.carry HU.out hx)
     | (go_at_call 153;(with_reducible refine(half_any y (by omega) y1 _).mono ?_);rintro e w2 ⟨rfl,hb2⟩;have hy:=held_next (wr:=wr) hx hb2;obtain⟨u0,u1,u2,u3,u4,u5,f0,f1,f2,f3,f4,f5,uz⟩:=UU.carry HU.out hy))
    all_goals simp only[Act.put,List.setIfInBounds_toArray,List.set_cons_zero,List.set_cons_succ,List.getElem_toArray,List.getElem_cons_succ,List.getElem_cons_zero]
    all_goals go_wp2_with fail
    all_goals go_roundw
    all_goals have U2:=UU.carry HU.out hy
    all_goals have B2:Below w.heap.size w w2:=hB.trans (hy.mono hB.size)
    all_goals first
     | exact⟨k+1,x/2,y/2,by go_num,by omega,x2,by omega,y2,by omega,HN,by first | exact(U2.setA _).setB _ | exact(U2.setB _).setA _,by repeat' (first | exact B2 | refine Below.setCell ?_ (by simp) _)⟩
     | ((first | rw[mA_of ((U2.setA (x/2)).setB (y/2)),mA_of HU.out] | rw[mA_of ((U2.setB (y/2)).setA (x/2)),mA_of HU.out]);omega)
   ·have HO:Hid (Int.gcd x y%2=1):=lh (odd_one (by omega))
    by_cases cx:x%2=0
    all_goals
     first
      | (have cx':(x%2==0)=true:=by simpa using cx
         have cy':(y%2==0)=false:=by simp;omega
         clear cb cx
         go_wp2_with fail)
      | (have cx':(x%2==0)=false:=by simpa using cx
         clear cb cx
         go_wp2_with fail)
     obtain⟨g,hg⟩:=nm (Int.gcd x y:Nat);have HP:Hid (GG=2^k*(g:Int)):=lh (by have:=HG.out.1;rw[hg]at this;rw[←HGG.out,this];simp);have HG2:Hid (G2 g x y):=lh ⟨hg,by rw[←hg];exact HO.out⟩;clear HO HG hg u0 u1 u2 u3 u4 u5 f0 f1 f2 f3 f4 f5 uz hx1 hy1;obtain⟨wp,rfl⟩:∃W:World,W=wr:=⟨_,rfl⟩
     go_loopw [] (fun wr=>∃(x y:Int),0≤x∧x<18446744073709551616∧0<y∧y<18446744073709551616∧Hid (G2 g x y)∧UU wr w.heap.size x y∧Below w.heap.size w wr) (fun wr=>mAB w.heap.size wr)
     case atStart=>exact⟨x,y,by omega,x1,y0,y1,HG2,HU.out,hB⟩
     case round=>
      obtain⟨x,y,x0,x1,y0,y1,HG,hU,hB⟩:=hrel;have HU:=lh hU;obtain⟨u0,u1,u2,u3,u4,u5,f0,f1,f2,f3,f4,f5,uz⟩:=hU
      by_cases cz:x=0
      ·have cz':(x==0)=true:=by simpa using cz
       have HZ:Hid (G5 k g k y):=lh (by
        have h:=HG.out.1;rw[cz]at h;unfold G5;rw[←h]
        congr 1
        simp
        omega)
       have HU2:Hid (UU wr w.heap.size 0 y):=lh (by have:=HU.out;rwa [cz]at this);clear cz HG HU HG2
       go_wp2_with fail
       clear u0 u1 u2 u3 u4 u5 f0 f1 f2 f3 f4 f5 uz cz';obtain⟨wo,rfl⟩:∃W:World,W=wr:=⟨_,rfl⟩
       go_loopw [5] (fun t wr=>∃(j:Nat) (z:Int),t=.int .i64 j∧j≤64∧0<z∧z<18446744073709551616∧Hid (G5 k g j z)∧UU wr w.heap.size 0 z∧Below w.heap.size w wr) (fun t _=>(intOf t).toNat)
       case atStart=>exact⟨k,y,rfl,hk,y0,y1,HZ,HU2.out,hB⟩
       case round=>
        obtain⟨j,z,rfl,hj,z0,z1,HG,hU,hB⟩:=hrel;have HU:=lh hU;obtain⟨u0,u1,u2,u3,u4,u5,f0,f1,f2,f3,f4,f5,uz⟩:=hU;rcases(show j=0∨∃i,j=i+1 by cases j with | zero=>exact .inl rfl | succ i=>exact .inr ⟨i,rfl⟩)with rfl | ⟨i,rfl⟩
        ·obtain rfl:z=GG:=by
          have h:=HG.out;unfold G5 at h;rw[Int.pow_zero,Int.one_mul,←HP.out]at h;exact h
         go_wp2_with fail
         have l0:=(two_cells (v0:=.int .u64 0) (v1:=.int .u64 z) u4 u5).1;have l1:=(two_cells (v0:=.int .u64 0) (v1:=.int .u64 z) u4 u5).2;refine bodyPost_ret (v:=.agg #[.int .u64 0,.int .u64 z]) (by simp[results,Tryz.results105,go_sem,l0,l1]) rfl ⟨rfl,?_⟩;exact below_s _ _ (below_s _ _ hB (by simp<;>omega)) (by simp<;>omega)
        ·have hz:z+z<18446744073709551616:=by
          have h:=HG.out;unfold G5 at h;rw[←HP.out,Int.pow_succ,Int.mul_assoc]at h
          have p1:(1:Int)≤2^i:=by
           have:=Nat.one_le_two_pow (n:=i);have e:((2^i:Nat):Int)=(2:Int)^i:=by simp
           omega
          have:=Int.mul_le_mul_of_nonneg_right p1 (show 0≤2*z by omega);have:=HGB.out;omega
         have HN:Hid (G5 k g i (z+z)):=lh (by
          have h:=HG.out;unfold G5 at *;rw[Int.pow_succ,Int.mul_assoc,Int.two_mul]at h;exact h)
         have hi0:(0:Int)≤i:=by omega
         clear HG
         go_wp2_with (go_at_call 155;(with_reducible refine(rplus_any z z (by omega) (by omega) hz _).mono ?_);rintro e w1 ⟨rfl,hb1⟩;have U1:=UU.carry HU.out hb1;obtain⟨u0,u1,u2,u3,u4,u5,f0,f1,f2,f3,f4,f5,uz⟩:=U1)
         go_roundw
         case rel=>exact⟨i,z+z,by go_num,by omega,by omega,hz,HN,(UU.carry HU.out hb1).setB _,below_s _ _ (below_s _ _ (hB.trans (hb1.mono hB.size)) (Nat.le_succ _)) (Nat.le_succ _)⟩
         case measure=>simp[intOf]
      ·have cz':(x==0)=false:=by simpa using cz
       have xp:0<x:=by omega
       clear cz HG2;have HUX:=HU
       go_wp2_with fail
       clear u0 u1 u2 u3 u4 u5 f0 f1 f2 f3 f4 f5 uz cz' HU;obtain⟨wo,rfl⟩:∃W:World,W=wr:=⟨_,rfl⟩
       go_loopw [] (fun wr=>∃x':Int,0<x'∧x'≤x∧Hid (G2 g x' y)∧UU wr w.heap.size x' y∧Below w.heap.size w wr) (fun wr=>mA w.heap.size wr)
       case atStart=>exact⟨x,xp,Int.le_refl _,HG,HUX.out,hB⟩
       case round=>
        clear HG hB;obtain⟨x',xp',xl,HG,hU,hB⟩:=hrel;have HU:=lh hU;obtain⟨u0,u1,u2,u3,u4,u5,f0,f1,f2,f3,f4,f5,uz⟩:=hU;have hx1:=and_one x' (by omega) (by omega)
        by_cases ex:x'%2=0
        ·have ex':(x'%2==0)=true:=by simpa using ex
         have HN:Hid (G2 g (x'/2) y):=lh ⟨by rw[gcd_halfL (by rw[HG.out.1];exact HG.out.2) ex];exact HG.out.1,HG.out.2⟩;have x2:0<x'/2:=by omega
         clear ex HG
         go_wp2_with (go_at_call 153;(with_reducible refine(half_any x' (by omega) (by omega) _).mono ?_);rintro e w1 ⟨rfl,hb1⟩;have U1:=UU.carry HU.out hb1;obtain⟨u0,u1,u2,u3,u4,u5,f0,f1,f2,f3,f4,f5,uz⟩:=U1)
         go_roundw
         case rel=>exact⟨x'/2,x2,by omega,HN,(UU.carry HU.out hb1).setA _,below_s _ _ (below_s _ _ (hB.trans (hb1.mono hB.size)) (Nat.le_refl _)) (Nat.le_refl _)⟩
         case measure=>rw[mA_of ((UU.carry HU.out hb1).setA (x'/2)),mA_of HU.out];omega
        ·have ex':(x'%2==0)=false:=by simpa using ex
         clear ex
         go_wp2_with fail
         clear u0 u1 u2 u3 u4 u5 f0 f1 f2 f3 f4 f5 uz ex' hx1;obtain⟨wq,rfl⟩:∃W:World,W=wr:=⟨_,rfl⟩
         go_loopw [] (fun wr=>∃y':Int,0<y'∧y'≤y∧Hid (G2 g x' y')∧UU wr w.heap.size x' y'∧Below w.heap.size w wr) (fun wr=>mA (w.heap.size+1) wr)
         case atStart=>exact⟨y,y0,Int.le_refl _,HG,HU.out,hB⟩
         case round=>
          clear HG hB HU;obtain⟨y',yp',yl,HG,hU,hB⟩:=hrel;have HU:=lh hU;obtain⟨u0,u1,u2,u3,u4,u5,f0,f1,f2,f3,f4,f5,uz⟩:=hU;have hy1:=and_one y' (by omega) (by omega)
          by_cases ey:y'%2=0
          ·have ey':(y'%2==0)=true:=by simpa using ey
           have HN:Hid (G2 g x' (y'/2)):=lh ⟨by rw[gcd_halfR (by rw[HG.out.1];exact HG.out.2) ey];exact HG.out.1,HG.out.2⟩;have y2:0<y'/2:=by omega
           clear ey HG
           go_wp2_with (go_at_call 153;(with_reducible refine(half_any y' (by omega) (by omega) _).mono ?_);rintro e w1 ⟨rfl,hb1⟩;have U1:=UU.carry HU.out hb1;obtain⟨u0,u1,u2,u3,u4,u5,f0,f1,f2,f3,f4,f5,uz⟩:=U1)
           go_roundw
           case rel=>exact⟨y'/2,y2,by omega,HN,(UU.carry HU.out hb1).setB _,below_s _ _ (below_s _ _ (hB.trans (hb1.mono hB.size)) (Nat.le_succ _)) (Nat.le_succ _)⟩
           case measure=>rw[mB_of ((UU.carry HU.out hb1).setB (y'/2)),mB_of HU.out];omega
          ·have ey':(y'%2==0)=false:=by simpa using ey
           clear ey;have HUq:=HU
           by_cases lt:x'<y'
           ·have lt':decide (x'<y')=true:=decide_eq_true lt
            have HN:Hid (G2 g (y'-x') x'):=lh ⟨by rw[gcd_sub,Int.gcd_comm];exact HG.out.1,HG.out.2⟩
            go_upto_region 13 with (go_at_call 72;(with_reducible refine(rless_any x' y' _).mono ?_);rw[lt'];rintro e w1 ⟨rfl,hb1⟩;have U1:=UU.carry HU.out hb1;obtain⟨u0,u1,u2,u3,u4,u5,f0,f1,f2,f3,f4,f5,uz⟩:=U1)
            have U3:=((UU.carry HU.out hb1).setA y').setB x';have B3:Below w.heap.size w ((((w1.setCell ⟨w.heap.size,0,none⟩ (.int .u64 0)).setCell ⟨w.heap.size,1,none⟩ (.int .u64 y')).setCell ⟨w.heap.size+1,0,none⟩ (.int .u64 0)).setCell ⟨w.heap.size+1,1,none⟩ (.int .u64 x')):=below_s _ _ (below_s _ _ (below_s _ _ (below_s _ _ (hB.trans (hb1.mono hB.size)) (Nat.le_refl _)) (Nat.le_refl _)) (Nat.le_succ _)) (Nat.le_succ _);clear u0 u1 u2 u3 u4 u5 f0 f1 f2 f3 f4 f5 uz lt' ey' hy1 hb1 HU HG;generalize ((((w1.setCell ⟨w.heap.size,0,none⟩ (.int .u64 0)).setCell ⟨w.heap.size,1,none⟩ (.int .u64 y')).setCell ⟨w.heap.size+1,0,none⟩ (.int .u64 0)).setCell ⟨w.heap.size+1,1,none⟩ (.int .u64 x'))=w3 at *;have HU3:=lh U3;obtain⟨u0,u1,u2,u3,u4,u5,f0,f1,f2,f3,f4,f5,uz⟩:=U3
            go_wp2_with (go_at_call 154;(with_reducible refine(rminus_any y' x' (by omega) (by omega) (by omega) _).mono ?_);rintro e w4 ⟨rfl,hb4⟩;have U4:=UU.carry HU3.out hb4;obtain⟨u0,u1,u2,u3,u4,u5,f0,f1,f2,f3,f4,f5,uz⟩:=U4)
            go_roundw
            case rel=>exact⟨y'-x',x',by omega,by omega,by omega,by omega,HN,(UU.carry HU3.out hb4).setA _,below_s _ _ (below_s _ _ (B3.trans (hb4.mono B3.size)) (Nat.le_refl _)) (Nat.le_refl _)⟩
            case measure=>rw[mAB_of ((UU.carry HU3.out hb4).setA (y'-x')),mAB_of HUX.out];omega
           ·have lt':decide (x'<y')=false:=decide_eq_false lt
            have HN:Hid (G2 g (x'-y') y'):=lh ⟨by rw[gcd_sub];exact HG.out.1,HG.out.2⟩
            go_wp2_with (first | (go_at_call 72;(with_reducible refine(rless_any x' y' _).mono ?_);rw[lt'];rintro e w1 ⟨rfl,hb1⟩;have U1:=UU.carry HU.out hb1;obtain⟨u0,u1,u2,u3,u4,u5,f0,f1,f2,f3,f4,f5,uz⟩:=U1) | (go_at_call 154;(with_reducible refine(rminus_any x' y' (by omega) (by omega) (by omega) _).mono ?_);rintro e w4 ⟨rfl,hb4⟩;have U4:=UU.carry (UU.carry HU.out hb1) hb4;obtain⟨u0,u1,u2,u3,u4,u5,f0,f1,f2,f3,f4,f5,uz⟩:=U4))
            have hb5:Below wr.heap.size wr w4:=held_next hb1 hb4;go_roundw
            case rel=>exact⟨x'-y',y',by omega,by omega,by omega,by omega,HN,(UU.carry HU.out hb5).setA _,below_s _ _ (below_s _ _ (hB.trans (hb5.mono hB.size)) (Nat.le_refl _)) (Nat.le_refl _)⟩
            case measure=>rw[mAB_of ((UU.carry HU.out hb5).setA (x'-y')),mAB_of HUX.out];omega
theorem rdiv_any(a b:Int)(a0:0≤a)(a1:a<18446744073709551616)(b0:0<b)(b1:b<18446744073709551616)(w:World):
  Calls Tryz.prog 106 #[.agg #[.int .u64 0,.int .u64 a],.agg #[.int .u64 0,.int .u64 b]] w fun e w'=>e=.returned (.tuple #[.agg #[.int .u64 0,.int .u64 (a/b)],.agg #[.int .u64 0,.int .u64 (a%b)]])∧Below w.heap.size w w':=by
 have hb:(b==0)=false:=by simp;omega
 have hq:=Int.ediv_nonneg a0 (Int.le_of_lt b0);have hr:=Int.emod_nonneg a (show b≠0 by omega)
 go_enter Tryz.func106,Tryz.ntmps106
 go_wp2_with fail
 go_region
 all_goals go_wp2_with fail
 all_goals refine bodyPost_ret (v:=.tuple #[.agg #[.int .u64 0,.int .u64 (a/b)],.agg #[.int .u64 0,.int .u64 (a%b)]]) (by simp[results,Tryz.results106,go_sem]) rfl ⟨rfl,?_⟩
 all_goals exact(below_a _ (below_a _ (below_a _ (below_new _ _)))).drew

def C2(w:World)(B:Nat)(v0 v1:Value):Prop:=w.cell? ⟨B,0,none⟩=some v0∧w.cell? ⟨B,1,none⟩=some v1
theorem C2.carry{W w:World}{B:Nat}{v0 v1:Value}(c:C2 W B v0 v1)(h:Below W.heap.size W w):C2 w B v0 v1:=
 ⟨(h.cell (p:=⟨B,0,none⟩) (wl c.1)).trans c.1,(h.cell (p:=⟨B,1,none⟩) (wl c.2)).trans c.2⟩
theorem C2.new(W:World)(v0 v1:Value)(t:TypeId):C2 (W.alloc (.cells #[v0,v1] t)) W.heap.size v0 v1:=⟨by simp,by simp⟩

def NewI6(w:World)(b:Nat):Prop:=w.cell? ⟨b,0,none⟩=some (.int .i64 0)∧w.cell? ⟨b,1,none⟩=some (.int .i64 0)∧w.frozen? ⟨b,0,none⟩=false∧w.frozen? ⟨b,1,none⟩=false∧b<w.heap.size
theorem NewI6.new(W:World)(t:TypeId):NewI6 (W.alloc (.cells #[.int .i64 0,.int .i64 0] t)) W.heap.size:=⟨by simp,by simp,by simp,by simp,by simp⟩
theorem NewI6.carry{W w:World}{b:Nat}(f:NewI6 W b)(h:Below W.heap.size W w):NewI6 w b:=
 ⟨(h.cell (p:=⟨b,0,none⟩) f.2.2.2.2).trans f.1,(h.cell (p:=⟨b,1,none⟩) f.2.2.2.2).trans f.2.1,(h.frozen (p:=⟨b,0,none⟩) f.2.2.2.2).trans f.2.2.1,(h.frozen (p:=⟨b,1,none⟩) f.2.2.2.2).trans f.2.2.2.1,Nat.lt_of_lt_of_le f.2.2.2.2 h.size⟩

theorem rmade_any(n d:Int)(neg:Bool)(n0:0≤n)(n1:n≤1152921504606846976)(d0:0<d)(d1:d≤1152921504606846976)(w:World):
  Calls Tryz.prog 66 #[.agg #[.int .u64 0,.int .u64 n],.bool neg,.agg #[.int .u64 0,.int .u64 d]] w fun e w'=>e=.returned (.tuple #[.agg #[.int .i64 (if neg then -lowN n d else lowN n d),.int .i64 (lowD n d)],.int .i64 0])∧Below w.heap.size w w':=by
 have hd:(d==0)=false:=by simp;omega
 obtain⟨g,hg⟩:=nm ((Int.gcd n d:Int):Int);have gp:0<g:=by rw[←hg];exact gcd_posR d0
 have gd:g≤d:=by rw[←hg];exact Int.le_of_dvd d0 (Int.gcd_dvd_right n d)
 have HG:Hid (∀w:World,Calls Tryz.prog 105 #[.agg #[.int .u64 0,.int .u64 n],.agg #[.int .u64 0,.int .u64 d]] w fun e w'=>e=.returned (.agg #[.int .u64 0,.int .u64 g])∧Below w.heap.size w w'):=lh fun w=>by
  have:=rgcd_any n d n0 (by omega) d0 (by omega) w
  rwa [hg]at this
 have HN:=lh (rdiv_any n g n0 (by omega) gp (by omega));have HD:=lh (rdiv_any d g (Int.le_of_lt d0) (by omega) gp (by omega));have p0:0≤lowN n d:=by unfold lowN;rw[hg];exact Int.ediv_nonneg n0 (Int.le_of_lt gp)
 have p1:lowN n d≤n:=by have:=lowN_le n d;omega
 have q0:=lowD_pos (n:=n) d0;have q1:=lowD_le (n:=n) d0;have eN:n/g=lowN n d:=by unfold lowN;rw[hg]
 have eD:d/g=lowD n d:=by unfold lowD;rw[hg]
 rw[eN]at HN;rw[eD]at HD;generalize lowN n d=p at *;generalize lowD n d=q at *;clear hg eN eD gd;have z1:decide (1152921504606846976<p)=false:=dF (by omega);have z2:decide (1152921504606846976<q)=false:=dF (by omega);have z3:IntKind.i64.wrap p=p:=IntWalk.i64_in _ (by omega);have z4:IntKind.i64.wrap q=q:=IntWalk.i64_in _ (by omega);have z5:IntKind.i64.wrap (0-p)=-p:=by rw[IntWalk.i64_in _ (by omega)];omega
 go_enter Tryz.func66,Tryz.ntmps66
 go_upto_region 3 with (fail)
 have hW0:Below w.heap.size w (((w.alloc (.cells #[.int .u64 0,.int .u64 n] 141)).alloc (.cells #[.int .u64 0,.int .u64 d] 141)).alloc (.cells #[.int .i64 0,.int .i64 0] 49)):=below_a _ (below_a _ (below_new _ _));have c3:C2 (((w.alloc (.cells #[.int .u64 0,.int .u64 n] 141)).alloc (.cells #[.int .u64 0,.int .u64 d] 141)).alloc (.cells #[.int .i64 0,.int .i64 0] 49)) w.heap.size (.int .u64 0) (.int .u64 n):=((C2.new w _ _ _).carry (below_new _ _)).carry (below_new _ _);have c5:C2 (((w.alloc (.cells #[.int .u64 0,.int .u64 n] 141)).alloc (.cells #[.int .u64 0,.int .u64 d] 141)).alloc (.cells #[.int .i64 0,.int .i64 0] 49)) (w.heap.size+1) (.int .u64 0) (.int .u64 d):=by have h:=C2.new (w.alloc (.cells #[.int .u64 0,.int .u64 n] 141)) (.int .u64 0) (.int .u64 d) 141;rw[World.size_alloc]at h;exact h.carry (below_new _ _)
 have f6:NewI6 (((w.alloc (.cells #[.int .u64 0,.int .u64 n] 141)).alloc (.cells #[.int .u64 0,.int .u64 d] 141)).alloc (.cells #[.int .i64 0,.int .i64 0] 49)) (w.heap.size+1+1):=by have h:=NewI6.new ((w.alloc (.cells #[.int .u64 0,.int .u64 n] 141)).alloc (.cells #[.int .u64 0,.int .u64 d] 141)) 49;rw[World.size_alloc,World.size_alloc]at h;exact h
 obtain⟨Bd,hBd⟩:=nm (w.heap.size+1);obtain⟨Br,hBr⟩:=nm (w.heap.size+1+1);have hBr0:w.heap.size≤Br:=by omega
 simp only[hBr]at f6⊢;simp only[hBd]at c5⊢;clear hBd hBr;generalize (((w.alloc (.cells #[.int .u64 0,.int .u64 n] 141)).alloc (.cells #[.int .u64 0,.int .u64 d] 141)).alloc (.cells #[.int .i64 0,.int .i64 0] 49))=W0 at *;obtain⟨c30,c31⟩:=c3;obtain⟨c50,c51⟩:=c5
 go_upto_region 4 with (go_at_call 105;(with_reducible refine(HG.out _).mono ?_);rintro e w1 ⟨rfl,hb1⟩)
 have b1:Below W0.heap.size W0 (w1.alloc (.cells #[.int .u64 0,.int .u64 g] 141)):=below_a _ hb1;have c8:=C2.new w1 (.int .u64 0) (.int .u64 g) 141;have c3:=C2.carry (v0:=.int .u64 0) (v1:=.int .u64 n) ⟨c30,c31⟩ b1;have c5:=C2.carry (v0:=.int .u64 0) (v1:=.int .u64 d) ⟨c50,c51⟩ b1;have f6:=f6.carry b1;have hW1:=hW0.trans (b1.mono hW0.size);clear hb1 c30 c31 c50 c51 b1 hW0;generalize w1.alloc (.cells #[.int .u64 0,.int .u64 g] 141)=W1 at *;generalize w1.heap.size=B8 at *;obtain⟨c30,c31⟩:=c3;obtain⟨c80,c81⟩:=c8
 go_upto_region 5 with (go_at_call 106;(with_reducible refine(HN.out _).mono ?_);rintro e w2 ⟨rfl,hb2⟩)
 have b2:Below W1.heap.size W1 ((w2.alloc (.cells #[.int .u64 0,.int .u64 p] 141)).alloc (.cells #[.int .u64 0,.int .u64 (n%g)] 141)):=below_a _ (below_a _ hb2);have c9:C2 ((w2.alloc (.cells #[.int .u64 0,.int .u64 p] 141)).alloc (.cells #[.int .u64 0,.int .u64 (n%g)] 141)) w2.heap.size (.int .u64 0) (.int .u64 p):=by unfold C2;simp
 have c8:=C2.carry (v0:=.int .u64 0) (v1:=.int .u64 g) ⟨c80,c81⟩ b2;have c5:=c5.carry b2;have f6:=f6.carry b2;have hW2:=hW1.trans (b2.mono hW1.size);clear hb2 c30 c31 c80 c81 b2 hW1;obtain⟨Bx,hBx⟩:=nm (w2.heap.size+1);simp only[hBx];clear hBx;generalize ((w2.alloc (.cells #[.int .u64 0,.int .u64 p] 141)).alloc (.cells #[.int .u64 0,.int .u64 (n%g)] 141))=W2 at *;generalize w2.heap.size=B9 at *;obtain⟨c50,c51⟩:=c5;obtain⟨c80,c81⟩:=c8
 go_upto_region 6 with (go_at_call 106;(with_reducible refine(HD.out _).mono ?_);rintro e w3 ⟨rfl,hb3⟩)
 have b3:Below W2.heap.size W2 ((w3.alloc (.cells #[.int .u64 0,.int .u64 q] 141)).alloc (.cells #[.int .u64 0,.int .u64 (d%g)] 141)):=below_a _ (below_a _ hb3);have c11:C2 ((w3.alloc (.cells #[.int .u64 0,.int .u64 q] 141)).alloc (.cells #[.int .u64 0,.int .u64 (d%g)] 141)) w3.heap.size (.int .u64 0) (.int .u64 q):=by unfold C2;simp
 have c9:=c9.carry b3;have f6:=f6.carry b3;have hW3:=hW2.trans (b3.mono hW2.size);clear hb3 c50 c51 c80 c81 b3 hW2;obtain⟨By,hBy⟩:=nm (w3.heap.size+1);simp only[hBy];clear hBy;generalize ((w3.alloc (.cells #[.int .u64 0,.int .u64 q] 141)).alloc (.cells #[.int .u64 0,.int .u64 (d%g)] 141))=W3 at *;generalize w3.heap.size=B11 at *;obtain⟨c90,c91⟩:=c9;obtain⟨c110,c111⟩:=c11;obtain⟨g0,g1,g2,g3,g4⟩:=f6
 cases neg
 ·go_wp2_with fail
  have l0:=(two_cells (v0:=.int .i64 p) (v1:=.int .i64 q) g0 g1).1;have l1:=(two_cells (v0:=.int .i64 p) (v1:=.int .i64 q) g0 g1).2;refine bodyPost_ret (v:=.tuple #[.agg #[.int .i64 p,.int .i64 q],.int .i64 0]) (by simp[results,Tryz.results66,go_sem,l0,l1]) rfl ⟨rfl,?_⟩;exact below_s _ _ (below_s _ _ hW3 hBr0) hBr0
 ·go_wp2_with fail
  have l0:=(two_cells (v0:=.int .i64 (-p)) (v1:=.int .i64 q) g0 g1).1;have l1:=(two_cells (v0:=.int .i64 (-p)) (v1:=.int .i64 q) g0 g1).2;refine bodyPost_ret (v:=.tuple #[.agg #[.int .i64 (-p),.int .i64 q],.int .i64 0]) (by simp[results,Tryz.results66,go_sem,l0,l1]) rfl ⟨rfl,?_⟩;exact below_s _ _ (below_s _ _ hW3 hBr0) hBr0

theorem rmake_any(n d:Int)(n0:-1152921504606846976≤n)(n1:n≤1152921504606846976)(d0:0<d)(d1:d≤1152921504606846976)(w:World):
  Calls Tryz.prog 38 #[.int .i64 n,.int .i64 d] w fun e w'=>e=.returned (.tuple #[.agg #[.int .i64 (lowN n d),.int .i64 (lowD n d)],.int .i64 0])∧Below w.heap.size w w':=by
 have z1:=rsize_any n (by omega) (by omega);have z2:=rsize_any d (by omega) (by omega);rw[show(d.natAbs:Int)=d by omega]at z2;have hb:decide (d<0)=false:=dF (by omega);have hm:=rmade_any (n.natAbs:Int) d (decide (n<0)) (by omega) (by omega) d0 d1
 have e1:(if decide (n<0)then -lowN (n.natAbs:Int) d else lowN (n.natAbs:Int) d)=lowN n d:=by
  by_cases h:n<0
  ·rw[if_pos (decide_eq_true h),show(n.natAbs:Int)=-n by omega,lowN_neg,Int.neg_neg]
  ·rw[if_neg (by simpa using h),show(n.natAbs:Int)=n by omega]
 have e2:lowD (n.natAbs:Int) d=lowD n d:=by
  by_cases h:n<0
  ·rw[show(n.natAbs:Int)=-n by omega,lowD_neg]
  ·rw[show(n.natAbs:Int)=n by omega]
 simp only[e1,e2]at hm;clear e1 e2;have Z1:=lh z1;have Z2:=lh z2;have HM:=lh hm;clear z1 z2 hm;generalize lowN n d=p at *;generalize lowD n d=q at *;generalize hx:decide (n<0)=b at *
 go_enter Tryz.func38,Tryz.ntmps38
 go_wp2_with (first
  | (go_at_call 67;(with_reducible refine(Z1.out _).mono ?_);rintro e w1 ⟨rfl,rfl⟩)
  | (go_at_call 67;(with_reducible refine(Z2.out _).mono ?_);rintro e w1 ⟨rfl,rfl⟩)
  | (go_at_call 66;(with_reducible refine(HM.out _).mono ?_);rintro e w1 ⟨rfl,hb1⟩;obtain⟨g0,g1,g2,g3,g4⟩:=(NewI6.new w 49).carry hb1))
 have l0:=(two_cells (v0:=.int .i64 p) (v1:=.int .i64 q) g0 g1).1;have l1:=(two_cells (v0:=.int .i64 p) (v1:=.int .i64 q) g0 g1).2;refine bodyPost_ret (v:=.tuple #[.agg #[.int .i64 p,.int .i64 q],.int .i64 0]) (by simp[results,Tryz.results38,go_sem,l0,l1]) rfl ⟨rfl,?_⟩;exact below_s _ _ (below_s _ _ ((below_new _ _).trans (hb1.mono (by simp))) (Nat.le_refl _)) (Nat.le_refl _)
theorem time_sums{d:Int}{m:Mv}{t:Int}(hg:givenP d m=0)(ht:IsTop d m.spd m.rise m.fall t):
  0≤t∧t≤8192∧0≤t*t∧t*t≤67108864∧0≤t*t*(m.rise+m.fall)∧t*t*(m.rise+m.fall)≤2199023255552∧0≤2*m.rise*m.fall∧2*m.rise*m.fall≤536870912∧0≤2*m.rise*m.fall*d∧2*m.rise*m.fall*d≤562949953421312∧0≤2*m.rise*m.fall*t∧2*m.rise*m.fall*t≤4398046511104:=by
 obtain⟨hv,hdd⟩:=given_ok hg;obtain⟨V0,V1,R0,R1,F0,F1⟩:=valid_bds hv;obtain⟨d1,d2⟩:=inB_iff.1 hdd;have t0:=ht.1;have t1:=ht.2.1;obtain⟨B1,B2,B3,B4,_,_,_,_,_,B5,B6⟩:=room_bd (d:=d) (R:=m.rise) (F:=m.fall) (w:=t) d1 d2 (by omega) R1 (by omega) F1 (by omega) (by omega);have B7:2*m.rise*m.fall*d≤536870912*1048576:=Int.mul_le_mul B6 d2 d1 (by decide);have B8:=Int.mul_nonneg B5 d1;have B9:2*m.rise*m.fall*t≤536870912*8192:=Int.mul_le_mul B6 (by omega) (by omega) (by decide);have B10:=Int.mul_nonneg B5 t0;refine⟨t0,by omega,B1,B2,B3,B4,B5,B6,B8,by omega,B10,by omega⟩
def kp(e:Int)(r:Int×Int×Int):(Int×Int)×Int:=if r.2.2=0 then((r.1,r.2.1),e)else((0,1),if e=0 then r.2.2 else e)
def kAdd(e:Int)(a b:Int×Int):(Int×Int)×Int:=kp e (addP a.1 a.2 b.1 b.2)
def kSub(e:Int)(a b:Int×Int):(Int×Int)×Int:=kp e (addP a.1 a.2 (-b.1) b.2)
def kMul(e:Int)(a b:Int×Int):(Int×Int)×Int:=kp e (mulP a.1 a.2 b.1 b.2)
def kVal(e:Int)(A B C u:Int×Int):(Int×Int)×Int:=kAdd (kMul (kAdd (kMul e C u).2 B (kMul e C u).1).2 (kAdd (kMul e C u).2 B (kMul e C u).1).1 u).2 A (kMul (kAdd (kMul e C u).2 B (kMul e C u).1).2 (kAdd (kMul e C u).2 B (kMul e C u).1).1 u).1
def kSlope(e:Int)(B C u:Int×Int):(Int×Int)×Int:=kAdd (kMul (kMul e C u).2 (2,1) (kMul e C u).1).2 B (kMul (kMul e C u).2 (2,1) (kMul e C u).1).1
def vF(a:Int×Int):Bool:=validF a.1 a.2
theorem fit_valid{p q:Int}:(fitP p q).2.2=0∨(fitP p q).2.2=5:=by
 unfold fitP;split
 ·exact .inr rfl
 ·exact .inl rfl
theorem fit_ok{p q:Int}(hq:0<q)(c:Int.gcd p q=1)(h:(fitP p q).2.2=0):fitP p q=(p,q,0)∧validF p q=true:=by
 unfold fitP at *
 split at h
 ·cases h
 next hn=>
  rw[if_neg hn];exact⟨rfl,(validF_iff _ _).2 ⟨by omega,by omega,by omega,by omega,c⟩⟩
theorem vF_zero:vF (0,1)=true:=(validF_iff _ _).2 ⟨by decide,by decide,by decide,by decide,by decide⟩
theorem kp_valid{e p q:Int}(hq:0<q)(c:Int.gcd p q=1):vF (kp e (fitP p q)).1=true:=by
 unfold kp
 by_cases h:(fitP p q).2.2=0
 ·rw[if_pos h,(fit_ok hq c h).1]
  exact(fit_ok hq c h).2
 ·rw[if_neg h];exact vF_zero
theorem den_pos{a:Int×Int}(h:vF a=true):0<a.2:=by have:=(validF_iff _ _).1 h;omega
theorem kAdd_valid{e:Int}{a b:Int×Int}(ha:vF a=true)(hb:vF b=true):vF (kAdd e a b).1=true:=kp_valid (lowD_pos (Int.mul_pos (den_pos ha) (den_pos hb))) (low_cop (Int.mul_pos (den_pos ha) (den_pos hb)))
theorem kSub_valid{e:Int}{a b:Int×Int}(ha:vF a=true)(hb:vF b=true):vF (kSub e a b).1=true:=kp_valid (lowD_pos (Int.mul_pos (den_pos ha) (den_pos hb))) (low_cop (Int.mul_pos (den_pos ha) (den_pos hb)))
theorem kMul_valid{e:Int}{a b:Int×Int}(ha:vF a=true)(hb:vF b=true):vF (kMul e a b).1=true:=kp_valid (lowD_pos (Int.mul_pos (den_pos ha) (den_pos hb))) (low_cop (Int.mul_pos (den_pos ha) (den_pos hb)))
theorem vF_two:vF (2,1)=true:=(validF_iff _ _).2 ⟨by decide,by decide,by decide,by decide,by decide⟩
theorem kVal_valid{e:Int}{A B C u:Int×Int}(hA:vF A=true)(hB:vF B=true)(hC:vF C=true)(hu:vF u=true):vF (kVal e A B C u).1=true:=kAdd_valid hA (kMul_valid (kAdd_valid hB (kMul_valid hC hu)) hu)
theorem kSlope_valid{e:Int}{B C u:Int×Int}(hB:vF B=true)(hC:vF C=true)(hu:vF u=true):vF (kSlope e B C u).1=true:=kAdd_valid hB (kMul_valid vF_two (kMul_valid hC hu))
end
section
open Go.RowKit
noncomputable def topV(d:Int)(m:Mv):Int:=@dite _ (∃t,IsTop d m.spd m.rise m.fall t) (Classical.propDecidable _) (fun h=>h.choose) (fun _=>0)
theorem top_is{d:Int}{m:Mv}(hg:givenP d m=0):IsTop d m.spd m.rise m.fall (topV d m):=by
 have ex:∃t,IsTop d m.spd m.rise m.fall t:=by
  obtain⟨hv,hd⟩:=given_ok hg;have a:=valid_bds hv;have b:=inB_iff.1 hd;exact top_exI (by omega) (by omega) (by omega) (by omega)
 unfold topV;rw[dif_pos ex];exact ex.choose_spec
noncomputable def tmF(d:Int)(m:Mv):Int×Int:=timeP d m (topV d m)
structure TmOK(x:Int×Int):Prop where
 ok:vF x=true
 pos:0≤x.1
 most:1000*x.1≤1152921504606846976
theorem tm_zero:TmOK (0,1):=⟨vF_zero,by decide,by decide⟩
theorem tm_ok{d:Int}{m:Mv}(hg:givenP d m=0):TmOK (tmF d m):=by
 have ht:=top_is hg;unfold tmF
 by_cases hd:d=0
 ·subst hd
  rw[time_zero hg];exact tm_zero
 ·have tb:=time_bd hg ht
  obtain⟨s1,s2,s3,s4,s5,s6,s7,s8,s9,s10,s11,s12⟩:=time_sums hg ht;rw[time_pos hg hd]at tb⊢;obtain⟨hv,hdd⟩:=given_ok hg;obtain⟨V0,V1,R0,R1,F0,F1⟩:=valid_bds hv;obtain⟨d1,d2⟩:=inB_iff.1 hdd;have tp:=top_pos (show 1≤d by omega) R0 F0 V0 ht;have q0:0<tD m.rise m.fall (topV d m):=by unfold tD;exact Int.mul_pos (posD R0 F0) (by omega)
  have n1:tN d m.rise m.fall (topV d m)≤565148976676864:=by unfold tN;omega
  have n0:0≤tN d m.rise m.fall (topV d m):=by unfold tN;omega
  have a:=lowN_le (tN d m.rise m.fall (topV d m)) (tD m.rise m.fall (topV d m));refine⟨(validF_iff _ _).2 ⟨tb.2.2.1,tb.2.2.2,by have:=tb.1;omega,tb.2.1,low_cop q0⟩,tb.1,?_⟩;show 1000*lowN (tN d m.rise m.fall (topV d m)) (tD m.rise m.fall (topV d m))≤_;omega
def moveD(h:HouseR)(t:List Int)(m:Mv):Int:=if m.to-ig t (findS h.sets m.name).toNat<0 then 0-(m.to-ig t (findS h.sets m.name).toNat)else m.to-ig t (findS h.sets m.name).toNat
theorem move_within{h:HouseR}{t:List Int}{M:List Mv}{i:Nat}(hb:houseB h=true)(ht:TrimOK h t)(hm:MoveOK h M i):0≤(mg M i).to∧(mg M i).to≤1048576∧0≤ig t (findS h.sets (mg M i).name).toNat∧ig t (findS h.sets (mg M i).name).toNat≤1048576:=by
 obtain⟨_,h0,h1,h2,_⟩:=hm;obtain⟨hk,_⟩:=find_name h0;have so:=(house_set hb hk).1;have t1:=ht.2 (findS h.sets (mg M i).name).toNat (by have:=ht.1;omega);have lo:=so.low;unfold setM at h1 h2;omega
theorem move_given{h:HouseR}{t:List Int}{M:List Mv}{i:Nat}(hb:houseB h=true)(ht:TrimOK h t)(hm:MoveOK h M i):givenP (moveD h t (mg M i)) (mg M i)=0:=by
 have w:=move_within hb ht hm;unfold givenP;rw[if_pos hm.1,if_pos (inB_iff.2 ?_)];unfold moveD
 split<;>omega
def moreF(a b:Int×Int):Int×Int:=if 0<cmpP (a.1*b.2) (b.1*a.2)then a else b
noncomputable def lenTo(h:HouseR)(t:List Int)(M:List Mv):Int×Int:=M.foldl (fun b m=>moreF (tmF (moveD h t m) m) b) (0,1)
theorem lenTo_snoc(h:HouseR)(t:List Int)(M:List Mv){k:Nat}(hk:k<M.length):lenTo h t (M.take (k+1))=moreF (tmF (moveD h t (mg M k)) (mg M k)) (lenTo h t (M.take k)):=by
 unfold lenTo;rw[List.take_succ_eq_append_getElem hk,List.foldl_append,mg_eq M k hk]
 rfl
theorem len_ok{h:HouseR}{t:List Int}{M:List Mv}(hb:houseB h=true)(ht:TrimOK h t)(hM:∀i,i<M.length→MoveOK h M i):∀k,k≤M.length→TmOK (lenTo h t (M.take k))
 | 0,_=>by rw[List.take_zero];exact tm_zero
 | k+1,hk=>by
  rw[lenTo_snoc h t M (by omega)];unfold moreF
  split
  ·exact tm_ok (move_given hb ht (hM k (by omega)))
  ·exact len_ok hb ht hM k (by omega)
def ceilI(n d:Int):Int:=-((-n)/d)
def msF(x:Int×Int):Int:=ceilI (lowN (1000*x.1) x.2) (lowD (1000*x.1) x.2)
theorem ms_low{x:Int×Int}(ok:TmOK x):0≤lowN (1000*x.1) x.2∧lowN (1000*x.1) x.2≤1152921504606846976∧0<lowD (1000*x.1) x.2∧lowD (1000*x.1) x.2≤1152921504606846976∧Int.gcd (lowN (1000*x.1) x.2) (lowD (1000*x.1) x.2)=1:=by
 obtain⟨a,b,c⟩:=ok;have d:=(validF_iff _ _).1 a;have d0:0<x.2:=by omega
 have e:=lowN_le (1000*x.1) x.2;have f:=lowD_le (n:=1000*x.1) d0;have g:=lowD_pos (n:=1000*x.1) d0;have s:=low_sign (n:=1000*x.1) d0;exact⟨by omega,by omega,g,by omega,low_cop d0⟩
theorem ms_mul{x:Int×Int}(ok:TmOK x):mulP 1000 1 x.1 x.2=(lowN (1000*x.1) x.2,lowD (1000*x.1) x.2,0):=by
 obtain⟨a,b,c,d,_⟩:=ms_low ok;unfold mulP;rw[Int.one_mul];unfold fitP;rw[if_neg (by omega)]
theorem ms_valid{x:Int×Int}(ok:TmOK x):validF (lowN (1000*x.1) x.2) (lowD (1000*x.1) x.2)=true:=by
 obtain⟨a,b,c,d,e⟩:=ms_low ok;exact(validF_iff _ _).2 ⟨by omega,d,by omega,b,e⟩
theorem ceil_bd{n d:Int}(hn:0≤n)(hd:0<d):0≤ceilI n d∧ceilI n d≤n:=by
 unfold ceilI;have a:=Int.ediv_mul_le (-n) (show d≠0 by omega);have b:=Int.lt_ediv_add_one_mul_self (-n) hd;obtain⟨q,hq⟩:=nm (-n/d);rw[hq]at a b⊢;refine⟨?_,?_⟩
 ·rcases Int.lt_or_le 0 q with l | l
  ·have:0<q*d:=Int.mul_pos l hd
   omega
  ·omega
 ·rcases Int.lt_or_le q (-n)with l | l
  ·have:(q+1)*d≤(q+1)*1:=Int.mul_le_mul_of_nonpos_left (by omega) (by omega)
   omega
  ·omega
theorem ms_bd{x:Int×Int}(ok:TmOK x):0≤msF x∧msF x≤1152921504606846976:=by
 obtain⟨a,b,c,_⟩:=ms_low ok;have:=ceil_bd a c;unfold msF;omega
noncomputable def lensL(h:HouseR)(C:List CueR)(n:Nat):List Int:=(List.range n).map fun k=>msF (lenTo h (trimL h C k) (cg C k).moves)
theorem lensL_snoc(h:HouseR)(C:List CueR)(n:Nat):lensL h C (n+1)=lensL h C n++[msF (lenTo h (trimL h C n) (cg C n).moves)]:=by
 unfold lensL;rw[List.range_succ,List.map_append]
 rfl
theorem lensL_len(h:HouseR)(C:List CueR)(n:Nat):(lensL h C n).length=n:=by unfold lensL;rw[List.length_map,List.length_range]
structure Sm(b:Nat)(e:Int)(w w':World):Prop where
 os:w'.os=w.os
 tape:w'.tape=w.tape
 output:w'.output=w.output
 size:w.heap.size≤w'.heap.size
 block:∀k,k<w.heap.size→k≠b→w'.heap[k]? =w.heap[k]?
 cell:w'.cell? ⟨b,0,none⟩=some (.int .i64 e)
 free:w'.frozen? ⟨b,0,none⟩=false
theorem Sm.of{b:Nat}{e:Int}{w w':World}(h:Below w.heap.size w w')(hc:w.cell? ⟨b,0,none⟩=some (.int .i64 e))(hf:w.frozen? ⟨b,0,none⟩=false):Sm b e w w':=by
 have hb:b<w.heap.size:=wl hc;exact⟨h.os,h.tape,h.output,h.size,fun k hk _=>h.block k hk,(h.cell (p:=⟨b,0,none⟩) hb).trans hc,(h.frozen (p:=⟨b,0,none⟩) hb).trans hf⟩
theorem Sm.refl{b:Nat}{e:Int}{w:World}(hc:w.cell? ⟨b,0,none⟩=some (.int .i64 e))(hf:w.frozen? ⟨b,0,none⟩=false):Sm b e w w:=Sm.of br hc hf
theorem Sm.trans{b:Nat}{e e':Int}{w w1 w2:World}(h:Sm b e w w1)(k:Sm b e' w1 w2):Sm b e' w w2:=
 ⟨k.os.trans h.os,k.tape.trans h.tape,k.output.trans h.output,Nat.le_trans h.size k.size,fun i hi hne=>(k.block i (Nat.lt_of_lt_of_le hi h.size) hne).trans (h.block i hi hne),k.cell,k.free⟩
theorem Sm.lt{b:Nat}{e:Int}{w w':World}(h:Sm b e w w'):b<w'.heap.size:=wl h.cell
theorem Sm.then{b:Nat}{e:Int}{w w1 w2:World}(h:Sm b e w w1)(k:Below w1.heap.size w1 w2):Sm b e w w2:=h.trans (Sm.of k h.cell h.free)
theorem Sm.below{b n:Nat}{e:Int}{w w':World}(h:Sm b e w w')(hn:n≤b)(hw:n≤w.heap.size):Below n w w':=
 ⟨h.os,h.tape,h.output,h.size,fun k hk=>h.block k (by omega) (by omega)⟩
theorem Sm.other{b:Nat}{e:Int}{w w':World}(h:Sm b e w w'){p:Addr}(hp:p.block<w.heap.size)(hne:p.block≠b):w'.cell? p=w.cell? p:=World.cell?_of_block (w:=w) (h.block p.block hp hne)
theorem Sm.otherF{b:Nat}{e:Int}{w w':World}(h:Sm b e w w'){p:Addr}(hp:p.block<w.heap.size)(hne:p.block≠b):w'.frozen? p=w.frozen? p:=World.frozen?_of_block (w:=w) (h.block p.block hp hne)
theorem Sm.set{b:Nat}{e:Int}{w:World}(e':Int)(hc:w.cell? ⟨b,0,none⟩=some (.int .i64 e))(hf:w.frozen? ⟨b,0,none⟩=false):Sm b e' w (w.setCell ⟨b,0,none⟩ (.int .i64 e')):=
 ⟨rfl,rfl,rfl,by simp[World.setCell],fun k _ hne=>Below.heap_setCell _ _ _ _ hne,World.cell?_setCell_same _ _ _ hc,by simpa using hf⟩
theorem Sm.from{b:Nat}{e:Int}{w w1 w2:World}(h:Below w.heap.size w w1)(_:b<w.heap.size)(k:Sm b e w1 w2):Sm b e w w2:=
 ⟨k.os.trans h.os,k.tape.trans h.tape,k.output.trans h.output,Nat.le_trans h.size k.size,fun i hi hne=>(k.block i (Nat.lt_of_lt_of_le hi h.size) hne).trans (h.block i hi),k.cell,k.free⟩
theorem Sm.drew{b:Nat}{e:Int}{w w':World}(h:Sm b e w w'):Sm b e w w'.drew:=⟨h.os,h.tape,h.output,h.size,h.block,h.cell,h.free⟩
theorem Sm.setCell{b:Nat}{e:Int}{w w':World}(h:Sm b e w w'){p:Addr}(hp:w.heap.size≤p.block)(hb:b<w.heap.size)(u:Value):Sm b e w (w'.setCell p u):=
 ⟨h.os,h.tape,h.output,by have:=h.size;simp[World.setCell];omega,fun k hk hne=>(Below.heap_setCell _ _ _ _ (by omega)).trans (h.block k hk hne),(World.cell?_setCell_other _ _ _ _ (fun x=>by have:=congrArg Addr.block x;simp at this;omega)).trans h.cell,by simpa using h.free⟩
theorem Sm.alloc{b:Nat}{e:Int}{w w':World}(h:Sm b e w w')(o:Obj):Sm b e w (w'.alloc o):=h.then ((br).alloc (Nat.le_refl _) o)
end
end Go.Proofs.YtebofaenlhhkaaaGreat
