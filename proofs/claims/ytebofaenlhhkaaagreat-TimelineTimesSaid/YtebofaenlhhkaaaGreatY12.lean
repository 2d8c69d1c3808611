import Derived.Laws.Bits64b
import Derived.Lib.ItoaNum
import Derived.Deep.DeepCutAuto
import Derived.Deep.CutBlock
import Derived.Test.YtebofaenlhhkaaaGreatY5
namespace Go.Proofs.YtebofaenlhhkaaaGreat
set_option maxRecDepth 100000
set_option maxHeartbeats 80000000
section
section
variable {u y1 y0 d:Int}
theorem Vn(k y1 y0:Int):k*(y1*4294967296+y0)=k*y1*4294967296+k*y0:=by rw[Int.mul_add,Int.mul_assoc]
theorem AGr(hy:0<y1*4294967296+y0)(hu:u<y1*4294967296+y0)(d1:d<4294967296):(u*4294967296+d)/(y1*4294967296+y0)<4294967296:=by
 refine Int.ediv_lt_of_lt_mul hy ?_;generalize y1*4294967296+y0=y at *;omega
theorem Qw(hy:0<y1*4294967296+y0)(u0:0≤u)(d0:0≤d):0≤(u*4294967296+d)/(y1*4294967296+y0):=Int.ediv_nonneg (by omega) (by omega)
theorem ALc(h1:2147483648≤y1)(h2:0≤y0)(h3:y0<4294967296)(u0:0≤u)(hu:u<y1*4294967296+y0)(d0:0≤d)(d1:d<4294967296):
  (u*4294967296+d)/(y1*4294967296+y0)≤u/y1∧u/y1≤4294967297∧0≤u-u/y1*y1∧u-u/y1*y1<y1:=by
 have hy:0<y1*4294967296+y0:=by omega
 refine⟨?_,?_,?_,?_⟩
 ·rw[Int.le_ediv_iff_mul_le (by omega)]
  have a:=Int.ediv_mul_le (u*4294967296+d) (show y1*4294967296+y0≠0 by omega);have b:=Qw (y1:=y1) (y0:=y0) hy u0 d0;rw[Vn]at a;generalize (u*4294967296+d)/(y1*4294967296+y0)=q at *;have c:=Int.mul_nonneg b h2;generalize q*y1=P at *;generalize q*y0=R at *;omega
 ·have:u/y1<4294967298:=Int.ediv_lt_of_lt_mul (by omega) (by omega)
  omega
 ·have:=Int.ediv_mul_le u (show y1≠0 by omega)
  omega
 ·have:=Int.lt_ediv_add_one_mul_self u (show 0<y1 by omega)
  rw[Int.add_mul,Int.one_mul]at this;omega
structure Dig(u y1 y0 d k r:Int):Prop where
 rest:r=u-k*y1
 low:(u*4294967296+d)/(y1*4294967296+y0)≤k
 high:k≤4294967297
 pos:0≤r
 less:r<4294967296
theorem Dig.start(h1:2147483648≤y1)(h1':y1<4294967296)(h2:0≤y0)(h3:y0<4294967296)(u0:0≤u)(hu:u<y1*4294967296+y0)(d0:0≤d)(d1:d<4294967296):Dig u y1 y0 d (u/y1) (u-u/y1*y1):=by
 obtain⟨a,b,c,e⟩:=ALc h1 h2 h3 u0 hu d0 d1;exact⟨rfl,a,b,c,by omega⟩
theorem Dig.pred{k r:Int}(h:Dig u y1 y0 d k r)(hy:0<y1*4294967296+y0)(hu:u<y1*4294967296+y0)(d1:d<4294967296)(hc:4294967296≤k∨4294967296*r+d<k*y0):(u*4294967296+d)/(y1*4294967296+y0)≤k-1:=by
 rcases hc with hc | hc
 ·have:=AGr hy hu d1
  omega
 ·have:(u*4294967296+d)/(y1*4294967296+y0)<k:=by
   refine Int.ediv_lt_of_lt_mul hy ?_;rw[Vn];have:=h.rest;generalize k*y1=P at *;generalize k*y0=R at *;omega
  omega
theorem Dig.next{k r:Int}(h:Dig u y1 y0 d k r)(h1:0<y1)(hy:0<y1*4294967296+y0)(hu:u<y1*4294967296+y0)(d1:d<4294967296)(hc:4294967296≤k∨4294967296*r+d<k*y0)(hr:r+y1<4294967296):Dig u y1 y0 d (k-1) (r+y1):=by
 refine⟨?_,h.pred hy hu d1 hc,?_,?_,hr⟩
 ·have:=h.rest
  rw[Int.sub_mul,Int.one_mul];omega
 ·have:=h.high;omega
 ·have:=h.pos;omega
theorem Dig.done{k r:Int}(h:Dig u y1 y0 d k r)(hy:0<y1*4294967296+y0)(hc:k*y0≤4294967296*r+d):k=(u*4294967296+d)/(y1*4294967296+y0):=by
 refine Int.le_antisymm ?_ h.low;rw[Int.le_ediv_iff_mul_le hy,Vn];have:=h.rest;generalize k*y1=P at *;generalize k*y0=R at *;omega
theorem Dig.out{k r:Int}(h:Dig u y1 y0 d k r)(hy:0<y1*4294967296+y0)(hu:u<y1*4294967296+y0)(h2:0≤y0)(h3:y0<4294967296)(d0:0≤d)(d1:d<4294967296)(hc:4294967296≤k∨4294967296*r+d<k*y0)(hr:4294967296≤r+y1):k-1=(u*4294967296+d)/(y1*4294967296+y0):=by
 have hp:=h.pred hy hu d1 hc;have hh:=h.high;have hrest:r+y1=u-(k-1)*y1:=by rw[Int.sub_mul,Int.one_mul,h.rest];omega
 refine Int.le_antisymm ?_ hp;rw[Int.le_ediv_iff_mul_le hy]
 have hk:k-1≤4294967295:=by
  rcases(show k-1≤4294967295∨k-1=4294967296 by omega)with e | e
  ·exact e
  ·rw[e]at hrest;omega
 have hm:(k-1)*y0≤4294967295*4294967295:=Int.mul_le_mul hk (by omega) h2 (by omega);rw[Vn];generalize (k-1)*y1=P at *;generalize (k-1)*y0=R at *;omega
theorem Dig.small{k r:Int}(h:Dig u y1 y0 d k r)(hk:0≤k)(h2:0≤y0)(h3:y0<4294967296)(d0:0≤d)(d1:d<4294967296):0≤k*y0∧k*y0<18446744073709551616∧0≤4294967296*r+d∧4294967296*r+d<18446744073709551616:=by
 have h4:=h.high;have h5:=h.pos;have h6:=h.less;have a:=Int.mul_nonneg hk h2;have b:k*y0≤4294967297*4294967295:=Int.mul_le_mul h4 (by omega) h2 (by omega);generalize k*y0=R at *;omega
end
theorem AEz{N v s y u32 u1 u0 q1 u21 q0 r:Int}(hs:0<s)(hv:0<v)(hy:y=v*s)(hN:N*s=(u32*4294967296+u1)*4294967296+u0)
  (h1:q1=(u32*4294967296+u1)/y) (h2:u21=(u32*4294967296+u1)%y) (h3:q0=(u21*4294967296+u0)/y) (h4:r=(u21*4294967296+u0)%y):
  q1*4294967296+q0=N/v∧r/s=N%v:=by
 have hy0:0<y:=by rw[hy];exact Int.mul_pos hv hs
 have e1:=Int.mul_ediv_add_emod (u32*4294967296+u1) y;have e2:=Int.mul_ediv_add_emod (u21*4294967296+u0) y;rw[←h1,←h2]at e1;rw[←h3,←h4]at e2;have b1:=Int.emod_nonneg (u21*4294967296+u0) (show y≠0 by omega);have b2:=Int.emod_lt_of_pos (u21*4294967296+u0) hy0;rw[←h4]at b1 b2
 have eM:N*s=r+y*(q1*4294967296+q0):=by
  rw[hN,Int.mul_add,←Int.mul_assoc];generalize y*q1=A at *;generalize y*q0=C at *;omega
 have d1:(N*s)/y=q1*4294967296+q0:=by
  rw[eM,Int.add_mul_ediv_left _ _ (by omega),Int.ediv_eq_zero_of_lt b1 b2,Int.zero_add]
 have d2:(N*s)%y=r:=by
  rw[eM,Int.add_mul_emod_self_left,Int.emod_eq_of_lt b1 b2]
 rw[hy]at d1 d2;rw[Int.mul_ediv_mul_of_pos_left _ _ hs]at d1;rw[Int.mul_comm N s,Int.mul_comm v s,Int.mul_emod_mul_of_pos _ _ hs]at d2;refine⟨d1.symm,?_⟩;rw[←d2,Int.mul_ediv_cancel_left _ (by omega)]
end
section
open Go.RowKit
theorem AKc{s:Nat}(hs:s≤64):(2:Int)^s*2^(64-s)=18446744073709551616:=by
 rw[←Int.pow_add,show s+(64-s)=64 by omega]
 rfl
section
variable {hi lo v P Q:Int}
theorem ARz(hP:0<P)(h0:0≤hi)(h1:hi<v):0≤hi*P∧hi*P+P≤v*P:=by
 refine⟨Int.mul_nonneg h0 (by omega),?_⟩;have:(hi+1)*P≤v*P:=Int.mul_le_mul_of_nonneg_right (by omega) (by omega);rw[Int.add_mul,Int.one_mul]at this;exact this
theorem AJc(hP:0<P)(hQ:0<Q)(hPQ:P*Q=18446744073709551616)(l0:0≤lo)(l1:lo<18446744073709551616):0≤lo/Q∧lo/Q<P∧lo*P=lo/Q*18446744073709551616+lo*P%18446744073709551616:=by
 have a:0≤lo/Q:=Int.ediv_nonneg l0 (by omega);have b:lo/Q<P:=Int.ediv_lt_of_lt_mul hQ (by rw[hPQ];exact l1);refine⟨a,b,?_⟩
 have e:lo*P=lo/Q*(P*Q)+lo%Q*P:=by
  have e1:=Int.mul_ediv_add_emod lo Q
  calc lo*P=(Q*(lo/Q)+lo%Q)*P:=by rw[e1]
   _=lo/Q*(P*Q)+lo%Q*P:=by
    rw[Int.add_mul]
    congr 1
    ac_rfl
 have c:0≤lo%Q*P:=Int.mul_nonneg (Int.emod_nonneg _ (by omega)) (by omega);have d:lo%Q*P<Q*P:=Int.mul_lt_mul_of_pos_right (Int.emod_lt_of_pos _ hQ) hP;rw[Int.mul_comm Q P,hPQ]at d;rw[hPQ]at e;omega
theorem ANb(hP:0<P)(hQ:0<Q)(hPQ:P*Q=18446744073709551616)(l0:0≤lo)(l1:lo<18446744073709551616):
  (hi*18446744073709551616+lo)*P=((hi*P+lo/Q)*4294967296+lo*P%18446744073709551616/4294967296)*4294967296+lo*P%18446744073709551616%4294967296:=by
 have h:=(AJc hP hQ hPQ l0 l1).2.2;rw[Int.add_mul,h,show hi*18446744073709551616*P=hi*P*18446744073709551616 by ac_rfl];generalize hi*P=A;generalize lo/Q=C;generalize lo*P=D;omega
end
theorem ASk(a r:Int)(s:Nat)(a0:0≤a)(r0:0≤r)(r1:r<2^s)(h:a*2^s+r<18446744073709551616):bits .or .u64 (a*2^s) r=a*2^s+r:=by
 obtain⟨a,rfl⟩:=Int.eq_ofNat_of_zero_le a0;obtain⟨r,rfl⟩:=Int.eq_ofNat_of_zero_le r0;have e:((a:Int)*2^s)=((a*2^s:Nat):Int):=by rw[Int.natCast_mul,Int.natCast_pow];rfl
 have hr:r<2^s:=by
  have e2:((2:Int)^s)=((2^s:Nat):Int):=by rw[Int.natCast_pow];rfl
  rw[e2]at r1;omega
 rw[e]at h⊢;rw[bits_or_u64_nat _ _ (by omega) (by omega),Nat.mul_comm,←Nat.two_pow_add_eq_or_of_lt hr];omega
theorem ADk(x:Int)(h0:0≤x)(h1:x<18446744073709551616):bits .and .u64 x 4294967295=x%4294967296:=by
 obtain⟨n,rfl⟩:=Int.eq_ofNat_of_zero_le h0;have h:=bits_and_u64_nat n 4294967295 (by omega) (by omega);have e:n&&& 4294967295=n%4294967296:=Nat.and_two_pow_sub_one_eq_mod n 32;rw[e]at h;exact h.trans (by omega)
end
section
open Go.RowKit Go.Shelf
theorem ANw(x y c:Int)(hx:0≤x)(hx':x<18446744073709551616)(hy:0≤y)(hy':y<18446744073709551616)(hc:0≤c∧c≤1)(w:World):(callFunc 186 #[.int .u64 x,.int .u64 y,.int .u64 c]).run Tryz.prog w=
  .ok (.value (.tuple #[.int .u64 ((x+y+c)%18446744073709551616),.int .u64 ((x+y+c)/18446744073709551616)])) w:=by
 obtain⟨x,rfl⟩:=Int.eq_ofNat_of_zero_le hx;obtain⟨y,rfl⟩:=Int.eq_ofNat_of_zero_le hy;obtain⟨c,rfl⟩:=Int.eq_ofNat_of_zero_le hc.1;rw[run_callFunc_extern Tryz.func186 (by kernel_rfl) (by kernel_rfl) (by kernel_rfl) (e:=add64Entry) (by kernel_rfl),run_add64 x y c (by omega) (by omega) (by omega) (by omega)]
 rfl
theorem AOm(x y b:Int)(hx:0≤x)(hx':x<18446744073709551616)(hy:0≤y)(hy':y<18446744073709551616)(hb:0≤b∧b≤1)(w:World):(callFunc 187 #[.int .u64 x,.int .u64 y,.int .u64 b]).run Tryz.prog w=
  .ok (.value (.tuple #[.int .u64 ((x-y-b)%18446744073709551616),.int .u64 (if x<y+b then 1 else 0)])) w:=by
 obtain⟨x,rfl⟩:=Int.eq_ofNat_of_zero_le hx;obtain⟨y,rfl⟩:=Int.eq_ofNat_of_zero_le hy;obtain⟨b,rfl⟩:=Int.eq_ofNat_of_zero_le hb.1;rw[run_callFunc_extern Tryz.func187 (by kernel_rfl) (by kernel_rfl) (by kernel_rfl) (e:=sub64Entry) (by kernel_rfl),run_sub64 x y b (by omega) w];have e:(((x+18446744073709551616-y-b)%18446744073709551616:Nat):Int)=((x:Int)-y-b)%18446744073709551616:=by omega
 rw[e]
 by_cases q:x<y+b
 ·rw[if_pos q,if_pos (by omega)];rfl
 ·rw[if_neg q,if_neg (by omega)];rfl
def Cr(a:Int):Int:=a/18446744073709551616
def Cy(a:Int):Int:=a%18446744073709551616
theorem Uv(a:Int):Cr a*18446744073709551616+Cy a=a:=by unfold Cr Cy;omega
theorem Wo(a:Int):0≤Cy a∧Cy a<18446744073709551616:=by unfold Cy;omega
theorem ADy{a:Int}(h0:0≤a)(h1:a<340282366920938463463374607431768211456):0≤Cr a∧Cr a<18446744073709551616:=by unfold Cr;omega
theorem AHq{a b ah al bh bl:Int}(e1:ah*18446744073709551616+al=a)(e2:bh*18446744073709551616+bl=b)(h1:0≤al∧al<18446744073709551616)(h2:0≤bl∧bl<18446744073709551616)(h3:0≤ah)(h4:0≤bh)(h:a+b<340282366920938463463374607431768211456):
  (al+bl+0)%18446744073709551616=Cy (a+b)∧(ah+bh+(al+bl+0)/18446744073709551616)%18446744073709551616=Cr (a+b)∧0≤(al+bl+0)/18446744073709551616∧(al+bl+0)/18446744073709551616≤1:=by
 unfold Cr Cy;omega
theorem ACe{a b ah al bh bl:Int}(e1:ah*18446744073709551616+al=a)(e2:bh*18446744073709551616+bl=b)(h1:0≤al∧al<18446744073709551616)(h2:0≤bl∧bl<18446744073709551616)(h3:0≤bh)(h4:ah<18446744073709551616)(h:b≤a):
  (al-bl-0)%18446744073709551616=Cy (a-b)∧(ah-bh-(if al<bl+0 then 1 else 0))%18446744073709551616=Cr (a-b):=by
 unfold Cr Cy
 split<;>omega
theorem Yx(a b:Int)(ha:0≤a)(hb:0≤b)(h:a+b<340282366920938463463374607431768211456)(w:World):
  Calls Tryz.prog 164 #[.agg #[.int .u64 (Cr a),.int .u64 (Cy a)],.agg #[.int .u64 (Cr b),.int .u64 (Cy b)]] w fun e w'=>e=.returned (.agg #[.int .u64 (Cr (a+b)),.int .u64 (Cy (a+b))])∧Below w.heap.size w w':=by
 have e1:=Uv a;have e2:=Uv b;have a1:=Wo a;have b1:=Wo b;have a2:=ADy ha (by omega);have b2:=ADy hb (by omega);obtain⟨p1,p2,p3,p4⟩:=AHq e1 e2 a1 b1 a2.1 b2.1 h;generalize Cr a=ah at *;generalize Cy a=al at *;generalize Cr b=bh at *;generalize Cy b=bl at *;generalize Cr (a+b)=sh at *;generalize Cy (a+b)=sl at *;obtain⟨c,hc⟩:=nm ((al+bl+0)/18446744073709551616);rw[hc]at p2 p3 p4;have z1:=fun w=>ANw al bl 0 a1.1 a1.2 b1.1 b1.2 (by omega) w;have z2:=fun w=>ANw ah bh c a2.1 a2.2 b2.1 b2.2 (by omega) w;rw[p1,hc]at z1;rw[p2]at z2;clear p1 p2 p3 p4 hc e1 e2
 go_enter Tryz.func164,Tryz.ntmps164
 go_wp2_with (first | simp only[z1] | simp only[z2])
 refine bodyPost_ret (v:=.agg #[.int .u64 sh,.int .u64 sl]) (by simp[results,Tryz.results164,go_sem]) rfl ⟨rfl,?_⟩;exact((Aa _ _).alloc (by simp) _).alloc (by simp;omega) _
theorem Ns(a b:Int)(ha:a<340282366920938463463374607431768211456)(hb:0≤b)(h:b≤a)(w:World):
  Calls Tryz.prog 165 #[.agg #[.int .u64 (Cr a),.int .u64 (Cy a)],.agg #[.int .u64 (Cr b),.int .u64 (Cy b)]] w fun e w'=>e=.returned (.agg #[.int .u64 (Cr (a-b)),.int .u64 (Cy (a-b))])∧Below w.heap.size w w':=by
 have e1:=Uv a;have e2:=Uv b;have a1:=Wo a;have b1:=Wo b;have a2:=ADy (show 0≤a by omega) ha;have b2:=ADy hb (by omega);obtain⟨p1,p2⟩:=ACe e1 e2 a1 b1 b2.1 a2.2 h;generalize Cr a=ah at *;generalize Cy a=al at *;generalize Cr b=bh at *;generalize Cy b=bl at *;generalize Cr (a-b)=sh at *;generalize Cy (a-b)=sl at *;obtain⟨c,hc⟩:=nm ((if al<bl+0 then 1 else 0):Int);have hc2:0≤c∧c≤1:=by rw[←hc];split<;>omega
 rw[hc]at p2;have z1:=fun w=>AOm al bl 0 a1.1 a1.2 b1.1 b1.2 (by omega) w;have z2:=fun w=>AOm ah bh c a2.1 a2.2 b2.1 b2.2 hc2 w;rw[p1,hc]at z1;obtain⟨c2,hcc⟩:=nm ((if ah<bh+c then 1 else 0):Int);rw[p2,hcc]at z2;clear p1 p2 hc hcc e1 e2
 go_enter Tryz.func165,Tryz.ntmps165
 go_wp2_with (first | simp only[z1] | simp only[z2])
 refine bodyPost_ret (v:=.agg #[.int .u64 sh,.int .u64 sl]) (by simp[results,Tryz.results165,go_sem]) rfl ⟨rfl,?_⟩;exact((Aa _ _).alloc (by simp) _).alloc (by simp;omega) _
theorem AHe{a b ah al bh bl:Int}(e1:ah*18446744073709551616+al=a)(e2:bh*18446744073709551616+bl=b)(h1:0≤al∧al<18446744073709551616)(h2:0≤bl∧bl<18446744073709551616):
  decide (a<b)=(decide (ah<bh)||((ah==bh)&&decide (al<bl))):=by
 rw[Bool.eq_iff_iff,Bool.or_eq_true,Bool.and_eq_true,decide_eq_true_eq,decide_eq_true_eq,decide_eq_true_eq,beq_iff_eq];omega
theorem Ec(a b:Int)(w:World):
  Calls Tryz.prog 157 #[.agg #[.int .u64 (Cr a),.int .u64 (Cy a)],.agg #[.int .u64 (Cr b),.int .u64 (Cy b)]] w fun e w'=>e=.returned (.bool (decide (a<b)))∧Below w.heap.size w w':=by
 have HR:=lh (AHe (Uv a) (Uv b) (Wo a) (Wo b));generalize Cr a=ah at *;generalize Cy a=al at *;generalize Cr b=bh at *;generalize Cy b=bl at *
 by_cases q1:ah<bh
 ·have g1:decide (ah<bh)=true:=dT q1
  rw[g1]at HR;clear q1
  go_enter Tryz.func157,Tryz.ntmps157
  go_wp2_with fail
  go_ret;exact⟨by rw[HR.out];rfl,(Aa _ _).alloc (by simp) _⟩
 have g1:decide (ah<bh)=false:=dF q1;rw[g1]at HR;clear q1
 by_cases q2:ah=bh
 ·have g2:(ah==bh)=true:=beq_iff_eq.2 q2
  rw[g2]at HR;clear q2
  go_enter Tryz.func157,Tryz.ntmps157
  go_wp2_with fail
  go_ret;exact⟨by rw[HR.out];rfl,(Aa _ _).alloc (by simp) _⟩
 ·have g2:(ah==bh)=false:=beq_eq_false_iff_ne.2 q2
  rw[g2]at HR;clear q2
  go_enter Tryz.func157,Tryz.ntmps157
  go_wp2_with fail
  go_ret;exact⟨by rw[HR.out];rfl,(Aa _ _).alloc (by simp) _⟩
theorem AOf(v:Nat)(h0:0<v)(h1:v<18446744073709551616):∃s:Nat,s≤63∧(64:Int)-(Lib.bitLen v:Int)=(s:Int)∧9223372036854775808≤(v:Int)*2^s∧(v:Int)*2^s<18446744073709551616:=by
 obtain⟨a,b,c⟩:=Lib.bitLenAux_bounds 64 v (by omega) (by omega);have hL:Lib.bitLen v≤64:=Lib.bitLen_le v 64 nr (by omega);unfold Lib.bitLen at hL⊢;generalize Lib.bitLenAux 64 v=L at *;refine⟨64-L,by omega,by omega,?_,?_⟩
 ·have e:((v*2^(64-L):Nat):Int)=(v:Int)*2^(64-L):=by rw[Int.natCast_mul,Int.natCast_pow];rfl
  rw[←e];have:2^(L-1)*2^(64-L)≤v*2^(64-L):=Nat.mul_le_mul_right _ b;rw[←Nat.pow_add,show L-1+(64-L)=63 by omega]at this;omega
 ·have e:((v*2^(64-L):Nat):Int)=(v:Int)*2^(64-L):=by rw[Int.natCast_mul,Int.natCast_pow];rfl
  rw[←e];have:v*2^(64-L)<2^L*2^(64-L):=Nat.mul_lt_mul_of_pos_right c (Nat.two_pow_pos _);rw[←Nat.pow_add,show L+(64-L)=64 by omega]at this;omega
theorem AJj(hi lo v:Int)(hi0:1≤hi)(hv:hi<v)(v1:v<18446744073709551616)(l0:0≤lo)(l1:lo<18446744073709551616)(w:World):
  Calls Tryz.prog 188 #[.int .u64 hi,.int .u64 lo,.int .u64 v] w fun e w'=>e=.returned (.tuple #[.int .u64 ((hi*18446744073709551616+lo)/v),.int .u64 ((hi*18446744073709551616+lo)%v)])∧w=w':=by
 obtain⟨V,rfl⟩:=Int.eq_ofNat_of_zero_le (show 0≤v by omega);obtain⟨s,hs,hs2,n1,n2⟩:=AOf V (by omega) (by omega)
 have hcl:∀w,Calls Tryz.prog 207 #[.int .u64 (V:Int)] w fun e w'=>e=.returned (.int .i64 (s:Int))∧w=w':=fun w=>by
  have:=Tryz.bits_LeadingZeros64 (V:Int) w (by omega) (by omega);rw[Int.toNat_natCast,hs2]at this;exact this.mono fun e w' h=>⟨h.1,h.2.symm⟩
 have hP:(0:Int)<2^s:=Int.pow_pos (by decide);have hQ:(0:Int)<2^(64-s):=Int.pow_pos (by decide);have hPQ:=AKc (s:=s) (by omega);obtain⟨h1,h2⟩:=ARz hP (show 0≤hi by omega) hv;obtain⟨r0,r1,r2⟩:=AJc hP hQ hPQ l0 l1;have hall:=ANb (hi:=hi) hP hQ hPQ l0 l1;obtain⟨t,ht⟩:=nm (64-s);have z1:(64:Int)-(s:Int)=(t:Int):=by omega
 have z2:(0:Int)≤s∧(s:Int)≤64:=by omega
 have z3:(0:Int)≤t∧(t:Int)≤64:=by omega
 rw[ht]at hall hQ hPQ r0 r1;have hor:=ASk hi (lo/2^t) s (by omega) r0 r1 (by omega);obtain⟨Y,hY⟩:=nm ((V:Int)*2^s);obtain⟨A,hA⟩:=nm (hi*2^s);obtain⟨R,hR⟩:=nm (lo/2^t);obtain⟨X,hX⟩:=nm (lo*2^s%18446744073709551616);obtain⟨U,hU⟩:=nm (A+R);rw[hY]at n1 n2 h2;rw[hA]at h1 h2 hall hor;rw[hR]at r0 r1 hall hor;rw[hX]at hall;rw[hU]at hall hor;have u1:IntKind.u64.wrap ((V:Int)*2^s)=Y:=by rw[hY,IntKind.wrap_u64];omega
 have u2:IntKind.u64.wrap (hi*2^s)=A:=by rw[hA,IntKind.wrap_u64];omega
 have u3:IntKind.u64.wrap (lo*2^s)=X:=by rw[IntKind.wrap_u64];exact hX
 have x0:0≤X∧X<18446744073709551616:=by omega
 have u0:0≤U:=by omega
 have huY:U<Y:=by omega
 obtain⟨y1,hy1⟩:=nm (Y/4294967296);obtain⟨y0,hy0⟩:=nm (Y%4294967296);obtain⟨x1,hx1⟩:=nm (X/4294967296);obtain⟨x2,hx2⟩:=nm (X%4294967296);have u4:=ADk Y (by omega) n2;have u5:=ADk X x0.1 x0.2;rw[hy0]at u4;rw[hx2]at u5;have hYY:y1*4294967296+y0=Y:=by omega
 have hy00:0≤y0:=by omega
 have hy01:y0<4294967296:=by omega
 have hy10:0<y1:=by omega
 have hy11:2147483648≤y1:=by omega
 have hy12:y1<4294967296:=by omega
 have hx10:0≤x1:=by omega
 have hx11:x1<4294967296:=by omega
 have hx20:0≤x2:=by omega
 have hx21:x2<4294967296:=by omega
 have hyp:0<y1*4294967296+y0:=by omega
 have huU:U<y1*4294967296+y0:=by omega
 rw[hx1,hx2]at hall;obtain⟨Q1,hQ1⟩:=nm ((U*4294967296+x1)/Y);obtain⟨U2,hU2⟩:=nm ((U*4294967296+x1)%Y);obtain⟨Q0,hQ0⟩:=nm ((U2*4294967296+x2)/Y);obtain⟨R2,hR2⟩:=nm ((U2*4294967296+x2)%Y);obtain⟨fin1,fin2⟩:=AEz hP (show(0:Int)<V by omega) hY.symm hall hQ1.symm hU2.symm hQ0.symm hR2.symm;have b1:0≤U2:=by rw[←hU2];exact Int.emod_nonneg _ (by omega)
 have b2:U2<Y:=by rw[←hU2];exact Int.emod_lt_of_pos _ (by omega)
 have b3:0≤R2:=by rw[←hR2];exact Int.emod_nonneg _ (by omega)
 have b4:R2<Y:=by rw[←hR2];exact Int.emod_lt_of_pos _ (by omega)
 have huU2:U2<y1*4294967296+y0:=by omega
 have q1a:=Qw (d:=x1) hyp u0 hx10;have q1b:=AGr (d:=x1) hyp huU hx11;have q0a:=Qw (d:=x2) hyp b1 hx20;have q0b:=AGr (d:=x2) hyp huU2 hx21;have e1:=Int.mul_ediv_add_emod (U*4294967296+x1) Y;have e0:=Int.mul_ediv_add_emod (U2*4294967296+x2) Y;rw[hQ1,hU2]at e1;rw[hQ0,hR2]at e0;have D1:=Dig.start hy11 hy12 hy00 hy01 u0 huU hx10 hx11;have D2:=Dig.start hy11 hy12 hy00 hy01 b1 huU2 hx20 hx21;rw[hYY]at q1a q1b q0a q0b;rw[hQ1]at q1a q1b;rw[hQ0]at q0a q0b;have HQ1:(U*4294967296+x1)/(y1*4294967296+y0)=Q1:=by rw[hYY,hQ1]
 have HQ0:(U2*4294967296+x2)/(y1*4294967296+y0)=Q0:=by rw[hYY,hQ0]
 obtain⟨K1,hK1⟩:=nm (U/y1);obtain⟨K2,hK2⟩:=nm (U2/y1);rw[hK1]at D1;rw[hK2]at D2;have k1a:0≤K1∧K1*y1≤U:=by rw[←hK1];exact⟨Int.ediv_nonneg u0 (by omega),Int.ediv_mul_le _ (by omega)⟩
 have k2a:0≤K2∧K2*y1≤U2:=by rw[←hK2];exact⟨Int.ediv_nonneg b1 (by omega),Int.ediv_mul_le _ (by omega)⟩
 have k1m:0≤K1*y1:=Int.mul_nonneg k1a.1 (by omega);have k2m:0≤K2*y1:=Int.mul_nonneg k2a.1 (by omega);have k1h:=D1.high;have k2h:=D2.high;obtain⟨M1,hM1⟩:=nm (K1*y1);obtain⟨M2,hM2⟩:=nm (K2*y1);rw[hM1]at D1 k1a k1m;rw[hM2]at D2 k2a k2m;have HD1:=lh D1;have HD2:=lh D2;have v0:(y1==0)=false:=beq_eq_false_iff_ne.2 (by omega);have v1':IntKind.u64.wrap (U.tdiv y1)=K1:=by rw[Int.tdiv_eq_ediv_of_nonneg u0,hK1,IntKind.wrap_u64];omega
 have v2:IntKind.u64.wrap (K1*y1)=M1:=by rw[hM1,IntKind.wrap_u64];omega
 have v3:IntKind.u64.wrap (U-M1)=U-M1:=by rw[IntKind.wrap_u64];omega
 have v4:IntKind.u64.wrap (U2.tdiv y1)=K2:=by rw[Int.tdiv_eq_ediv_of_nonneg b1,hK2,IntKind.wrap_u64];omega
 have v5:IntKind.u64.wrap (K2*y1)=M2:=by rw[hM2,IntKind.wrap_u64];omega
 have v6:IntKind.u64.wrap (U2-M2)=U2-M2:=by rw[IntKind.wrap_u64];omega
 obtain⟨c1,hc1⟩:=nm (IntKind.u64.wrap (U*4294967296));obtain⟨c2,hc2⟩:=nm (IntKind.u64.wrap (c1+x1));obtain⟨c3,hc3⟩:=nm (IntKind.u64.wrap (Q1*Y))
 have v7:IntKind.u64.wrap (c2-c3)=U2:=by
  rw[←hc3,←hc2,←hc1,IntKind.wrap_u64,IntKind.wrap_u64,IntKind.wrap_u64,IntKind.wrap_u64,Int.mul_comm Q1 Y];generalize Y*Q1=T at *;omega
 obtain⟨d1,hd1⟩:=nm (IntKind.u64.wrap (U2*4294967296));obtain⟨d2,hd2⟩:=nm (IntKind.u64.wrap (d1+x2));obtain⟨d3,hd3⟩:=nm (IntKind.u64.wrap (Q0*Y))
 have v8:IntKind.u64.wrap (d2-d3)=R2:=by
  rw[←hd3,←hd2,←hd1,IntKind.wrap_u64,IntKind.wrap_u64,IntKind.wrap_u64,IntKind.wrap_u64,Int.mul_comm Q0 Y];generalize Y*Q0=T at *;omega
 have v9:IntKind.u64.wrap (Q1*4294967296)=Q1*4294967296:=by rw[IntKind.wrap_u64];omega
 have v10:IntKind.u64.wrap (Q1*4294967296+Q0)=Q1*4294967296+Q0:=by rw[IntKind.wrap_u64];omega
 have w1:((V:Int)==0)=false:=beq_eq_false_iff_ne.2 (by omega);have w2:(V==0)=false:=beq_eq_false_iff_ne.2 (by omega);have w3:decide ((V:Int)≤hi)=false:=dF (by omega);have w4:(hi==0)=false:=beq_eq_false_iff_ne.2 (by omega);have w5:IntKind.u64.wrap (s:Int)=(s:Int):=by rw[IntKind.wrap_u64];omega
 have w6:IntKind.u64.wrap ((64:Int)-(s:Int))=(t:Int):=by rw[z1,IntKind.wrap_u64];omega
 have HF1:=lh fin1;have HF2:=lh fin2;have HCL:=lh hcl;have HQQ1:=lh HQ1;have HQQ0:=lh HQ0;clear hs2 fin1 fin2 hcl HQ1 HQ0 hall hQ1 hU2 hQ0 hR2 hK1 hK2 hM1 hM2 D1 D2 e1 e0 hY hA hU hYY h1 h2 hP hQ hPQ r2 z1 ht
 go_enter Tryz.func188,Tryz.ntmps188
 go_upto_block 0 with (go_at_call 207;go_fit (HCL.out _);rintro e w' ⟨rfl,rfl⟩)
 go_cut [15] (fun v wx=>v=.int .u64 Q1∧w=wx)
 case first=>
  have HD0:=HD1
  go_wp2_with fail
  go_loop [15,16] (fun a b=>∃k r:Int,a=.int .u64 k∧b=.int .u64 r∧Hid (Dig U y1 y0 x1 k r)) (fun a _=>(intOf a).toNat)
  case atStart=>exact⟨_,_,rfl,rfl,HD0⟩
  case round=>
   obtain⟨k,r,rfl,rfl,HD⟩:=hrel;have hlow:=HD.out.low;rw[HQQ1.out]at hlow;have hk0:0≤k:=by omega
   obtain⟨p0,p1,p2,p3⟩:=HD.out.small hk0 hy00 hy01 hx10 hx11;have hr0:=HD.out.pos;have hr1:=HD.out.less;have hkh:=HD.out.high;obtain⟨p,hp⟩:=nm (k*y0);have HPK:=lh hp;rw[hp]at p0 p1;have t1:IntKind.u64.wrap (k*y0)=p:=by rw[hp,IntKind.wrap_u64];omega
   have t2:IntKind.u64.wrap (4294967296*r)=4294967296*r:=by rw[IntKind.wrap_u64];omega
   have t3:IntKind.u64.wrap (4294967296*r+x1)=4294967296*r+x1:=by rw[IntKind.wrap_u64];omega
   have t4:IntKind.u64.wrap (r+y1)=r+y1:=by rw[IntKind.wrap_u64];omega
   clear hp
   by_cases hc:4294967296≤k∨4294967296*r+x1<p
   ·have hpr:=HD.out.pred hyp huU hx11 (by rw[HPK.out];exact hc)
    rw[HQQ1.out]at hpr;have t5:IntKind.u64.wrap (k-1)=k-1:=by rw[IntKind.wrap_u64];omega
    by_cases hr:r+y1<4294967296
    ·have HN:=lh (HD.out.next hy10 hyp huU hx11 (by rw[HPK.out];exact hc) hr)
     have g3:decide (4294967296≤r+y1)=false:=dF (by omega)
     by_cases h1:4294967296≤k
     ·have g1:decide (4294967296≤k)=true:=dT h1
      clear hc
      go_wp2_with fail
      go_round
      case rel=>exact⟨_,_,rfl,rfl,HN⟩
      case measure=>simp[intOf];omega
     ·have g1:decide (4294967296≤k)=false:=dF h1
      have g2:decide (4294967296*r+x1<p)=true:=dT (by omega);clear hc
      go_wp2_with fail
      go_round
      case rel=>exact⟨_,_,rfl,rfl,HN⟩
      case measure=>simp[intOf];omega
    ·have ho:=HD.out.out hyp huU hy00 hy01 hx10 hx11 (by rw[HPK.out];exact hc) (by omega)
     rw[HQQ1.out]at ho;have HO:=lh ho;have g3:decide (4294967296≤r+y1)=true:=dT (by omega);clear ho hpr
     by_cases h1:4294967296≤k
     ·have g1:decide (4294967296≤k)=true:=dT h1
      clear hc
      go_wp2_with fail
      go_meet
      exact⟨by rw[HO.out],rfl⟩
     ·have g1:decide (4294967296≤k)=false:=dF h1
      have g2:decide (4294967296*r+x1<p)=true:=dT (by omega);clear hc
      go_wp2_with fail
      go_meet
      exact⟨by rw[HO.out],rfl⟩
   ·have ho:=HD.out.done hyp (by rw[HPK.out];omega)
    rw[HQQ1.out]at ho;have HO:=lh ho;have g1:decide (4294967296≤k)=false:=dF (by omega);have g2:decide (4294967296*r+x1<p)=false:=dF (by omega);clear ho hc
    go_wp2_with fail
    go_meet
    exact⟨by rw[HO.out],rfl⟩
 case rest=>
  obtain⟨rfl,rfl⟩:=hcut
  go_upto_block 2 with (fail)
  go_cut [18] (fun v wx=>v=.int .u64 Q0∧w=wx)
  case first=>
   have HD0:=HD2
   go_wp2_with fail
   go_loop [18,16] (fun a b=>∃k r:Int,a=.int .u64 k∧b=.int .u64 r∧Hid (Dig U2 y1 y0 x2 k r)) (fun a _=>(intOf a).toNat)
   case atStart=>exact⟨_,_,rfl,rfl,HD0⟩
   case round=>
    obtain⟨k,r,rfl,rfl,HD⟩:=hrel;have hlow:=HD.out.low;rw[HQQ0.out]at hlow;have hk0:0≤k:=by omega
    obtain⟨p0,p1,p2,p3⟩:=HD.out.small hk0 hy00 hy01 hx20 hx21;have hr0:=HD.out.pos;have hr1:=HD.out.less;have hkh:=HD.out.high;obtain⟨p,hp⟩:=nm (k*y0);have HPK:=lh hp;rw[hp]at p0 p1;have t1:IntKind.u64.wrap (k*y0)=p:=by rw[hp,IntKind.wrap_u64];omega
    have t2:IntKind.u64.wrap (4294967296*r)=4294967296*r:=by rw[IntKind.wrap_u64];omega
    have t3:IntKind.u64.wrap (4294967296*r+x2)=4294967296*r+x2:=by rw[IntKind.wrap_u64];omega
    have t4:IntKind.u64.wrap (r+y1)=r+y1:=by rw[IntKind.wrap_u64];omega
    clear hp
    by_cases hc:4294967296≤k∨4294967296*r+x2<p
    ·have hpr:=HD.out.pred hyp huU2 hx21 (by rw[HPK.out];exact hc)
     rw[HQQ0.out]at hpr;have t5:IntKind.u64.wrap (k-1)=k-1:=by rw[IntKind.wrap_u64];omega
     by_cases hr:r+y1<4294967296
     ·have HN:=lh (HD.out.next hy10 hyp huU2 hx21 (by rw[HPK.out];exact hc) hr)
      have g3:decide (4294967296≤r+y1)=false:=dF (by omega)
      by_cases h1:4294967296≤k
      ·have g1:decide (4294967296≤k)=true:=dT h1
       clear hc
       go_wp2_with fail
       go_round
       case rel=>exact⟨_,_,rfl,rfl,HN⟩
       case measure=>simp[intOf];omega
      ·have g1:decide (4294967296≤k)=false:=dF h1
       have g2:decide (4294967296*r+x2<p)=true:=dT (by omega);clear hc
       go_wp2_with fail
       go_round
       case rel=>exact⟨_,_,rfl,rfl,HN⟩
       case measure=>simp[intOf];omega
     ·have ho:=HD.out.out hyp huU2 hy00 hy01 hx20 hx21 (by rw[HPK.out];exact hc) (by omega)
      rw[HQQ0.out]at ho;have HO:=lh ho;have g3:decide (4294967296≤r+y1)=true:=dT (by omega);clear ho hpr
      by_cases h1:4294967296≤k
      ·have g1:decide (4294967296≤k)=true:=dT h1
       clear hc
       go_wp2_with fail
       go_meet
       exact⟨by rw[HO.out],rfl⟩
      ·have g1:decide (4294967296≤k)=false:=dF h1
       have g2:decide (4294967296*r+x2<p)=true:=dT (by omega);clear hc
       go_wp2_with fail
       go_meet
       exact⟨by rw[HO.out],rfl⟩
    ·have ho:=HD.out.done hyp (by rw[HPK.out];omega)
     rw[HQQ0.out]at ho;have HO:=lh ho;have g1:decide (4294967296≤k)=false:=dF (by omega);have g2:decide (4294967296*r+x2<p)=false:=dF (by omega);clear ho hc
     go_wp2_with fail
     go_meet
     exact⟨by rw[HO.out],rfl⟩
  case rest=>
   obtain⟨rfl,rfl⟩:=hcut
   go_wp2_with fail
   go_ret2
   exact⟨by rw[←HF1.out,←HF2.out];rfl,rfl⟩
theorem AKl(hi lo v:Int)(hi0:0≤hi)(hv:hi<v)(v1:v<18446744073709551616)(l0:0≤lo)(l1:lo<18446744073709551616)(w:World):
  Calls Tryz.prog 188 #[.int .u64 hi,.int .u64 lo,.int .u64 v] w fun e w'=>e=.returned (.tuple #[.int .u64 ((hi*18446744073709551616+lo)/v),.int .u64 ((hi*18446744073709551616+lo)%v)])∧∃m,w'=w.drewN m:=by
 by_cases z:hi=0
 ·subst z
  have:=ACs lo v l0 l1 hv v1 w;rw[show(0:Int)*18446744073709551616+lo=lo by omega];exact this
 ·exact(AJj hi lo v (by omega) hv v1 l0 l1 w).mono fun e w' h=>⟨h.1,0,h.2.symm⟩
theorem AHt{a ah al b:Int}(e:ah*18446744073709551616+al=a)(hb:0<b)(l0:0≤al)(l1:al<18446744073709551616):
  ah/b=Cr (a/b)∧(ah%b*18446744073709551616+al)/b=Cy (a/b)∧(ah%b*18446744073709551616+al)%b=a%b:=by
 have r0:=Int.emod_nonneg ah (show b≠0 by omega);have r1:=Int.emod_lt_of_pos ah hb;have e2:=Int.mul_ediv_add_emod ah b
 have e3:a=(ah%b*18446744073709551616+al)+b*(ah/b*18446744073709551616):=by
  rw[←e,←Int.mul_assoc];generalize b*(ah/b)=X at *;omega
 have q0:0≤(ah%b*18446744073709551616+al)/b:=Int.ediv_nonneg (by omega) (by omega)
 have q1:(ah%b*18446744073709551616+al)/b<18446744073709551616:=by
  refine Int.ediv_lt_of_lt_mul hb ?_;have:=Int.mul_le_mul_of_nonneg_left (show ah%b+1≤b by omega) (show(0:Int)≤18446744073709551616 by decide);omega
 have e4:a/b=(ah%b*18446744073709551616+al)/b+ah/b*18446744073709551616:=by
  conv=>lhs;rw[e3]
  exact Int.add_mul_ediv_left _ _ (by omega)
 have e5:a%b=(ah%b*18446744073709551616+al)%b:=by
  conv=>lhs;rw[e3]
  exact Int.add_mul_emod_self_left _ _ _
 refine⟨?_,?_,e5.symm⟩
 ·unfold Cr;rw[e4];omega
 ·unfold Cy;rw[e4];omega
theorem Zz(x y:Int)(hx:0≤x)(hx':x<340282366920938463463374607431768211456)(hy:0<y)(hy':y<18446744073709551616)(w:World):
  Calls Tryz.prog 166 #[.agg #[.int .u64 (Cr x),.int .u64 (Cy x)],.int .u64 y] w fun e w'=>e=.returned (.tuple #[.agg #[.int .u64 (Cr (x/y)),.int .u64 (Cy (x/y))],.int .u64 (x%y)])∧Below w.heap.size w w':=by
 have h1:=ADy hx hx';have h2:=Wo x;obtain⟨p1,p2,p3⟩:=AHt (Uv x) hy h2.1 h2.2;generalize Cr x=h at *;generalize Cy x=l at *;generalize Cr (x/y)=qh at *;generalize Cy (x/y)=ql at *;generalize x%y=rr at *;have y0:¬y=0:=by omega
 have y0':(y==0)=false:=by simpa using y0
 have m0:=Int.emod_nonneg h y0;have m1:=Int.emod_lt_of_pos h hy;have m2:=Int.ediv_nonneg h1.1 (Int.le_of_lt hy);have m3:=Int.ediv_le_self y h1.1;have u1:IntKind.u64.wrap (h.tmod y)=h%y:=by rw[Int.tmod_eq_emod_of_nonneg h1.1,IntKind.wrap_u64];omega
 have u2:IntKind.u64.wrap (h.tdiv y)=qh:=by rw[Int.tdiv_eq_ediv_of_nonneg h1.1,IntKind.wrap_u64,←p1];omega
 have HD:=lh (AKl (h%y) l y m0 m1 hy' h2.1 h2.2);rw[p2,p3]at HD;have u3:h.tmod y=h%y:=Int.tmod_eq_emod_of_nonneg h1.1;have u4:h.tdiv y=qh:=by rw[Int.tdiv_eq_ediv_of_nonneg h1.1];exact p1
 have u5:IntKind.u64.wrap qh=qh:=by rw[IntKind.wrap_u64];omega
 obtain⟨r,hr⟩:=nm (h%y);rw[hr]at HD u1 u3 m0 m1;clear p2 p3 m2 m3
 go_enter Tryz.func166,Tryz.ntmps166
 go_wp2_with fail
 go_quiet ((go_at_call 188;with_reducible refine Calls.quiet_of (v:=.tuple #[.int .u64 ql,.int .u64 rr]) (HD.out _)))
 go_wp2_with fail
 refine bodyPost_ret (v:=.tuple #[.agg #[.int .u64 qh,.int .u64 ql],.int .u64 rr]) (by simp[results,Tryz.results166,go_sem]) rfl ⟨rfl,?_⟩;exact((Aj ((Aa _ _).alloc (by simp) _) _).setCell (p:=⟨w.heap.size+1,0,none⟩) (by simp) _).setCell (p:=⟨w.heap.size+1,1,none⟩) (by simp) _
theorem Cg(x y:Int)(hx:0≤x)(hx':x<18446744073709551616)(hy:0≤y)(hy':y<18446744073709551616)(w:World):
  Calls Tryz.prog 110 #[.int .u64 x,.int .u64 y] w fun e w'=>e=.returned (.agg #[.int .u64 (Cr (x*y)),.int .u64 (Cy (x*y))])∧Below w.heap.size w w':=Oi x y hx hx' hy hy' w
theorem ASt(h l:Int)(w:World):(binOp .eql 184 (.agg #[.int .u64 h,.int .u64 l]) (.agg #[.int .u64 0,.int .u64 0])).run Tryz.prog w=.ok (.bool ((h==0)&&(l==0))) w:=by
 simp[go_sem]
 by_cases a:h=0
 ·by_cases b:l=0
  ·simp[a,b]
  ·simp[a,b]
 ·simp[a]
theorem AQg{x:Int}(h:x=0)(w:World):(binOp .eql 184 (.agg #[.int .u64 (Cr x),.int .u64 (Cy x)]) (.agg #[.int .u64 0,.int .u64 0])).run Tryz.prog w=.ok (.bool true) w:=by subst h;exact ASt _ _ _
theorem ATm{x:Int}(h:¬x=0)(w:World):(binOp .eql 184 (.agg #[.int .u64 (Cr x),.int .u64 (Cy x)]) (.agg #[.int .u64 0,.int .u64 0])).run Tryz.prog w=.ok (.bool false) w:=by
 rw[ASt];have:=Uv x
 have e:((Cr x==0)&&(Cy x==0))=false:=by
  rw[Bool.and_eq_false_iff,beq_eq_false_iff_ne,beq_eq_false_iff_ne];omega
 rw[e]
end
end Go.Proofs.YtebofaenlhhkaaaGreat
