import Derived.Laws.Bits64b
import Derived.Deep.RegionHeld
import Derived.Test.YtebofaenlhhkaaaGreatY6
namespace Go.Proofs.YtebofaenlhhkaaaGreat
set_option maxRecDepth 100000
set_option maxHeartbeats 80000000
section
open Go.RowKit Go.Shelf
theorem Fz(n:Int)(h1:-9223372036854775808≤n)(h2:n≤9223372036854775807)(w:World):
  Calls Tryz.prog 67 #[.int .i64 n] w fun e w'=>e=.returned (.int .u64 (n.natAbs:Int))∧w=w':=by
 by_cases h:n<0
 ·have e1:IntKind.u64.wrap (-IntKind.u64.wrap n)=(n.natAbs:Int):=by simp only[IntKind.wrap_u64];omega
  have e2:IntKind.u64.wrap (0-IntKind.u64.wrap n)=(n.natAbs:Int):=by simp only[IntKind.wrap_u64];omega
  go_enter Tryz.func67,Tryz.ntmps67
  go_wp2
  go_ret;exact⟨Lw (by first | exact e1 | exact e2 | omega | rfl),rfl⟩
 ·go_enter Tryz.func67,Tryz.ntmps67
  go_wp2
  go_ret;exact⟨Lw (by omega),rfl⟩
theorem Rv(a:Int)(a0:0≤a)(a1:a<18446744073709551616)(w:World):
  Calls Tryz.prog 153 #[.agg #[.int .u64 0,.int .u64 a]] w fun e w'=>e=.returned (.agg #[.int .u64 0,.int .u64 (a/2)])∧Below w.heap.size w w':=by
 go_enter Tryz.func153,Tryz.ntmps153
 go_wp2
 refine bodyPost_ret (v:=.agg #[.int .u64 0,.int .u64 (a/2)]) (by simp[results,Tryz.results153,go_sem]) rfl ⟨rfl,?_⟩;exact(Aa _ _).alloc (by simp) _
theorem Wu(a b:Int)(a1:a<18446744073709551616)(b0:0≤b)(h:b≤a)(w:World):
  Calls Tryz.prog 154 #[.agg #[.int .u64 0,.int .u64 a],.agg #[.int .u64 0,.int .u64 b]] w fun e w'=>e=.returned (.agg #[.int .u64 0,.int .u64 (a-b)])∧Below w.heap.size w w':=by
 have h':decide (a<b)=false:=dF (by omega);have e1:IntKind.u64.wrap (a-b)=a-b:=by rw[IntKind.wrap_u64];omega
 go_enter Tryz.func154,Tryz.ntmps154
 go_wp2
 refine bodyPost_ret (v:=.agg #[.int .u64 0,.int .u64 (a-b)]) (by simp[results,Tryz.results154,go_sem]) rfl ⟨rfl,?_⟩;exact((Aa _ _).alloc (by simp) _).alloc (by simp;omega) _
theorem ALm(a b:Int)(a0:0≤a)(b0:0≤b)(h:a+b<18446744073709551616)(w:World):
  Calls Tryz.prog 155 #[.agg #[.int .u64 0,.int .u64 a],.agg #[.int .u64 0,.int .u64 b]] w fun e w'=>e=.returned (.agg #[.int .u64 0,.int .u64 (a+b)])∧Below w.heap.size w w':=by
 have e1:IntKind.u64.wrap (a+b)=a+b:=by rw[IntKind.wrap_u64];omega
 have h':decide (a+b<a)=false:=dF (by omega)
 go_enter Tryz.func155,Tryz.ntmps155
 go_wp2
 refine bodyPost_ret (v:=.agg #[.int .u64 0,.int .u64 (a+b)]) (by simp[results,Tryz.results155,go_sem]) rfl ⟨rfl,?_⟩;exact((Aa _ _).alloc (by simp) _).alloc (by simp;omega) _
theorem Zh(a b:Int)(w:World):
  Calls Tryz.prog 72 #[.agg #[.int .u64 0,.int .u64 a],.agg #[.int .u64 0,.int .u64 b]] w fun e w'=>e=.returned (.bool (decide (a<b)))∧Below w.heap.size w w':=by
 go_enter Tryz.func72,Tryz.ntmps72
 go_wp2
 go_ret;exact⟨by simp,(Aa _ _).alloc (by simp) _⟩
theorem Of{a b m:Int}(a0:0≤a)(a1:a≤m)(b0:0≤b)(b1:b≤m):0≤a*b∧a*b≤m*m:=⟨Int.mul_nonneg a0 b0,Int.mul_le_mul a1 b1 b0 (by omega)⟩
theorem Vh(x:Int)(h0:0≤x)(h1:x<18446744073709551616):bits .and .u64 x 4294967295=x%4294967296:=by
 obtain⟨n,rfl⟩:=Int.eq_ofNat_of_zero_le h0;have h:=bits_and_u64_nat n 4294967295 (by omega) (by omega);have e:n&&& 4294967295=n%4294967296:=Nat.and_two_pow_sub_one_eq_mod n 32;rw[e]at h;exact h.trans (by omega)

theorem AUo{a b m p1 p2 p3 p4 mid oth:Int}(hm:m=4294967296)(h1:p1=a%m*(b%m))(h2:p2=a/m*(b%m))(h3:p3=a%m*(b/m))(h4:p4=a/m*(b/m))(hmid:mid=p2+p1/m)(ho:oth=p3+mid%m):
  a*b=(p4+mid/m+oth/m)*(m*m)+(oth%m*m+p1%m):=by
 have ea:a=m*(a/m)+a%m:=(Int.mul_ediv_add_emod a m).symm;have eb:b=m*(b/m)+b%m:=(Int.mul_ediv_add_emod b m).symm
 have e:a*b=m*(m*p4)+m*p2+m*p3+p1:=by
  rw[h1,h2,h3,h4]
  calc a*b=(m*(a/m)+a%m)*(m*(b/m)+b%m):=by rw[←ea,←eb]
   _=m*(m*(a/m*(b/m)))+m*(a/m*(b%m))+m*(a%m*(b/m))+a%m*(b%m):=by
    rw[Int.add_mul,Int.mul_add,Int.mul_add];have x1:m*(a/m)*(m*(b/m))=m*(m*(a/m*(b/m))):=by ac_rfl
    have x2:m*(a/m)*(b%m)=m*(a/m*(b%m)):=by ac_rfl
    have x3:a%m*(m*(b/m))=m*(a%m*(b/m)):=by ac_rfl
    rw[x1,x2,x3];omega
 rw[e];subst hm;omega

theorem Rn(a b:Int)(a0:0≤a)(a1:a<18446744073709551616)(b0:0≤b)(b1:b<18446744073709551616)(w:World):
  Calls Tryz.prog 71 #[.int .u64 a,.int .u64 b] w fun e w'=>e=.returned (.agg #[.int .u64 (a*b/18446744073709551616),.int .u64 (a*b%18446744073709551616)])∧Below w.heap.size w w':=by
 have ha:=Vh a a0 a1;have hb:=Vh b b0 b1;obtain⟨p1,h1⟩:∃p,p=a%4294967296*(b%4294967296):=⟨_,rfl⟩;obtain⟨p2,h2⟩:∃p,p=a/4294967296*(b%4294967296):=⟨_,rfl⟩;obtain⟨p3,h3⟩:∃p,p=a%4294967296*(b/4294967296):=⟨_,rfl⟩;obtain⟨p4,h4⟩:∃p,p=a/4294967296*(b/4294967296):=⟨_,rfl⟩;obtain⟨mid,h5⟩:∃p,p=p2+p1/4294967296:=⟨_,rfl⟩;obtain⟨oth,h6⟩:∃p,p=p3+mid%4294967296:=⟨_,rfl⟩;have c1:=Of (a:=a%4294967296) (b:=b%4294967296) (m:=4294967295) (by omega) (by omega) (by omega) (by omega);have c2:=Of (a:=a/4294967296) (b:=b%4294967296) (m:=4294967295) (by omega) (by omega) (by omega) (by omega);have c3:=Of (a:=a%4294967296) (b:=b/4294967296) (m:=4294967295) (by omega) (by omega) (by omega) (by omega);have c4:=Of (a:=a/4294967296) (b:=b/4294967296) (m:=4294967295) (by omega) (by omega) (by omega) (by omega);rw[←h1]at c1;rw[←h2]at c2;rw[←h3]at c3;rw[←h4]at c4;have hH:=AUo rfl h1 h2 h3 h4 h5 h6;have u1:IntKind.u64.wrap (a%4294967296*(b%4294967296))=p1:=by rw[←h1,IntKind.wrap_u64];omega
 have u2:IntKind.u64.wrap (a/4294967296*(b%4294967296))=p2:=by rw[←h2,IntKind.wrap_u64];omega
 have u3:IntKind.u64.wrap (a%4294967296*(b/4294967296))=p3:=by rw[←h3,IntKind.wrap_u64];omega
 have u4:IntKind.u64.wrap (a/4294967296*(b/4294967296))=p4:=by rw[←h4,IntKind.wrap_u64];omega
 have u5:IntKind.u64.wrap (p2+p1/4294967296)=mid:=by rw[←h5,IntKind.wrap_u64];omega
 have u6:=Vh mid (by omega) (by omega);have u7:IntKind.u64.wrap (p3+mid%4294967296)=oth:=by rw[←h6,IntKind.wrap_u64];omega
 have hab:=Of (m:=18446744073709551615) a0 (show a≤_ by omega) b0 (show b≤_ by omega);have q1:p4+mid/4294967296+oth/4294967296=a*b/18446744073709551616:=by omega
 have q2:oth%4294967296*4294967296+p1%4294967296=a*b%18446744073709551616:=by omega
 obtain⟨H,hHH⟩:=nm (a*b/18446744073709551616);obtain⟨L,hLL⟩:=nm (a*b%18446744073709551616);rw[hHH,hLL];rw[hHH]at q1;rw[hLL]at q2;have u8:IntKind.u64.wrap (p4+mid/4294967296)=p4+mid/4294967296:=by rw[IntKind.wrap_u64];omega
 have u9:IntKind.u64.wrap (p4+mid/4294967296+oth/4294967296)=H:=by rw[IntKind.wrap_u64];omega
 have v1:=Vh p1 (by omega) (by omega);have v2:IntKind.u64.wrap (oth*4294967296)=oth%4294967296*4294967296:=by rw[IntKind.wrap_u64];omega
 have v3:IntKind.u64.wrap (oth%4294967296*4294967296+p1%4294967296)=L:=by rw[IntKind.wrap_u64];omega
 clear h1 h2 h3 h4 h5 h6 c1 c2 c3 c4 hH hab q1 q2 hHH hLL
 go_enter Tryz.func71,Tryz.ntmps71
 go_wp2_with fail
 refine bodyPost_ret (v:=.agg #[.int .u64 H,.int .u64 L]) (by simp[results,Tryz.results71,go_sem]) rfl ⟨rfl,?_⟩;exact Aa _ _
def Va(w:World)(b:Nat):Prop:=w.cell? ⟨b,0,none⟩=some (.int .u64 0)∧w.cell? ⟨b,1,none⟩=some (.int .u64 0)∧w.frozen? ⟨b,0,none⟩=false∧w.frozen? ⟨b,1,none⟩=false∧b<w.heap.size
theorem Ts{W w:World}{b:Nat}(h:Below W.heap.size W w)(f:Va W b):Va w b:=
 ⟨ct h f.1 f.2.2.2.2,ct h f.2.1 f.2.2.2.2,(h.frozen (p:=⟨b,0,none⟩) f.2.2.2.2).trans f.2.2.1,(h.frozen (p:=⟨b,1,none⟩) f.2.2.2.2).trans f.2.2.2.1,Nat.lt_of_lt_of_le f.2.2.2.2 h.size⟩
theorem AUb(W:World)(ty:TypeId):Va (W.alloc (.cells #[.int .u64 0,.int .u64 0] ty)) W.heap.size:=⟨by simp,by simp,by simp,by simp,by simp⟩
theorem ASv{W w:World}{ty:TypeId}(h:Below (W.alloc (.cells #[.int .u64 0,.int .u64 0] ty)).heap.size (W.alloc (.cells #[.int .u64 0,.int .u64 0] ty)) w):Va w W.heap.size:=Ts h (AUb W ty)
theorem ASr{W w:World}{ty:TypeId}(h:Below ((W.alloc (.cells #[.int .u64 0,.int .u64 0] ty)).alloc (.cells #[.int .u64 0,.int .u64 0] ty)).heap.size ((W.alloc (.cells #[.int .u64 0,.int .u64 0] ty)).alloc (.cells #[.int .u64 0,.int .u64 0] ty)) w):Va w W.heap.size∧Va w (W.heap.size+1):=
 ⟨Ts h (Ts (Aa _ _) (AUb W ty)),by have:=Ts h (AUb (W.alloc (.cells #[.int .u64 0,.int .u64 0] ty)) ty);rwa [World.size_alloc]at this⟩
theorem ATg{W w:World}{ty:TypeId}(h:Below (W.alloc (.cells #[.int .u64 0,.int .u64 0] ty)).drew.heap.size (W.alloc (.cells #[.int .u64 0,.int .u64 0] ty)).drew w):Va w W.heap.size:=ASv (ty:=ty) ⟨h.os,h.tape,h.output,h.size,h.block⟩
theorem AUc{W w:World}{ty:TypeId}(h:Below ((W.alloc (.cells #[.int .u64 0,.int .u64 0] ty)).alloc (.cells #[.int .u64 0,.int .u64 0] ty)).drew.heap.size ((W.alloc (.cells #[.int .u64 0,.int .u64 0] ty)).alloc (.cells #[.int .u64 0,.int .u64 0] ty)).drew w):Va w W.heap.size∧Va w (W.heap.size+1):=ASr (ty:=ty) ⟨h.os,h.tape,h.output,h.size,h.block⟩
def FU(w:World)(B:Nat)(n d:Int):Prop:=w.cell? ⟨B,0,none⟩=some (.int .u64 n)∧w.cell? ⟨B,1,none⟩=some (.int .u64 d)
def AEf(W0:World)(B C:Nat)(x' x y' y:Int)(wx:World):Prop:=Below W0.heap.size W0 wx∧FU wx B x' x∧FU wx C y' y
theorem AEf.swap{W0:World}{B C:Nat}{x' x y' y:Int}{wx:World}(h:AEf W0 B C x' x y' y wx):AEf W0 C B y' y x' x wx:=⟨h.1,h.2.2,h.2.1⟩
theorem ASm{W0 w:World}(x' x y' y:Int)(t:TypeId)(h:Below W0.heap.size W0 w):AEf W0 w.heap.size (w.heap.size+1) x' x y' y ((w.alloc (.cells #[.int .u64 x',.int .u64 x] t)).alloc (.cells #[.int .u64 y',.int .u64 y] t)):=
 ⟨Aw _ (Aw _ h),⟨by simp,by simp⟩,⟨by simp,by simp⟩⟩
theorem ASy{W0 w:World}(B:Nat)(x' x y' y:Int)(t:TypeId)(h:Below W0.heap.size W0 w)(f:Va w B)(hB:W0.heap.size≤B):AEf W0 B w.heap.size x' x y' y (((w.setCell ⟨B,0,none⟩ (.int .u64 x')).setCell ⟨B,1,none⟩ (.int .u64 x)).alloc (.cells #[.int .u64 y',.int .u64 y] t)):=by
 obtain⟨c0,c1⟩:=Ag (v0:=.int .u64 x') (v1:=.int .u64 x) f.1 f.2.1;have hl:B<((w.setCell ⟨B,0,none⟩ (.int .u64 x')).setCell ⟨B,1,none⟩ (.int .u64 x)).heap.size:=by simpa using f.2.2.2.2
 have hs:((w.setCell ⟨B,0,none⟩ (.int .u64 x')).setCell ⟨B,1,none⟩ (.int .u64 x)).heap.size=w.heap.size:=by simp
 refine⟨Aw _ (Ad ⟨B,1,none⟩ _ (Ad ⟨B,0,none⟩ _ h hB) hB),⟨(World.cell?_alloc_lt _ _ _ hl).trans c0,(World.cell?_alloc_lt _ _ _ hl).trans c1⟩,?_⟩;have:=Mk ((w.setCell ⟨B,0,none⟩ (.int .u64 x')).setCell ⟨B,1,none⟩ (.int .u64 x)) (.int .u64 y') (.int .u64 y) t
 rwa [hs]at this
theorem AUv{W0 w:World}(B C:Nat)(x' x y' y:Int)(h:Below W0.heap.size W0 w)(f:Va w B)(f':Va w C)(hB:W0.heap.size≤B)(hC:W0.heap.size≤C)(hne:B≠C):AEf W0 B C x' x y' y ((((w.setCell ⟨B,0,none⟩ (.int .u64 x')).setCell ⟨B,1,none⟩ (.int .u64 x)).setCell ⟨C,0,none⟩ (.int .u64 y')).setCell ⟨C,1,none⟩ (.int .u64 y)):=by
 obtain⟨c0,c1⟩:=Ag (v0:=.int .u64 x') (v1:=.int .u64 x) f.1 f.2.1;obtain⟨d0,d1⟩:=Ag (w:=(w.setCell ⟨B,0,none⟩ (.int .u64 x')).setCell ⟨B,1,none⟩ (.int .u64 x)) (B:=C) (v0:=.int .u64 y') (v1:=.int .u64 y) ((Ch (Ne.symm hne) _ _ _).trans f'.1) ((Ch (Ne.symm hne) _ _ _).trans f'.2.1);exact⟨Ad ⟨C,1,none⟩ _ (Ad ⟨C,0,none⟩ _ (Ad ⟨B,1,none⟩ _ (Ad ⟨B,0,none⟩ _ h hB) hB) hC) hC,⟨(Ch hne _ _ _).trans c0,(Ch hne _ _ _).trans c1⟩,⟨d0,d1⟩⟩

def Rw(ah al bh bl:Int):Bool:=decide (ah<bh)||(ah==bh&&decide (al<bl))
theorem AGg(ah al bh bl:Int)(w:World):
  Calls Tryz.prog 72 #[.agg #[.int .u64 ah,.int .u64 al],.agg #[.int .u64 bh,.int .u64 bl]] w fun e w'=>e=.returned (.bool (Rw ah al bh bl))∧Below w.heap.size w w':=by
 by_cases h1:ah<bh
 ·have h1':decide (ah<bh)=true:=dT h1
  have HR:Hid (Rw ah al bh bl=true):=lh (by unfold Rw;rw[h1'];rfl);rw[HR.out];clear h1
  go_enter Tryz.func72,Tryz.ntmps72
  go_wp2
  go_ret;exact⟨by simp,(Aa _ _).alloc (by simp) _⟩
 ·have h1':decide (ah<bh)=false:=dF h1
  by_cases h2:ah=bh
  ·have h2':(ah==bh)=true:=by simpa using h2
   have HR:Hid (Rw ah al bh bl=decide (al<bl)):=lh (by unfold Rw;rw[h1',h2'];rfl);rw[HR.out];clear h1 h2
   go_enter Tryz.func72,Tryz.ntmps72
   go_wp2
   go_ret;exact⟨by simp,(Aa _ _).alloc (by simp) _⟩
  ·have h2':(ah==bh)=false:=by simpa using h2
   have HR:Hid (Rw ah al bh bl=false):=lh (by unfold Rw;rw[h1',h2'];rfl);rw[HR.out];clear h1 h2
   go_enter Tryz.func72,Tryz.ntmps72
   go_wp2
   go_ret;exact⟨by simp,(Aa _ _).alloc (by simp) _⟩
theorem AOb(x y:Int):Rw (x/18446744073709551616) (x%18446744073709551616) (y/18446744073709551616) (y%18446744073709551616)=decide (x<y):=by
 unfold Rw;rw[Bool.eq_iff_iff]
 simp
 omega

def Iy(x y:Int):Int:=if x=y then 0 else if x<y then -1 else 1

def Jl(n:Nat):Code→Option Code
 | .region k xs b=>bif Nat.beq k n then some (.region k xs b)else none
 | .seq a b=>match Jl n a with
  | some c=>some c
  | none=>Jl n b
 | .loop c=>Jl n c
 | .block _ c=>Jl n c
 | .scope c=>Jl n c
 | .cond _ a b=>match Jl n a with
  | some c=>some c
  | none=>Jl n b
 | _=>none
noncomputable def ARm(n:Nat):Code:=((Tryz.f40.body.bind (Jl n)).getD .skip)

set_option maxRecDepth 1000000 in
theorem AVm{an ad bn bd xh xl yh yl:Int}{w:World}{Bb:Nat}{W0:World}{u4 u5 u6 u7 u8 u9 u10 u11 u12 u13 u14 u15 u16 u17 u18 u19 u20 u21 u22 u23 u24 u25 u26 u27 u28 u29 u30 u31 u32 u33 u34 u35 u36 u37 u38 u39 u40 u41 u42 u43 u44 u45 u46:Value}{K:Act→World→Prop}{Q0:Exit→Act→World→Prop}
  (HS:Hid (∀w',Below W0.heap.size W0 w'→Below W0.heap.size W0 w'∧w'.cell? ⟨w.heap.size,0,none⟩=some (.int .i64 an)∧w'.cell? ⟨w.heap.size,1,none⟩=some (.int .i64 ad)∧w'.cell? ⟨Bb,0,none⟩=some (.int .i64 bn)∧w'.cell? ⟨Bb,1,none⟩=some (.int .i64 bd))) (Z1:Hid (∀w:World,Calls Tryz.prog 67 #[.int .i64 an] w fun e w'=>e=.returned (.int .u64 an)∧w=w')) (Z2:Hid (∀w:World,Calls Tryz.prog 67 #[.int .i64 ad] w fun e w'=>e=.returned (.int .u64 ad)∧w=w')) (Z3:Hid (∀w:World,Calls Tryz.prog 67 #[.int .i64 bn] w fun e w'=>e=.returned (.int .u64 bn)∧w=w')) (Z4:Hid (∀w:World,Calls Tryz.prog 67 #[.int .i64 bd] w fun e w'=>e=.returned (.int .u64 bd)∧w=w')) (X1:Hid (∀w:World,Calls Tryz.prog 71 #[.int .u64 an,.int .u64 bd] w fun e w'=>e=.returned (.agg #[.int .u64 xh,.int .u64 xl])∧Below w.heap.size w w')) (X2:Hid (∀w:World,Calls Tryz.prog 71 #[.int .u64 bn,.int .u64 ad] w fun e w'=>e=.returned (.agg #[.int .u64 yh,.int .u64 yl])∧Below w.heap.size w w'))
  (hK:∀(u5 u6 u7 u8 u9 u10 u11 u12 u13 u14 u15 u16 u17 u18 u19 u20 u21 u22 u23 u24 u25 u26 u27 u28 u29 u30 u31 u32 u33 u34 u35 u36 u37 u38 u39 u40 u41 u42 u43 u44 u45 u46:Value) (wx:World),((fun v5 v6 wx=>∃B C:Nat,v5=.pointer (some ⟨B,0,none⟩)∧v6=.pointer (some ⟨C,0,none⟩)∧AEf W0 B C xh xl yh yl wx) u5 u6 wx)→K ⟨List.toArray (.agg #[.int .i64 an,.int .i64 ad]::.agg #[.int .i64 bn,.int .i64 bd]::.pointer (some ⟨w.heap.size,0,none⟩)::.pointer (some ⟨Bb,0,none⟩)::u4::u5::u6::u7::u8::u9::u10::u11::u12::u13::u14::u15::u16::u17::u18::u19::u20::u21::u22::u23::u24::u25::u26::u27::u28::u29::u30::u31::u32::u33::u34::u35::u36::u37::u38::u39::u40::u41::u42::u43::u44::u45::u46::[]),[]⟩ wx):
  Code.wp Tryz.prog (ARm 1) (Exit.then K Q0) ⟨List.toArray (.agg #[.int .i64 an,.int .i64 ad]::.agg #[.int .i64 bn,.int .i64 bd]::.pointer (some ⟨w.heap.size,0,none⟩)::.pointer (some ⟨Bb,0,none⟩)::u4::u5::u6::u7::u8::u9::u10::u11::u12::u13::u14::u15::u16::u17::u18::u19::u20::u21::u22::u23::u24::u25::u26::u27::u28::u29::u30::u31::u32::u33::u34::u35::u36::u37::u38::u39::u40::u41::u42::u43::u44::u45::u46::[]),[]⟩ W0:=by
 conv=>arg 2;whnf
 have hbr:=Below.refl W0.heap.size W0;have hbd:=hbr.drew
 go_cut [5,6]from 7 (fun v5 v6 wx=>∃B C:Nat,v5=.pointer (some ⟨B,0,none⟩)∧v6=.pointer (some ⟨C,0,none⟩)∧AEf W0 B C xh xl yh yl wx)
 case first=>
  go_region_held3 (fun w'=>Below W0.heap.size W0 w'∧w'.cell? ⟨w.heap.size,0,none⟩=some (.int .i64 an)∧w'.cell? ⟨w.heap.size,1,none⟩=some (.int .i64 ad)∧w'.cell? ⟨Bb,0,none⟩=some (.int .i64 bn)∧w'.cell? ⟨Bb,1,none⟩=some (.int .i64 bd))
   (first | exact HS.out _ hbd | (go_split_ands;refine HS.out _ ?_;repeat' (first | assumption | apply Aw | apply Below.drew | (refine Ad _ _ ?_ nr) | (refine Ad _ _ ?_ (Nat.le_succ _)) | (refine Ad _ _ ?_ (Below.size (by assumption))) | (refine Ad _ _ ?_ (Nat.le_succ_of_le (Below.size (by assumption)))))))
   (first
    | (go_at_call 67;go_split_ands;go_fit (Z1.out _);rintro e y0 ⟨rfl,rfl⟩)
    | (go_at_call 67;go_split_ands;go_fit (Z2.out _);rintro e y0 ⟨rfl,rfl⟩)
    | (go_at_call 67;go_split_ands;go_fit (Z3.out _);rintro e y0 ⟨rfl,rfl⟩)
    | (go_at_call 67;go_split_ands;go_fit (Z4.out _);rintro e y0 ⟨rfl,rfl⟩)
    | (go_at_call 71;go_split_ands;go_fit (X1.out _);rintro e w4 ⟨rfl,hb4⟩;have hb5:=Av (wr:=W0) (by assumption) hb4;(first | (have hq:=AUc hb4;obtain⟨⟨c0,c1,c2,c3,c4⟩,⟨d0,d1,d2,d3,d4⟩⟩:=hq) | (have hq:=ATg hb4;obtain⟨c0,c1,c2,c3,c4⟩:=hq) | skip))
    | (go_at_call 71;go_split_ands;go_fit (X2.out _);rintro e w5 ⟨rfl,hb6⟩;have hb7:=Av (wr:=W0) (by assumption) hb6;have hv:Below w4.heap.size w4 w5:=(by first | exact hb6 | exact(Aa _ _).trans (hb6.mono (by simp)) | exact((Aa _ _).alloc (by simp) _).trans (hb6.mono (by simp<;>omega)));(first | (have hq:=ASr hb6;obtain⟨⟨e0,e1,e2,e3,e4⟩,⟨f0,f1,f2,f3,f4⟩⟩:=hq) | (have hq:=ASv hb6;obtain⟨e0,e1,e2,e3,e4⟩:=hq) | skip);(first | (have hq:=Ts hv ⟨c0,c1,c2,c3,c4⟩;obtain⟨g0,g1,g2,g3,g4⟩:=hq) | skip);(first | (have hq:=Ts hv ⟨d0,d1,d2,d3,d4⟩;obtain⟨h0,h1,h2,h3,h4⟩:=hq) | skip)))
  all_goals go_wp2_with fail
  all_goals go_meet
  all_goals refine⟨_,_,rfl,rfl,?_⟩
  all_goals first
   | (with_reducible refine ASm xh xl yh yl _ ?_);assumption
   | (with_reducible refine(ASm yh yl xh xl _ ?_).swap);assumption
   | (with_reducible refine ASy _ xh xl yh yl _ ?_ ?_ ?_);(next=>assumption);(next=>(refine⟨?_,?_,?_,?_,?_⟩<;>assumption));(next=>(first | exact nr | exact Nat.le_succ _ | exact Below.size (by assumption) | exact Nat.le_succ_of_le (Below.size (by assumption))))
   | (with_reducible refine(ASy _ yh yl xh xl _ ?_ ?_ ?_).swap);(next=>assumption);(next=>(refine⟨?_,?_,?_,?_,?_⟩<;>assumption));(next=>(first | exact nr | exact Nat.le_succ _ | exact Below.size (by assumption) | exact Nat.le_succ_of_le (Below.size (by assumption))))
   | (with_reducible refine AUv _ _ xh xl yh yl ?_ ?_ ?_ ?_ ?_ ?_);(next=>assumption);(next=>(refine⟨?_,?_,?_,?_,?_⟩<;>assumption));(next=>(refine⟨?_,?_,?_,?_,?_⟩<;>assumption));(next=>(first | exact nr | exact Nat.le_succ _ | exact Below.size (by assumption) | exact Nat.le_succ_of_le (Below.size (by assumption))));(next=>(first | exact nr | exact Nat.le_succ _ | exact Below.size (by assumption) | exact Nat.le_succ_of_le (Below.size (by assumption))));(next=>omega)
 case rest=>apply hK;exact hcut
end
section
section
variable {P:Program} {ops:Array Oper} {Q:Exit→Act→World→Prop} {md:Region.Mode} {S:World→Prop}
def Hu(P:Program)(ops:Array Oper)(S:World→Prop)(o:Oper)(v:Value)(a:Act):Prop:=
 Region.wanted o (yielded ops a.tmps)=true∧∃f args,(∀w,S w→(execOp a.eval o).run P w=.ok (.enter f args) w)∧∀w,S w→Calls P f args w fun e w'=>e=.returned v∧w=w'
theorem Hu.step{i:Nat}{o:Oper}{v:Value}{a:Act}(hi:ops[i]? =some o)(hy:Hu P ops S o v a){K:Act→World→Prop}{w:World}(hS:S w)(h:K (a.put o.dst v) w):wpOp P ops Q i K a w:=by
 obtain⟨hw,f,args,hr,hc⟩:=hy;unfold wpOp;rw[hi];simp only[hw,if_true];refine .inl ?_;unfold Oper.wp;rw[hr w hS,Oper.upon_enter];exact Calls.mono (hc w hS) fun e w' ⟨he,hw'⟩=>by subst he;subst hw';exact h
theorem Hu.keep{o o':Oper}{v:Value}{a:Act}(hs:∀cs b,o.op≠.select cs b)(hy:Hu P ops S o v a)(u:Value)(h:∀d,o'.dst=some d→d∉o.looksAt ops):Hu P ops S o v (a.put o'.dst u):=by
 unfold Hu at *;rw[execOp_put o hs a o'.dst u h,wanted_put o a o'.dst u h];exact hy
theorem Hu.pass{j:Nat}{oi oj:Oper}{v:Value}(hj:ops[j]? =some oj)(hap:oi.apart ops oj=true)(hsi:∀cs b,oi.op≠.select cs b)(hsj:∀cs b,oj.op≠.select cs b)
  (hQ:∀c a w,Q (.panic c) (a.put oi.dst v) w→Q (.panic c) a w) {K:Act→World→Prop} {a:Act} {w:World} (hy:Hu P ops S oi v a) (h:wpOp P ops Q j K (a.put oi.dst v) w):
  wpOp P ops Q j (fun a' w'=>Hu P ops S oi v a'∧K (a'.put oi.dst v) w') a w:=by
 obtain⟨n1,n2,n3⟩:=Oper.apart_spec hap;unfold wpOp at *;rw[hj]at h⊢;simp only[wanted_put oj a oi.dst v n1]at h;simp only
 split
 next hw=>
  simp only[hw,if_true]at h;cases h with
  | inr h=>
   obtain⟨g1,g2⟩:=h;unfold Oper.asks at *;rw[execOp_put oj hsj a oi.dst v n1]at g1;exact .inr ⟨g1,g2⟩
  | inl h=>
   refine .inl ?_;unfold Oper.wp at *;rw[execOp_put oj hsj a oi.dst v n1]at h;rcases hr:(execOp a.eval oj).run P w with ⟨n,w'⟩ | ⟨x,w'⟩
   ·rw[hr]at h
    cases n with
    | value u=>
     rw[Oper.upon_value]at *;exact⟨hy.keep hsi u n3,by rw[←Act.put_comm a v u n2];exact h⟩
    | skip=>
     rw[Oper.upon_skip]at *;exact⟨hy.keep hsi undef n3,by rw[←Act.put_comm a v undef n2];exact h⟩
    | defer d=>
     rw[Oper.upon_defer]at *;have hy':Hu P ops S oi v {a with defers:=d::a.defers}:=hy;exact⟨hy'.keep hsi undef n3,by rw[←Act.put_comm _ v undef n2,←Act.put_defers];exact h⟩
    | enter f args=>
     rw[Oper.upon_enter]at *;refine Calls.mono h fun e w'' he=>?_
     cases e with
     | returned u=>exact⟨hy.keep hsi u n3,by rw[←Act.put_comm a v u n2];exact he⟩
     | panicked c=>exact hQ _ _ _ he
     | outgrown=>exact he
    | row row args=>
     rw[Oper.upon_row]at *;exact Rows.mono h fun u w'' he=>⟨hy.keep hsi u n3,by rw[←Act.put_comm a v u n2];exact he⟩
    | _=>simp only[Oper.upon]at h
   ·rw[hr]at h
    cases x<;>simp only[Oper.upon]at h⊢
    case panic u=>exact hQ _ _ _ h
 next hw=>
  simp only[hw]at h;exact⟨hy.keep hsi undef n3,by rw[←Act.put_comm a v undef n2];exact h⟩
theorem Yl{i:Nat}{oi:Oper}{v:Value}(hi:ops[i]? =some oi)(hsel:∀(j:Nat) (o:Oper) cs b,ops[j]? =some o→o.op≠.select cs b)(hQ:∀c a w,Q (.panic c) (a.put oi.dst v) w→Q (.panic c) a w)(fuel:Nat):
  ∀(listed:Array Bool) (a:Act) (w:World),
   (∀j oj,ops[j]? =some oj→j≠i→listed.getD j true=false→(∀e∈oj.after,Region.binds md e=true→e.on≠i)→oi.apart ops oj=true)→
   i∈Region.ready md ops listed→Hu P ops S oi v a→S w→
   wpAnyH P md ops Q S fuel (listed.setIfInBounds i true) (a.put oi.dst v) w→wpAnyH P md ops Q S (fuel+1) listed a w:=by
 induction fuel with
 | zero=>
  intro listed a w _ hr hy hS H;refine⟨fun h=>absurd hr (by rw[h];exact List.not_mem_nil),fun j hj=>?_⟩
  by_cases e:j=i
  ·subst e;exact hy.step hi hS ⟨hS,H⟩
  ·exact absurd (ready_mono hj e) (by rw[H.1];exact List.not_mem_nil)
 | succ fuel ih=>
  intro listed a w hfree hr hy hS H;refine⟨fun h=>absurd hr (by rw[h];exact List.not_mem_nil),fun j hj=>?_⟩
  by_cases e:j=i
  ·subst e;exact hy.step hi hS ⟨hS,H⟩
  ·obtain⟨hun,oj,hoj,hall⟩:=mem_ready.1 hj
   have hno:∀e∈oj.after,Region.binds md e=true→e.on≠i:=fun e he hb q=>by
    have k1:=hall e he hb;have k0:=(mem_ready.1 hr).1;rw[q]at k1
    by_cases l:i<listed.size
    ·simp[l]at k0 k1;rw[k0]at k1;cases k1
    ·simp[Array.getElem?_eq_none (Nat.le_of_not_lt l)]at k1
   have k2:=hy.pass hoj (hfree j oj hoj e hun hno) (fun cs b=>hsel i oi cs b hi) (fun cs b=>hsel j oj cs b hoj) hQ (H.2 j (ready_mono hj e));refine wpOp_mono (fun a' w' h3=>⟨h3.2.1,ih (listed.setIfInBounds j true) a' w' (fun k ok hk hki hku hkn=>?_) (ready_mono hr (Ne.symm e)) h3.1 h3.2.1 ?_⟩) k2
   ·refine hfree k ok hk hki ?_ hkn
    by_cases q:j=k
    ·subst q;exact hun
    ·rwa [getD_set_ne true q]at hku
   ·rw[Array.setIfInBounds_comm _ _ e]
    exact h3.2.2
theorem Gz{i:Nat}{oi:Oper}{v:Value}{fuel:Nat}{listed:Array Bool}{a:Act}{w:World}(hi:ops[i]? =some oi)(hs:Region.noSelect ops=true)(hf:Region.free md ops listed i=true)(hr:(Region.ready md ops listed).contains i=true)
  (hQ:∀c a w,Q (.panic c) (a.put oi.dst v) w→Q (.panic c) a w) (hy:Hu P ops S oi v a) (hS:S w)
  (h:wpAnyH P md ops Q S fuel (listed.setIfInBounds i true) (a.put oi.dst v) w):wpAnyH P md ops Q S (fuel+1) listed a w:=
 Yl hi (Region.noSelect_spec hs) hQ fuel listed a w (Region.free_spec hi hf) (by simpa using hr) hy hS h
end
end
section
open Go.RowKit Go.Shelf
def FC(w:World)(B:Nat)(h l:Int):Prop:=w.cell? ⟨B,0,none⟩=some (.int .u64 h)∧w.cell? ⟨B,1,none⟩=some (.int .u64 l)∧w.frozen? ⟨B,0,none⟩=false∧w.frozen? ⟨B,1,none⟩=false∧B<w.heap.size
theorem FC.carry{W w:World}{B:Nat}{x y:Int}(f:FC W B x y)(h:Below W.heap.size W w):FC w B x y:=
 ⟨ct h f.1 f.2.2.2.2,ct h f.2.1 f.2.2.2.2,(h.frozen (p:=⟨B,0,none⟩) f.2.2.2.2).trans f.2.2.1,(h.frozen (p:=⟨B,1,none⟩) f.2.2.2.2).trans f.2.2.2.1,Nat.lt_of_lt_of_le f.2.2.2.2 h.size⟩
theorem FC.set{w:World}{B:Nat}{x y:Int}(f:FC w B x y)(h l:Int):FC ((w.setCell ⟨B,0,none⟩ (.int .u64 h)).setCell ⟨B,1,none⟩ (.int .u64 l)) B h l:=by
 obtain⟨d0,d1⟩:=Ag (v0:=.int .u64 h) (v1:=.int .u64 l) f.1 f.2.1;exact⟨d0,d1,by simpa using f.2.2.1,by simpa using f.2.2.2.1,by simpa using f.2.2.2.2⟩
theorem FC.other{w:World}{B C:Nat}{x y:Int}(f:FC w C x y)(hne:C≠B)(h l:Int):FC ((w.setCell ⟨B,0,none⟩ (.int .u64 h)).setCell ⟨B,1,none⟩ (.int .u64 l)) C x y:=
 ⟨(Ch hne _ _ _).trans f.1,(Ch hne _ _ _).trans f.2.1,by simpa using f.2.2.1,by simpa using f.2.2.2.1,by simpa using f.2.2.2.2⟩
theorem FC.set1{w:World}{B:Nat}{x y:Int}(f:FC w B x y)(l:Int):FC (w.setCell ⟨B,1,none⟩ (.int .u64 l)) B x l:=
 ⟨(World.cell?_setCell_other _ _ _ _ (fun x=>absurd (congrArg Addr.off x) (by simp))).trans f.1,World.cell?_setCell_same _ _ _ f.2.1,by simpa using f.2.2.1,by simpa using f.2.2.2.1,by simpa using f.2.2.2.2⟩
theorem FC.new(w:World)(t:TypeId):FC (w.alloc (.cells #[.int .u64 0,.int .u64 0] t)) w.heap.size 0 0:=⟨by simp,by simp,by simp,by simp,by simp⟩
end
end Go.Proofs.YtebofaenlhhkaaaGreat
