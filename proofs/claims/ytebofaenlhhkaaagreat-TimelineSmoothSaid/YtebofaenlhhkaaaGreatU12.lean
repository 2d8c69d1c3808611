/-
  THE WALKS of the reference 02 where the high words are 0: Size, Half, Minus, Plus, Less.
-/
import Derived.Laws.Bits64b
import Derived.Lib.ItoaNum
import Derived.Deep.CutBlock
import Derived.Test.YtebofaenlhhkaaaGreatU6
namespace Go.Proofs.YtebofaenlhhkaaaGreat
set_option maxRecDepth 100000
set_option maxHeartbeats 80000000
section
open Go.RowKit Go.Shelf
theorem rsize_any(n:Int)(h1:-9223372036854775808≤n)(h2:n≤9223372036854775807)(w:World):
  Calls Tryz.prog 67 #[.int .i64 n] w fun e w'=>e=.returned (.int .u64 (n.natAbs:Int))∧w=w':=by
 by_cases h:n<0
 ·have e1:IntKind.u64.wrap (-IntKind.u64.wrap n)=(n.natAbs:Int):=by simp only[IntKind.wrap_u64];omega
  have e2:IntKind.u64.wrap (0-IntKind.u64.wrap n)=(n.natAbs:Int):=by simp only[IntKind.wrap_u64];omega
  go_enter Tryz.func67,Tryz.ntmps67
  go_wp2
  go_ret;exact⟨ret_u (by first | exact e1 | exact e2 | omega | rfl),rfl⟩
 ·go_enter Tryz.func67,Tryz.ntmps67
  go_wp2
  go_ret;exact⟨ret_u (by omega),rfl⟩
theorem half_any(a:Int)(a0:0≤a)(a1:a<18446744073709551616)(w:World):
  Calls Tryz.prog 153 #[.agg #[.int .u64 0,.int .u64 a]] w fun e w'=>e=.returned (.agg #[.int .u64 0,.int .u64 (a/2)])∧Below w.heap.size w w':=by
 go_enter Tryz.func153,Tryz.ntmps153
 go_wp2
 refine bodyPost_ret (v:=.agg #[.int .u64 0,.int .u64 (a/2)]) (by simp[results,Tryz.results153,go_sem]) rfl ⟨rfl,?_⟩;exact(below_new _ _).alloc (by simp) _
theorem rminus_any(a b:Int)(a1:a<18446744073709551616)(b0:0≤b)(h:b≤a)(w:World):
  Calls Tryz.prog 154 #[.agg #[.int .u64 0,.int .u64 a],.agg #[.int .u64 0,.int .u64 b]] w fun e w'=>e=.returned (.agg #[.int .u64 0,.int .u64 (a-b)])∧Below w.heap.size w w':=by
 have h':decide (a<b)=false:=dF (by omega);have e1:IntKind.u64.wrap (a-b)=a-b:=by rw[IntKind.wrap_u64];omega
 go_enter Tryz.func154,Tryz.ntmps154
 go_wp2
 refine bodyPost_ret (v:=.agg #[.int .u64 0,.int .u64 (a-b)]) (by simp[results,Tryz.results154,go_sem]) rfl ⟨rfl,?_⟩;exact((below_new _ _).alloc (by simp) _).alloc (by simp;omega) _
theorem rplus_any(a b:Int)(a0:0≤a)(b0:0≤b)(h:a+b<18446744073709551616)(w:World):
  Calls Tryz.prog 155 #[.agg #[.int .u64 0,.int .u64 a],.agg #[.int .u64 0,.int .u64 b]] w fun e w'=>e=.returned (.agg #[.int .u64 0,.int .u64 (a+b)])∧Below w.heap.size w w':=by
 have e1:IntKind.u64.wrap (a+b)=a+b:=by rw[IntKind.wrap_u64];omega
 have h':decide (a+b<a)=false:=dF (by omega)
 go_enter Tryz.func155,Tryz.ntmps155
 go_wp2
 refine bodyPost_ret (v:=.agg #[.int .u64 0,.int .u64 (a+b)]) (by simp[results,Tryz.results155,go_sem]) rfl ⟨rfl,?_⟩;exact((below_new _ _).alloc (by simp) _).alloc (by simp;omega) _
theorem rless_any(a b:Int)(w:World):
  Calls Tryz.prog 72 #[.agg #[.int .u64 0,.int .u64 a],.agg #[.int .u64 0,.int .u64 b]] w fun e w'=>e=.returned (.bool (decide (a<b)))∧Below w.heap.size w w':=by
 go_enter Tryz.func72,Tryz.ntmps72
 go_wp2
 go_ret;exact⟨by simp,(below_new _ _).alloc (by simp) _⟩
theorem half_mul{a b m:Int}(a0:0≤a)(a1:a≤m)(b0:0≤b)(b1:b≤m):0≤a*b∧a*b≤m*m:=⟨Int.mul_nonneg a0 b0,Int.mul_le_mul a1 b1 b0 (by omega)⟩
theorem and_low(x:Int)(h0:0≤x)(h1:x<18446744073709551616):bits .and .u64 x 4294967295=x%4294967296:=by
 obtain⟨n,rfl⟩:=Int.eq_ofNat_of_zero_le h0;have h:=bits_and_u64_nat n 4294967295 (by omega) (by omega);have e:n&&& 4294967295=n%4294967296:=Nat.and_two_pow_sub_one_eq_mod n 32;rw[e]at h;exact h.trans (by omega)

theorem halves{a b m p1 p2 p3 p4 mid oth:Int}(hm:m=4294967296)(h1:p1=a%m*(b%m))(h2:p2=a/m*(b%m))(h3:p3=a%m*(b/m))(h4:p4=a/m*(b/m))(hmid:mid=p2+p1/m)(ho:oth=p3+mid%m):
  a*b=(p4+mid/m+oth/m)*(m*m)+(oth%m*m+p1%m):=by
 have ea:a=m*(a/m)+a%m:=(Int.mul_ediv_add_emod a m).symm;have eb:b=m*(b/m)+b%m:=(Int.mul_ediv_add_emod b m).symm
 have e:a*b=m*(m*p4)+m*p2+m*p3+p1:=by
  rw[h1,h2,h3,h4]
  calc a*b=(m*(a/m)+a%m)*(m*(b/m)+b%m):=by rw[←ea,←eb]
   _=m*(m*(a/m*(b/m)))+m*(a/m*(b%m))+m*(a%m*(b/m))+a%m*(b%m):=by
    rw[Int.add_mul,Int.mul_add,Int.mul_add];have x1:m*(a/m)*(m*(b/m))=m*(m*(a/m*(b/m))):=by ac_rfl
    have x2:m*(a/m)*(b%m)=m*(a/m*(b%m)):=by ac_rfl
    have x3:a%m*(m*(b/m))=m*(a%m*(b/m)):=by ac_rfl
    rw[x1,x2,x3];omega
 rw[e];subst hm;omega

theorem rmul_any(a b:Int)(a0:0≤a)(a1:a<18446744073709551616)(b0:0≤b)(b1:b<18446744073709551616)(w:World):
  Calls Tryz.prog 71 #[.int .u64 a,.int .u64 b] w fun e w'=>e=.returned (.agg #[.int .u64 (a*b/18446744073709551616),.int .u64 (a*b%18446744073709551616)])∧Below w.heap.size w w':=by
 have ha:=and_low a a0 a1;have hb:=and_low b b0 b1;obtain⟨p1,h1⟩:∃p,p=a%4294967296*(b%4294967296):=⟨_,rfl⟩;obtain⟨p2,h2⟩:∃p,p=a/4294967296*(b%4294967296):=⟨_,rfl⟩;obtain⟨p3,h3⟩:∃p,p=a%4294967296*(b/4294967296):=⟨_,rfl⟩;obtain⟨p4,h4⟩:∃p,p=a/4294967296*(b/4294967296):=⟨_,rfl⟩;obtain⟨mid,h5⟩:∃p,p=p2+p1/4294967296:=⟨_,rfl⟩;obtain⟨oth,h6⟩:∃p,p=p3+mid%4294967296:=⟨_,rfl⟩;have c1:=half_mul (a:=a%4294967296) (b:=b%4294967296) (m:=4294967295) (by omega) (by omega) (by omega) (by omega);have c2:=half_mul (a:=a/4294967296) (b:=b%4294967296) (m:=4294967295) (by omega) (by omega) (by omega) (by omega);have c3:=half_mul (a:=a%4294967296) (b:=b/4294967296) (m:=4294967295) (by omega) (by omega) (by omega) (by omega);have c4:=half_mul (a:=a/4294967296) (b:=b/4294967296) (m:=4294967295) (by omega) (by omega) (by omega) (by omega);rw[←h1]at c1;rw[←h2]at c2;rw[←h3]at c3;rw[←h4]at c4;have hH:=halves rfl h1 h2 h3 h4 h5 h6;have u1:IntKind.u64.wrap (a%4294967296*(b%4294967296))=p1:=by rw[←h1,IntKind.wrap_u64];omega
 have u2:IntKind.u64.wrap (a/4294967296*(b%4294967296))=p2:=by rw[←h2,IntKind.wrap_u64];omega
 have u3:IntKind.u64.wrap (a%4294967296*(b/4294967296))=p3:=by rw[←h3,IntKind.wrap_u64];omega
 have u4:IntKind.u64.wrap (a/4294967296*(b/4294967296))=p4:=by rw[←h4,IntKind.wrap_u64];omega
 have u5:IntKind.u64.wrap (p2+p1/4294967296)=mid:=by rw[←h5,IntKind.wrap_u64];omega
 have u6:=and_low mid (by omega) (by omega);have u7:IntKind.u64.wrap (p3+mid%4294967296)=oth:=by rw[←h6,IntKind.wrap_u64];omega
 have hab:=half_mul (m:=18446744073709551615) a0 (show a≤_ by omega) b0 (show b≤_ by omega);have q1:p4+mid/4294967296+oth/4294967296=a*b/18446744073709551616:=by omega
 have q2:oth%4294967296*4294967296+p1%4294967296=a*b%18446744073709551616:=by omega
 obtain⟨H,hHH⟩:=nm (a*b/18446744073709551616);obtain⟨L,hLL⟩:=nm (a*b%18446744073709551616);rw[hHH,hLL];rw[hHH]at q1;rw[hLL]at q2;have u8:IntKind.u64.wrap (p4+mid/4294967296)=p4+mid/4294967296:=by rw[IntKind.wrap_u64];omega
 have u9:IntKind.u64.wrap (p4+mid/4294967296+oth/4294967296)=H:=by rw[IntKind.wrap_u64];omega
 have v1:=and_low p1 (by omega) (by omega);have v2:IntKind.u64.wrap (oth*4294967296)=oth%4294967296*4294967296:=by rw[IntKind.wrap_u64];omega
 have v3:IntKind.u64.wrap (oth%4294967296*4294967296+p1%4294967296)=L:=by rw[IntKind.wrap_u64];omega
 clear h1 h2 h3 h4 h5 h6 c1 c2 c3 c4 hH hab q1 q2 hHH hLL
 go_enter Tryz.func71,Tryz.ntmps71
 go_wp2_with fail
 refine bodyPost_ret (v:=.agg #[.int .u64 H,.int .u64 L]) (by simp[results,Tryz.results71,go_sem]) rfl ⟨rfl,?_⟩;exact below_new _ _
def NewU(w:World)(b:Nat):Prop:=w.cell? ⟨b,0,none⟩=some (.int .u64 0)∧w.cell? ⟨b,1,none⟩=some (.int .u64 0)∧w.frozen? ⟨b,0,none⟩=false∧w.frozen? ⟨b,1,none⟩=false∧b<w.heap.size
theorem ucarry{W w:World}{b:Nat}(h:Below W.heap.size W w)(f:NewU W b):NewU w b:=
 ⟨(h.cell (p:=⟨b,0,none⟩) f.2.2.2.2).trans f.1,(h.cell (p:=⟨b,1,none⟩) f.2.2.2.2).trans f.2.1,(h.frozen (p:=⟨b,0,none⟩) f.2.2.2.2).trans f.2.2.1,(h.frozen (p:=⟨b,1,none⟩) f.2.2.2.2).trans f.2.2.2.1,Nat.lt_of_lt_of_le f.2.2.2.2 h.size⟩
theorem unew(W:World)(ty:TypeId):NewU (W.alloc (.cells #[.int .u64 0,.int .u64 0] ty)) W.heap.size:=⟨by simp,by simp,by simp,by simp,by simp⟩
theorem unew1{W w:World}{ty:TypeId}(h:Below (W.alloc (.cells #[.int .u64 0,.int .u64 0] ty)).heap.size (W.alloc (.cells #[.int .u64 0,.int .u64 0] ty)) w):NewU w W.heap.size:=ucarry h (unew W ty)
theorem unew2{W w:World}{ty:TypeId}(h:Below ((W.alloc (.cells #[.int .u64 0,.int .u64 0] ty)).alloc (.cells #[.int .u64 0,.int .u64 0] ty)).heap.size ((W.alloc (.cells #[.int .u64 0,.int .u64 0] ty)).alloc (.cells #[.int .u64 0,.int .u64 0] ty)) w):NewU w W.heap.size∧NewU w (W.heap.size+1):=
 ⟨ucarry h (ucarry (below_new _ _) (unew W ty)),by have:=ucarry h (unew (W.alloc (.cells #[.int .u64 0,.int .u64 0] ty)) ty);rwa [World.size_alloc]at this⟩
theorem unew1D{W w:World}{ty:TypeId}(h:Below (W.alloc (.cells #[.int .u64 0,.int .u64 0] ty)).drew.heap.size (W.alloc (.cells #[.int .u64 0,.int .u64 0] ty)).drew w):NewU w W.heap.size:=unew1 (ty:=ty) ⟨h.os,h.tape,h.output,h.size,h.block⟩
theorem unew2D{W w:World}{ty:TypeId}(h:Below ((W.alloc (.cells #[.int .u64 0,.int .u64 0] ty)).alloc (.cells #[.int .u64 0,.int .u64 0] ty)).drew.heap.size ((W.alloc (.cells #[.int .u64 0,.int .u64 0] ty)).alloc (.cells #[.int .u64 0,.int .u64 0] ty)).drew w):NewU w W.heap.size∧NewU w (W.heap.size+1):=unew2 (ty:=ty) ⟨h.os,h.tape,h.output,h.size,h.block⟩
def FU(w:World)(B:Nat)(n d:Int):Prop:=w.cell? ⟨B,0,none⟩=some (.int .u64 n)∧w.cell? ⟨B,1,none⟩=some (.int .u64 d)
def RelU(W0:World)(B C:Nat)(x' x y' y:Int)(wx:World):Prop:=Below W0.heap.size W0 wx∧FU wx B x' x∧FU wx C y' y
theorem RelU.swap{W0:World}{B C:Nat}{x' x y' y:Int}{wx:World}(h:RelU W0 B C x' x y' y wx):RelU W0 C B y' y x' x wx:=⟨h.1,h.2.2,h.2.1⟩
theorem relU1{W0 w:World}(x' x y' y:Int)(t:TypeId)(h:Below W0.heap.size W0 w):RelU W0 w.heap.size (w.heap.size+1) x' x y' y ((w.alloc (.cells #[.int .u64 x',.int .u64 x] t)).alloc (.cells #[.int .u64 y',.int .u64 y] t)):=
 ⟨below_a _ (below_a _ h),⟨by simp,by simp⟩,⟨by simp,by simp⟩⟩
theorem relU2{W0 w:World}(B:Nat)(x' x y' y:Int)(t:TypeId)(h:Below W0.heap.size W0 w)(f:NewU w B)(hB:W0.heap.size≤B):RelU W0 B w.heap.size x' x y' y (((w.setCell ⟨B,0,none⟩ (.int .u64 x')).setCell ⟨B,1,none⟩ (.int .u64 x)).alloc (.cells #[.int .u64 y',.int .u64 y] t)):=by
 obtain⟨c0,c1⟩:=two_cells (v0:=.int .u64 x') (v1:=.int .u64 x) f.1 f.2.1;have hl:B<((w.setCell ⟨B,0,none⟩ (.int .u64 x')).setCell ⟨B,1,none⟩ (.int .u64 x)).heap.size:=by simpa using f.2.2.2.2
 have hs:((w.setCell ⟨B,0,none⟩ (.int .u64 x')).setCell ⟨B,1,none⟩ (.int .u64 x)).heap.size=w.heap.size:=by simp
 refine⟨below_a _ (below_s ⟨B,1,none⟩ _ (below_s ⟨B,0,none⟩ _ h hB) hB),⟨(World.cell?_alloc_lt _ _ _ hl).trans c0,(World.cell?_alloc_lt _ _ _ hl).trans c1⟩,?_⟩;have:=new_cells ((w.setCell ⟨B,0,none⟩ (.int .u64 x')).setCell ⟨B,1,none⟩ (.int .u64 x)) (.int .u64 y') (.int .u64 y) t
 rwa [hs]at this
theorem relU3{W0 w:World}(B C:Nat)(x' x y' y:Int)(h:Below W0.heap.size W0 w)(f:NewU w B)(f':NewU w C)(hB:W0.heap.size≤B)(hC:W0.heap.size≤C)(hne:B≠C):RelU W0 B C x' x y' y ((((w.setCell ⟨B,0,none⟩ (.int .u64 x')).setCell ⟨B,1,none⟩ (.int .u64 x)).setCell ⟨C,0,none⟩ (.int .u64 y')).setCell ⟨C,1,none⟩ (.int .u64 y)):=by
 obtain⟨c0,c1⟩:=two_cells (v0:=.int .u64 x') (v1:=.int .u64 x) f.1 f.2.1;obtain⟨d0,d1⟩:=two_cells (w:=(w.setCell ⟨B,0,none⟩ (.int .u64 x')).setCell ⟨B,1,none⟩ (.int .u64 x)) (B:=C) (v0:=.int .u64 y') (v1:=.int .u64 y) ((two_other (Ne.symm hne) _ _ _).trans f'.1) ((two_other (Ne.symm hne) _ _ _).trans f'.2.1);exact⟨below_s ⟨C,1,none⟩ _ (below_s ⟨C,0,none⟩ _ (below_s ⟨B,1,none⟩ _ (below_s ⟨B,0,none⟩ _ h hB) hB) hC) hC,⟨(two_other hne _ _ _).trans c0,(two_other hne _ _ _).trans c1⟩,⟨d0,d1⟩⟩

def lessU(ah al bh bl:Int):Bool:=decide (ah<bh)||(ah==bh&&decide (al<bl))
theorem rlessU_any(ah al bh bl:Int)(w:World):
  Calls Tryz.prog 72 #[.agg #[.int .u64 ah,.int .u64 al],.agg #[.int .u64 bh,.int .u64 bl]] w fun e w'=>e=.returned (.bool (lessU ah al bh bl))∧Below w.heap.size w w':=by
 by_cases h1:ah<bh
 ·have h1':decide (ah<bh)=true:=decide_eq_true h1
  have HR:Hid (lessU ah al bh bl=true):=lh (by unfold lessU;rw[h1'];rfl);rw[HR.out];clear h1
  go_enter Tryz.func72,Tryz.ntmps72
  go_wp2
  go_ret;exact⟨by simp,(below_new _ _).alloc (by simp) _⟩
 ·have h1':decide (ah<bh)=false:=decide_eq_false h1
  by_cases h2:ah=bh
  ·have h2':(ah==bh)=true:=by simpa using h2
   have HR:Hid (lessU ah al bh bl=decide (al<bl)):=lh (by unfold lessU;rw[h1',h2'];rfl);rw[HR.out];clear h1 h2
   go_enter Tryz.func72,Tryz.ntmps72
   go_wp2
   go_ret;exact⟨by simp,(below_new _ _).alloc (by simp) _⟩
  ·have h2':(ah==bh)=false:=by simpa using h2
   have HR:Hid (lessU ah al bh bl=false):=lh (by unfold lessU;rw[h1',h2'];rfl);rw[HR.out];clear h1 h2
   go_enter Tryz.func72,Tryz.ntmps72
   go_wp2
   go_ret;exact⟨by simp,(below_new _ _).alloc (by simp) _⟩
theorem lessU_of(x y:Int):lessU (x/18446744073709551616) (x%18446744073709551616) (y/18446744073709551616) (y%18446744073709551616)=decide (x<y):=by
 unfold lessU;rw[Bool.eq_iff_iff]
 simp
 omega

def cmpP(x y:Int):Int:=if x=y then 0 else if x<y then -1 else 1

def regionIn(n:Nat):Code→Option Code
 | .region k xs b=>bif Nat.beq k n then some (.region k xs b)else none
 | .seq a b=>match regionIn n a with
  | some c=>some c
  | none=>regionIn n b
 | .loop c=>regionIn n c
 | .block _ c=>regionIn n c
 | .scope c=>regionIn n c
 | .cond _ a b=>match regionIn n a with
  | some c=>some c
  | none=>regionIn n b
 | _=>none
noncomputable def cmpCode(n:Nat):Code:=((Tryz.f40.body.bind (regionIn n)).getD .skip)

set_option maxRecDepth 1000000 in
theorem rcmp1{an ad bn bd xh xl yh yl:Int}{w:World}{Bb:Nat}{W0:World}{u4 u5 u6 u7 u8 u9 u10 u11 u12 u13 u14 u15 u16 u17 u18 u19 u20 u21 u22 u23 u24 u25 u26 u27 u28 u29 u30 u31 u32 u33 u34 u35 u36 u37 u38 u39 u40 u41 u42 u43 u44 u45 u46:Value}{K:Act→World→Prop}{Q0:Exit→Act→World→Prop}
  (HS:Hid (∀w',Below W0.heap.size W0 w'→Below W0.heap.size W0 w'∧w'.cell? ⟨w.heap.size,0,none⟩=some (.int .i64 an)∧w'.cell? ⟨w.heap.size,1,none⟩=some (.int .i64 ad)∧w'.cell? ⟨Bb,0,none⟩=some (.int .i64 bn)∧w'.cell? ⟨Bb,1,none⟩=some (.int .i64 bd))) (Z1:Hid (∀w:World,Calls Tryz.prog 67 #[.int .i64 an] w fun e w'=>e=.returned (.int .u64 an)∧w=w')) (Z2:Hid (∀w:World,Calls Tryz.prog 67 #[.int .i64 ad] w fun e w'=>e=.returned (.int .u64 ad)∧w=w')) (Z3:Hid (∀w:World,Calls Tryz.prog 67 #[.int .i64 bn] w fun e w'=>e=.returned (.int .u64 bn)∧w=w')) (Z4:Hid (∀w:World,Calls Tryz.prog 67 #[.int .i64 bd] w fun e w'=>e=.returned (.int .u64 bd)∧w=w')) (X1:Hid (∀w:World,Calls Tryz.prog 71 #[.int .u64 an,.int .u64 bd] w fun e w'=>e=.returned (.agg #[.int .u64 xh,.int .u64 xl])∧Below w.heap.size w w')) (X2:Hid (∀w:World,Calls Tryz.prog 71 #[.int .u64 bn,.int .u64 ad] w fun e w'=>e=.returned (.agg #[.int .u64 yh,.int .u64 yl])∧Below w.heap.size w w'))
  (hK:∀(u5 u6 u7 u8 u9 u10 u11 u12 u13 u14 u15 u16 u17 u18 u19 u20 u21 u22 u23 u24 u25 u26 u27 u28 u29 u30 u31 u32 u33 u34 u35 u36 u37 u38 u39 u40 u41 u42 u43 u44 u45 u46:Value) (wx:World),((fun v5 v6 wx=>∃B C:Nat,v5=.pointer (some ⟨B,0,none⟩)∧v6=.pointer (some ⟨C,0,none⟩)∧RelU W0 B C xh xl yh yl wx) u5 u6 wx)→K ⟨List.toArray (.agg #[.int .i64 an,.int .i64 ad]::.agg #[.int .i64 bn,.int .i64 bd]::.pointer (some ⟨w.heap.size,0,none⟩)::.pointer (some ⟨Bb,0,none⟩)::u4::u5::u6::u7::u8::u9::u10::u11::u12::u13::u14::u15::u16::u17::u18::u19::u20::u21::u22::u23::u24::u25::u26::u27::u28::u29::u30::u31::u32::u33::u34::u35::u36::u37::u38::u39::u40::u41::u42::u43::u44::u45::u46::[]),[]⟩ wx):
  Code.wp Tryz.prog (cmpCode 1) (Exit.then K Q0) ⟨List.toArray (.agg #[.int .i64 an,.int .i64 ad]::.agg #[.int .i64 bn,.int .i64 bd]::.pointer (some ⟨w.heap.size,0,none⟩)::.pointer (some ⟨Bb,0,none⟩)::u4::u5::u6::u7::u8::u9::u10::u11::u12::u13::u14::u15::u16::u17::u18::u19::u20::u21::u22::u23::u24::u25::u26::u27::u28::u29::u30::u31::u32::u33::u34::u35::u36::u37::u38::u39::u40::u41::u42::u43::u44::u45::u46::[]),[]⟩ W0:=by
 conv=>arg 2;whnf
 have hbr:=Below.refl W0.heap.size W0;have hbd:=hbr.drew
 go_cut [5,6]from 7 (fun v5 v6 wx=>∃B C:Nat,v5=.pointer (some ⟨B,0,none⟩)∧v6=.pointer (some ⟨C,0,none⟩)∧RelU W0 B C xh xl yh yl wx)
 case first=>
  go_region_held3 (fun w'=>Below W0.heap.size W0 w'∧w'.cell? ⟨w.heap.size,0,none⟩=some (.int .i64 an)∧w'.cell? ⟨w.heap.size,1,none⟩=some (.int .i64 ad)∧w'.cell? ⟨Bb,0,none⟩=some (.int .i64 bn)∧w'.cell? ⟨Bb,1,none⟩=some (.int .i64 bd))
   (first | exact HS.out _ hbd | (go_split_ands;refine HS.out _ ?_;repeat' (first | assumption | apply below_a | apply Below.drew | (refine below_s _ _ ?_ (Nat.le_refl _)) | (refine below_s _ _ ?_ (Nat.le_succ _)) | (refine below_s _ _ ?_ (Below.size (by assumption))) | (refine below_s _ _ ?_ (Nat.le_succ_of_le (Below.size (by assumption)))))))
   (first
    | (go_at_call 67;go_split_ands;(with_reducible refine(Z1.out _).mono ?_);rintro e y0 ⟨rfl,rfl⟩)
    | (go_at_call 67;go_split_ands;(with_reducible refine(Z2.out _).mono ?_);rintro e y0 ⟨rfl,rfl⟩)
    | (go_at_call 67;go_split_ands;(with_reducible refine(Z3.out _).mono ?_);rintro e y0 ⟨rfl,rfl⟩)
    | (go_at_call 67;go_split_ands;(with_reducible refine(Z4.out _).mono ?_);rintro e y0 ⟨rfl,rfl⟩)
    | (go_at_call 71;go_split_ands;(with_reducible refine(X1.out _).mono ?_);rintro e w4 ⟨rfl,hb4⟩;have hb5:=held_next (wr:=W0) (by assumption) hb4;(first | (have hq:=unew2D hb4;obtain⟨⟨c0,c1,c2,c3,c4⟩,⟨d0,d1,d2,d3,d4⟩⟩:=hq) | (have hq:=unew1D hb4;obtain⟨c0,c1,c2,c3,c4⟩:=hq) | skip))
    | (go_at_call 71;go_split_ands;(with_reducible refine(X2.out _).mono ?_);rintro e w5 ⟨rfl,hb6⟩;have hb7:=held_next (wr:=W0) (by assumption) hb6;have hv:Below w4.heap.size w4 w5:=(by first | exact hb6 | exact(below_new _ _).trans (hb6.mono (by simp)) | exact((below_new _ _).alloc (by simp) _).trans (hb6.mono (by simp<;>omega)));(first | (have hq:=unew2 hb6;obtain⟨⟨e0,e1,e2,e3,e4⟩,⟨f0,f1,f2,f3,f4⟩⟩:=hq) | (have hq:=unew1 hb6;obtain⟨e0,e1,e2,e3,e4⟩:=hq) | skip);(first | (have hq:=ucarry hv ⟨c0,c1,c2,c3,c4⟩;obtain⟨g0,g1,g2,g3,g4⟩:=hq) | skip);(first | (have hq:=ucarry hv ⟨d0,d1,d2,d3,d4⟩;obtain⟨h0,h1,h2,h3,h4⟩:=hq) | skip)))
  all_goals go_wp2_with fail
  all_goals go_meet
  all_goals refine⟨_,_,rfl,rfl,?_⟩
  all_goals first
   | (with_reducible refine relU1 xh xl yh yl _ ?_);assumption
   | (with_reducible refine(relU1 yh yl xh xl _ ?_).swap);assumption
   | (with_reducible refine relU2 _ xh xl yh yl _ ?_ ?_ ?_);(next=>assumption);(next=>(refine⟨?_,?_,?_,?_,?_⟩<;>assumption));(next=>(first | exact Nat.le_refl _ | exact Nat.le_succ _ | exact Below.size (by assumption) | exact Nat.le_succ_of_le (Below.size (by assumption))))
   | (with_reducible refine(relU2 _ yh yl xh xl _ ?_ ?_ ?_).swap);(next=>assumption);(next=>(refine⟨?_,?_,?_,?_,?_⟩<;>assumption));(next=>(first | exact Nat.le_refl _ | exact Nat.le_succ _ | exact Below.size (by assumption) | exact Nat.le_succ_of_le (Below.size (by assumption))))
   | (with_reducible refine relU3 _ _ xh xl yh yl ?_ ?_ ?_ ?_ ?_ ?_);(next=>assumption);(next=>(refine⟨?_,?_,?_,?_,?_⟩<;>assumption));(next=>(refine⟨?_,?_,?_,?_,?_⟩<;>assumption));(next=>(first | exact Nat.le_refl _ | exact Nat.le_succ _ | exact Below.size (by assumption) | exact Nat.le_succ_of_le (Below.size (by assumption))));(next=>(first | exact Nat.le_refl _ | exact Nat.le_succ _ | exact Below.size (by assumption) | exact Nat.le_succ_of_le (Below.size (by assumption))));(next=>omega)
 case rest=>apply hK;exact hcut
end
section
section
variable {u y1 y0 d:Int}
theorem dig_mul(k y1 y0:Int):k*(y1*4294967296+y0)=k*y1*4294967296+k*y0:=by rw[Int.mul_add,Int.mul_assoc]
theorem dig_lt(hy:0<y1*4294967296+y0)(hu:u<y1*4294967296+y0)(d1:d<4294967296):(u*4294967296+d)/(y1*4294967296+y0)<4294967296:=by
 refine Int.ediv_lt_of_lt_mul hy ?_;generalize y1*4294967296+y0=y at *;omega
theorem dig_nonneg(hy:0<y1*4294967296+y0)(u0:0≤u)(d0:0≤d):0≤(u*4294967296+d)/(y1*4294967296+y0):=Int.ediv_nonneg (by omega) (by omega)
theorem dig_start(h1:2147483648≤y1)(h2:0≤y0)(h3:y0<4294967296)(u0:0≤u)(hu:u<y1*4294967296+y0)(d0:0≤d)(d1:d<4294967296):
  (u*4294967296+d)/(y1*4294967296+y0)≤u/y1∧u/y1≤4294967297∧0≤u-u/y1*y1∧u-u/y1*y1<y1:=by
 have hy:0<y1*4294967296+y0:=by omega
 refine⟨?_,?_,?_,?_⟩
 ·rw[Int.le_ediv_iff_mul_le (by omega)]
  have a:=Int.ediv_mul_le (u*4294967296+d) (show y1*4294967296+y0≠0 by omega);have b:=dig_nonneg (y1:=y1) (y0:=y0) hy u0 d0;rw[dig_mul]at a;generalize (u*4294967296+d)/(y1*4294967296+y0)=q at *;have c:=Int.mul_nonneg b h2;generalize q*y1=P at *;generalize q*y0=R at *;omega
 ·have:u/y1<4294967298:=Int.ediv_lt_of_lt_mul (by omega) (by omega)
  omega
 ·have:=Int.ediv_mul_le u (show y1≠0 by omega)
  omega
 ·have:=Int.lt_ediv_add_one_mul_self u (show 0<y1 by omega)
  rw[Int.add_mul,Int.one_mul]at this;omega
structure Dig(u y1 y0 d k r:Int):Prop where
 rest:r=u-k*y1
 low:(u*4294967296+d)/(y1*4294967296+y0)≤k
 high:k≤4294967297
 pos:0≤r
 less:r<4294967296
theorem Dig.start(h1:2147483648≤y1)(h1':y1<4294967296)(h2:0≤y0)(h3:y0<4294967296)(u0:0≤u)(hu:u<y1*4294967296+y0)(d0:0≤d)(d1:d<4294967296):Dig u y1 y0 d (u/y1) (u-u/y1*y1):=by
 obtain⟨a,b,c,e⟩:=dig_start h1 h2 h3 u0 hu d0 d1;exact⟨rfl,a,b,c,by omega⟩
theorem Dig.pred{k r:Int}(h:Dig u y1 y0 d k r)(hy:0<y1*4294967296+y0)(hu:u<y1*4294967296+y0)(d1:d<4294967296)(hc:4294967296≤k∨4294967296*r+d<k*y0):(u*4294967296+d)/(y1*4294967296+y0)≤k-1:=by
 rcases hc with hc | hc
 ·have:=dig_lt hy hu d1
  omega
 ·have:(u*4294967296+d)/(y1*4294967296+y0)<k:=by
   refine Int.ediv_lt_of_lt_mul hy ?_;rw[dig_mul];have:=h.rest;generalize k*y1=P at *;generalize k*y0=R at *;omega
  omega
theorem Dig.next{k r:Int}(h:Dig u y1 y0 d k r)(h1:0<y1)(hy:0<y1*4294967296+y0)(hu:u<y1*4294967296+y0)(d1:d<4294967296)(hc:4294967296≤k∨4294967296*r+d<k*y0)(hr:r+y1<4294967296):Dig u y1 y0 d (k-1) (r+y1):=by
 refine⟨?_,h.pred hy hu d1 hc,?_,?_,hr⟩
 ·have:=h.rest
  rw[Int.sub_mul,Int.one_mul];omega
 ·have:=h.high;omega
 ·have:=h.pos;omega
theorem Dig.done{k r:Int}(h:Dig u y1 y0 d k r)(hy:0<y1*4294967296+y0)(hc:k*y0≤4294967296*r+d):k=(u*4294967296+d)/(y1*4294967296+y0):=by
 refine Int.le_antisymm ?_ h.low;rw[Int.le_ediv_iff_mul_le hy,dig_mul];have:=h.rest;generalize k*y1=P at *;generalize k*y0=R at *;omega
theorem Dig.out{k r:Int}(h:Dig u y1 y0 d k r)(hy:0<y1*4294967296+y0)(hu:u<y1*4294967296+y0)(h2:0≤y0)(h3:y0<4294967296)(d0:0≤d)(d1:d<4294967296)(hc:4294967296≤k∨4294967296*r+d<k*y0)(hr:4294967296≤r+y1):k-1=(u*4294967296+d)/(y1*4294967296+y0):=by
 have hp:=h.pred hy hu d1 hc;have hh:=h.high;have hrest:r+y1=u-(k-1)*y1:=by rw[Int.sub_mul,Int.one_mul,h.rest];omega
 refine Int.le_antisymm ?_ hp;rw[Int.le_ediv_iff_mul_le hy]
 have hk:k-1≤4294967295:=by
  rcases(show k-1≤4294967295∨k-1=4294967296 by omega)with e | e
  ·exact e
  ·rw[e]at hrest;omega
 have hm:(k-1)*y0≤4294967295*4294967295:=Int.mul_le_mul hk (by omega) h2 (by omega);rw[dig_mul];generalize (k-1)*y1=P at *;generalize (k-1)*y0=R at *;omega
theorem Dig.small{k r:Int}(h:Dig u y1 y0 d k r)(hk:0≤k)(h2:0≤y0)(h3:y0<4294967296)(d0:0≤d)(d1:d<4294967296):0≤k*y0∧k*y0<18446744073709551616∧0≤4294967296*r+d∧4294967296*r+d<18446744073709551616:=by
 have h4:=h.high;have h5:=h.pos;have h6:=h.less;have a:=Int.mul_nonneg hk h2;have b:k*y0≤4294967297*4294967295:=Int.mul_le_mul h4 (by omega) h2 (by omega);generalize k*y0=R at *;omega
end
theorem two_digits{N v s y u32 u1 u0 q1 u21 q0 r:Int}(hs:0<s)(hv:0<v)(hy:y=v*s)(hN:N*s=(u32*4294967296+u1)*4294967296+u0)
  (h1:q1=(u32*4294967296+u1)/y) (h2:u21=(u32*4294967296+u1)%y) (h3:q0=(u21*4294967296+u0)/y) (h4:r=(u21*4294967296+u0)%y):
  q1*4294967296+q0=N/v∧r/s=N%v:=by
 have hy0:0<y:=by rw[hy];exact Int.mul_pos hv hs
 have e1:=Int.mul_ediv_add_emod (u32*4294967296+u1) y;have e2:=Int.mul_ediv_add_emod (u21*4294967296+u0) y;rw[←h1,←h2]at e1;rw[←h3,←h4]at e2;have b1:=Int.emod_nonneg (u21*4294967296+u0) (show y≠0 by omega);have b2:=Int.emod_lt_of_pos (u21*4294967296+u0) hy0;rw[←h4]at b1 b2
 have eM:N*s=r+y*(q1*4294967296+q0):=by
  rw[hN,Int.mul_add,←Int.mul_assoc];generalize y*q1=A at *;generalize y*q0=C at *;omega
 have d1:(N*s)/y=q1*4294967296+q0:=by
  rw[eM,Int.add_mul_ediv_left _ _ (by omega),Int.ediv_eq_zero_of_lt b1 b2,Int.zero_add]
 have d2:(N*s)%y=r:=by
  rw[eM,Int.add_mul_emod_self_left,Int.emod_eq_of_lt b1 b2]
 rw[hy]at d1 d2;rw[Int.mul_ediv_mul_of_pos_left _ _ hs]at d1;rw[Int.mul_comm N s,Int.mul_comm v s,Int.mul_emod_mul_of_pos _ _ hs]at d2;refine⟨d1.symm,?_⟩;rw[←d2,Int.mul_ediv_cancel_left _ (by omega)]
end
section
open Go.RowKit
theorem pow_split{s:Nat}(hs:s≤64):(2:Int)^s*2^(64-s)=18446744073709551616:=by
 rw[←Int.pow_add,show s+(64-s)=64 by omega]
 rfl
section
variable {hi lo v P Q:Int}
theorem norm_hi(hP:0<P)(h0:0≤hi)(h1:hi<v):0≤hi*P∧hi*P+P≤v*P:=by
 refine⟨Int.mul_nonneg h0 (by omega),?_⟩;have:(hi+1)*P≤v*P:=Int.mul_le_mul_of_nonneg_right (by omega) (by omega);rw[Int.add_mul,Int.one_mul]at this;exact this
theorem norm_lo(hP:0<P)(hQ:0<Q)(hPQ:P*Q=18446744073709551616)(l0:0≤lo)(l1:lo<18446744073709551616):0≤lo/Q∧lo/Q<P∧lo*P=lo/Q*18446744073709551616+lo*P%18446744073709551616:=by
 have a:0≤lo/Q:=Int.ediv_nonneg l0 (by omega);have b:lo/Q<P:=Int.ediv_lt_of_lt_mul hQ (by rw[hPQ];exact l1);refine⟨a,b,?_⟩
 have e:lo*P=lo/Q*(P*Q)+lo%Q*P:=by
  have e1:=Int.mul_ediv_add_emod lo Q
  calc lo*P=(Q*(lo/Q)+lo%Q)*P:=by rw[e1]
   _=lo/Q*(P*Q)+lo%Q*P:=by
    rw[Int.add_mul]
    congr 1
    ac_rfl
 have c:0≤lo%Q*P:=Int.mul_nonneg (Int.emod_nonneg _ (by omega)) (by omega);have d:lo%Q*P<Q*P:=Int.mul_lt_mul_of_pos_right (Int.emod_lt_of_pos _ hQ) hP;rw[Int.mul_comm Q P,hPQ]at d;rw[hPQ]at e;omega
theorem norm_all(hP:0<P)(hQ:0<Q)(hPQ:P*Q=18446744073709551616)(l0:0≤lo)(l1:lo<18446744073709551616):
  (hi*18446744073709551616+lo)*P=((hi*P+lo/Q)*4294967296+lo*P%18446744073709551616/4294967296)*4294967296+lo*P%18446744073709551616%4294967296:=by
 have h:=(norm_lo hP hQ hPQ l0 l1).2.2;rw[Int.add_mul,h,show hi*18446744073709551616*P=hi*P*18446744073709551616 by ac_rfl];generalize hi*P=A;generalize lo/Q=C;generalize lo*P=D;omega
end
theorem or_join(a r:Int)(s:Nat)(a0:0≤a)(r0:0≤r)(r1:r<2^s)(h:a*2^s+r<18446744073709551616):bits .or .u64 (a*2^s) r=a*2^s+r:=by
 obtain⟨a,rfl⟩:=Int.eq_ofNat_of_zero_le a0;obtain⟨r,rfl⟩:=Int.eq_ofNat_of_zero_le r0;have e:((a:Int)*2^s)=((a*2^s:Nat):Int):=by rw[Int.natCast_mul,Int.natCast_pow];rfl
 have hr:r<2^s:=by
  have e2:((2:Int)^s)=((2^s:Nat):Int):=by rw[Int.natCast_pow];rfl
  rw[e2]at r1;omega
 rw[e]at h⊢;rw[bits_or_u64_nat _ _ (by omega) (by omega),Nat.mul_comm,←Nat.two_pow_add_eq_or_of_lt hr];omega
theorem and_half(x:Int)(h0:0≤x)(h1:x<18446744073709551616):bits .and .u64 x 4294967295=x%4294967296:=by
 obtain⟨n,rfl⟩:=Int.eq_ofNat_of_zero_le h0;have h:=bits_and_u64_nat n 4294967295 (by omega) (by omega);have e:n&&& 4294967295=n%4294967296:=Nat.and_two_pow_sub_one_eq_mod n 32;rw[e]at h;exact h.trans (by omega)
end
section
open Go.RowKit Go.Shelf
theorem add64g(x y c:Int)(hx:0≤x)(hx':x<18446744073709551616)(hy:0≤y)(hy':y<18446744073709551616)(hc:0≤c∧c≤1)(w:World):(callFunc 186 #[.int .u64 x,.int .u64 y,.int .u64 c]).run Tryz.prog w=
  .ok (.value (.tuple #[.int .u64 ((x+y+c)%18446744073709551616),.int .u64 ((x+y+c)/18446744073709551616)])) w:=by
 obtain⟨x,rfl⟩:=Int.eq_ofNat_of_zero_le hx;obtain⟨y,rfl⟩:=Int.eq_ofNat_of_zero_le hy;obtain⟨c,rfl⟩:=Int.eq_ofNat_of_zero_le hc.1;rw[run_callFunc_extern Tryz.func186 (by kernel_rfl) (by kernel_rfl) (by kernel_rfl) (e:=add64Entry) (by kernel_rfl),run_add64 x y c (by omega) (by omega) (by omega) (by omega)]
 rfl
theorem sub64g(x y b:Int)(hx:0≤x)(hx':x<18446744073709551616)(hy:0≤y)(hy':y<18446744073709551616)(hb:0≤b∧b≤1)(w:World):(callFunc 187 #[.int .u64 x,.int .u64 y,.int .u64 b]).run Tryz.prog w=
  .ok (.value (.tuple #[.int .u64 ((x-y-b)%18446744073709551616),.int .u64 (if x<y+b then 1 else 0)])) w:=by
 obtain⟨x,rfl⟩:=Int.eq_ofNat_of_zero_le hx;obtain⟨y,rfl⟩:=Int.eq_ofNat_of_zero_le hy;obtain⟨b,rfl⟩:=Int.eq_ofNat_of_zero_le hb.1;rw[run_callFunc_extern Tryz.func187 (by kernel_rfl) (by kernel_rfl) (by kernel_rfl) (e:=sub64Entry) (by kernel_rfl),run_sub64 x y b (by omega) w];have e:(((x+18446744073709551616-y-b)%18446744073709551616:Nat):Int)=((x:Int)-y-b)%18446744073709551616:=by omega
 rw[e]
 by_cases q:x<y+b
 ·rw[if_pos q,if_pos (by omega)];rfl
 ·rw[if_neg q,if_neg (by omega)];rfl
def hiW(a:Int):Int:=a/18446744073709551616
def loW(a:Int):Int:=a%18446744073709551616
theorem hi_lo(a:Int):hiW a*18446744073709551616+loW a=a:=by unfold hiW loW;omega
theorem lo_bd(a:Int):0≤loW a∧loW a<18446744073709551616:=by unfold loW;omega
theorem hi_bd{a:Int}(h0:0≤a)(h1:a<340282366920938463463374607431768211456):0≤hiW a∧hiW a<18446744073709551616:=by unfold hiW;omega
theorem plus_words{a b ah al bh bl:Int}(e1:ah*18446744073709551616+al=a)(e2:bh*18446744073709551616+bl=b)(h1:0≤al∧al<18446744073709551616)(h2:0≤bl∧bl<18446744073709551616)(h3:0≤ah)(h4:0≤bh)(h:a+b<340282366920938463463374607431768211456):
  (al+bl+0)%18446744073709551616=loW (a+b)∧(ah+bh+(al+bl+0)/18446744073709551616)%18446744073709551616=hiW (a+b)∧0≤(al+bl+0)/18446744073709551616∧(al+bl+0)/18446744073709551616≤1:=by
 unfold hiW loW;omega
theorem minus_words{a b ah al bh bl:Int}(e1:ah*18446744073709551616+al=a)(e2:bh*18446744073709551616+bl=b)(h1:0≤al∧al<18446744073709551616)(h2:0≤bl∧bl<18446744073709551616)(h3:0≤bh)(h4:ah<18446744073709551616)(h:b≤a):
  (al-bl-0)%18446744073709551616=loW (a-b)∧(ah-bh-(if al<bl+0 then 1 else 0))%18446744073709551616=hiW (a-b):=by
 unfold hiW loW
 split<;>omega
theorem plus_wide(a b:Int)(ha:0≤a)(hb:0≤b)(h:a+b<340282366920938463463374607431768211456)(w:World):
  Calls Tryz.prog 164 #[.agg #[.int .u64 (hiW a),.int .u64 (loW a)],.agg #[.int .u64 (hiW b),.int .u64 (loW b)]] w fun e w'=>e=.returned (.agg #[.int .u64 (hiW (a+b)),.int .u64 (loW (a+b))])∧Below w.heap.size w w':=by
 have e1:=hi_lo a;have e2:=hi_lo b;have a1:=lo_bd a;have b1:=lo_bd b;have a2:=hi_bd ha (by omega);have b2:=hi_bd hb (by omega);obtain⟨p1,p2,p3,p4⟩:=plus_words e1 e2 a1 b1 a2.1 b2.1 h;generalize hiW a=ah at *;generalize loW a=al at *;generalize hiW b=bh at *;generalize loW b=bl at *;generalize hiW (a+b)=sh at *;generalize loW (a+b)=sl at *;obtain⟨c,hc⟩:=nm ((al+bl+0)/18446744073709551616);rw[hc]at p2 p3 p4;have z1:=fun w=>add64g al bl 0 a1.1 a1.2 b1.1 b1.2 (by omega) w;have z2:=fun w=>add64g ah bh c a2.1 a2.2 b2.1 b2.2 (by omega) w;rw[p1,hc]at z1;rw[p2]at z2;clear p1 p2 p3 p4 hc e1 e2
 go_enter Tryz.func164,Tryz.ntmps164
 go_wp2_with (first | simp only[z1] | simp only[z2])
 refine bodyPost_ret (v:=.agg #[.int .u64 sh,.int .u64 sl]) (by simp[results,Tryz.results164,go_sem]) rfl ⟨rfl,?_⟩;exact((below_new _ _).alloc (by simp) _).alloc (by simp;omega) _
theorem minus_wide(a b:Int)(ha:a<340282366920938463463374607431768211456)(hb:0≤b)(h:b≤a)(w:World):
  Calls Tryz.prog 165 #[.agg #[.int .u64 (hiW a),.int .u64 (loW a)],.agg #[.int .u64 (hiW b),.int .u64 (loW b)]] w fun e w'=>e=.returned (.agg #[.int .u64 (hiW (a-b)),.int .u64 (loW (a-b))])∧Below w.heap.size w w':=by
 have e1:=hi_lo a;have e2:=hi_lo b;have a1:=lo_bd a;have b1:=lo_bd b;have a2:=hi_bd (show 0≤a by omega) ha;have b2:=hi_bd hb (by omega);obtain⟨p1,p2⟩:=minus_words e1 e2 a1 b1 b2.1 a2.2 h;generalize hiW a=ah at *;generalize loW a=al at *;generalize hiW b=bh at *;generalize loW b=bl at *;generalize hiW (a-b)=sh at *;generalize loW (a-b)=sl at *;obtain⟨c,hc⟩:=nm ((if al<bl+0 then 1 else 0):Int);have hc2:0≤c∧c≤1:=by rw[←hc];split<;>omega
 rw[hc]at p2;have z1:=fun w=>sub64g al bl 0 a1.1 a1.2 b1.1 b1.2 (by omega) w;have z2:=fun w=>sub64g ah bh c a2.1 a2.2 b2.1 b2.2 hc2 w;rw[p1,hc]at z1;obtain⟨c2,hcc⟩:=nm ((if ah<bh+c then 1 else 0):Int);rw[p2,hcc]at z2;clear p1 p2 hc hcc e1 e2
 go_enter Tryz.func165,Tryz.ntmps165
 go_wp2_with (first | simp only[z1] | simp only[z2])
 refine bodyPost_ret (v:=.agg #[.int .u64 sh,.int .u64 sl]) (by simp[results,Tryz.results165,go_sem]) rfl ⟨rfl,?_⟩;exact((below_new _ _).alloc (by simp) _).alloc (by simp;omega) _
theorem less_words{a b ah al bh bl:Int}(e1:ah*18446744073709551616+al=a)(e2:bh*18446744073709551616+bl=b)(h1:0≤al∧al<18446744073709551616)(h2:0≤bl∧bl<18446744073709551616):
  decide (a<b)=(decide (ah<bh)||((ah==bh)&&decide (al<bl))):=by
 rw[Bool.eq_iff_iff,Bool.or_eq_true,Bool.and_eq_true,decide_eq_true_eq,decide_eq_true_eq,decide_eq_true_eq,beq_iff_eq];omega
theorem less_wide(a b:Int)(w:World):
  Calls Tryz.prog 157 #[.agg #[.int .u64 (hiW a),.int .u64 (loW a)],.agg #[.int .u64 (hiW b),.int .u64 (loW b)]] w fun e w'=>e=.returned (.bool (decide (a<b)))∧Below w.heap.size w w':=by
 have HR:=lh (less_words (hi_lo a) (hi_lo b) (lo_bd a) (lo_bd b));generalize hiW a=ah at *;generalize loW a=al at *;generalize hiW b=bh at *;generalize loW b=bl at *
 by_cases q1:ah<bh
 ·have g1:decide (ah<bh)=true:=decide_eq_true q1
  rw[g1]at HR;clear q1
  go_enter Tryz.func157,Tryz.ntmps157
  go_wp2_with fail
  go_ret;exact⟨by rw[HR.out];rfl,(below_new _ _).alloc (by simp) _⟩
 have g1:decide (ah<bh)=false:=decide_eq_false q1;rw[g1]at HR;clear q1
 by_cases q2:ah=bh
 ·have g2:(ah==bh)=true:=beq_iff_eq.2 q2
  rw[g2]at HR;clear q2
  go_enter Tryz.func157,Tryz.ntmps157
  go_wp2_with fail
  go_ret;exact⟨by rw[HR.out];rfl,(below_new _ _).alloc (by simp) _⟩
 ·have g2:(ah==bh)=false:=beq_eq_false_iff_ne.2 q2
  rw[g2]at HR;clear q2
  go_enter Tryz.func157,Tryz.ntmps157
  go_wp2_with fail
  go_ret;exact⟨by rw[HR.out];rfl,(below_new _ _).alloc (by simp) _⟩
theorem bit_norm(v:Nat)(h0:0<v)(h1:v<18446744073709551616):∃s:Nat,s≤63∧(64:Int)-(Lib.bitLen v:Int)=(s:Int)∧9223372036854775808≤(v:Int)*2^s∧(v:Int)*2^s<18446744073709551616:=by
 obtain⟨a,b,c⟩:=Lib.bitLenAux_bounds 64 v (by omega) (by omega);have hL:Lib.bitLen v≤64:=Lib.bitLen_le v 64 (Nat.le_refl _) (by omega);unfold Lib.bitLen at hL⊢;generalize Lib.bitLenAux 64 v=L at *;refine⟨64-L,by omega,by omega,?_,?_⟩
 ·have e:((v*2^(64-L):Nat):Int)=(v:Int)*2^(64-L):=by rw[Int.natCast_mul,Int.natCast_pow];rfl
  rw[←e];have:2^(L-1)*2^(64-L)≤v*2^(64-L):=Nat.mul_le_mul_right _ b;rw[←Nat.pow_add,show L-1+(64-L)=63 by omega]at this;omega
 ·have e:((v*2^(64-L):Nat):Int)=(v:Int)*2^(64-L):=by rw[Int.natCast_mul,Int.natCast_pow];rfl
  rw[←e];have:v*2^(64-L)<2^L*2^(64-L):=Nat.mul_lt_mul_of_pos_right c (Nat.two_pow_pos _);rw[←Nat.pow_add,show L+(64-L)=64 by omega]at this;omega
theorem div64_any(hi lo v:Int)(hi0:1≤hi)(hv:hi<v)(v1:v<18446744073709551616)(l0:0≤lo)(l1:lo<18446744073709551616)(w:World):
  Calls Tryz.prog 188 #[.int .u64 hi,.int .u64 lo,.int .u64 v] w fun e w'=>e=.returned (.tuple #[.int .u64 ((hi*18446744073709551616+lo)/v),.int .u64 ((hi*18446744073709551616+lo)%v)])∧w=w':=by
 obtain⟨V,rfl⟩:=Int.eq_ofNat_of_zero_le (show 0≤v by omega);obtain⟨s,hs,hs2,n1,n2⟩:=bit_norm V (by omega) (by omega)
 have hcl:∀w,Calls Tryz.prog 207 #[.int .u64 (V:Int)] w fun e w'=>e=.returned (.int .i64 (s:Int))∧w=w':=fun w=>by
  have:=Tryz.bits_LeadingZeros64 (V:Int) w (by omega) (by omega);rw[Int.toNat_natCast,hs2]at this;exact this.mono fun e w' h=>⟨h.1,h.2.symm⟩
 have hP:(0:Int)<2^s:=Int.pow_pos (by decide);have hQ:(0:Int)<2^(64-s):=Int.pow_pos (by decide);have hPQ:=pow_split (s:=s) (by omega);obtain⟨h1,h2⟩:=norm_hi hP (show 0≤hi by omega) hv;obtain⟨r0,r1,r2⟩:=norm_lo hP hQ hPQ l0 l1;have hall:=norm_all (hi:=hi) hP hQ hPQ l0 l1;obtain⟨t,ht⟩:=nm (64-s);have z1:(64:Int)-(s:Int)=(t:Int):=by omega
 have z2:(0:Int)≤s∧(s:Int)≤64:=by omega
 have z3:(0:Int)≤t∧(t:Int)≤64:=by omega
 rw[ht]at hall hQ hPQ r0 r1;have hor:=or_join hi (lo/2^t) s (by omega) r0 r1 (by omega);obtain⟨Y,hY⟩:=nm ((V:Int)*2^s);obtain⟨A,hA⟩:=nm (hi*2^s);obtain⟨R,hR⟩:=nm (lo/2^t);obtain⟨X,hX⟩:=nm (lo*2^s%18446744073709551616);obtain⟨U,hU⟩:=nm (A+R);rw[hY]at n1 n2 h2;rw[hA]at h1 h2 hall hor;rw[hR]at r0 r1 hall hor;rw[hX]at hall;rw[hU]at hall hor;have u1:IntKind.u64.wrap ((V:Int)*2^s)=Y:=by rw[hY,IntKind.wrap_u64];omega
 have u2:IntKind.u64.wrap (hi*2^s)=A:=by rw[hA,IntKind.wrap_u64];omega
 have u3:IntKind.u64.wrap (lo*2^s)=X:=by rw[IntKind.wrap_u64];exact hX
 have x0:0≤X∧X<18446744073709551616:=by omega
 have u0:0≤U:=by omega
 have huY:U<Y:=by omega
 obtain⟨y1,hy1⟩:=nm (Y/4294967296);obtain⟨y0,hy0⟩:=nm (Y%4294967296);obtain⟨x1,hx1⟩:=nm (X/4294967296);obtain⟨x2,hx2⟩:=nm (X%4294967296);have u4:=and_half Y (by omega) n2;have u5:=and_half X x0.1 x0.2;rw[hy0]at u4;rw[hx2]at u5;have hYY:y1*4294967296+y0=Y:=by omega
 have hy00:0≤y0:=by omega
 have hy01:y0<4294967296:=by omega
 have hy10:0<y1:=by omega
 have hy11:2147483648≤y1:=by omega
 have hy12:y1<4294967296:=by omega
 have hx10:0≤x1:=by omega
 have hx11:x1<4294967296:=by omega
 have hx20:0≤x2:=by omega
 have hx21:x2<4294967296:=by omega
 have hyp:0<y1*4294967296+y0:=by omega
 have huU:U<y1*4294967296+y0:=by omega
 rw[hx1,hx2]at hall;obtain⟨Q1,hQ1⟩:=nm ((U*4294967296+x1)/Y);obtain⟨U2,hU2⟩:=nm ((U*4294967296+x1)%Y);obtain⟨Q0,hQ0⟩:=nm ((U2*4294967296+x2)/Y);obtain⟨R2,hR2⟩:=nm ((U2*4294967296+x2)%Y);obtain⟨fin1,fin2⟩:=two_digits hP (show(0:Int)<V by omega) hY.symm hall hQ1.symm hU2.symm hQ0.symm hR2.symm;have b1:0≤U2:=by rw[←hU2];exact Int.emod_nonneg _ (by omega)
 have b2:U2<Y:=by rw[←hU2];exact Int.emod_lt_of_pos _ (by omega)
 have b3:0≤R2:=by rw[←hR2];exact Int.emod_nonneg _ (by omega)
 have b4:R2<Y:=by rw[←hR2];exact Int.emod_lt_of_pos _ (by omega)
 have huU2:U2<y1*4294967296+y0:=by omega
 have q1a:=dig_nonneg (d:=x1) hyp u0 hx10;have q1b:=dig_lt (d:=x1) hyp huU hx11;have q0a:=dig_nonneg (d:=x2) hyp b1 hx20;have q0b:=dig_lt (d:=x2) hyp huU2 hx21;have e1:=Int.mul_ediv_add_emod (U*4294967296+x1) Y;have e0:=Int.mul_ediv_add_emod (U2*4294967296+x2) Y;rw[hQ1,hU2]at e1;rw[hQ0,hR2]at e0;have D1:=Dig.start hy11 hy12 hy00 hy01 u0 huU hx10 hx11;have D2:=Dig.start hy11 hy12 hy00 hy01 b1 huU2 hx20 hx21;rw[hYY]at q1a q1b q0a q0b;rw[hQ1]at q1a q1b;rw[hQ0]at q0a q0b;have HQ1:(U*4294967296+x1)/(y1*4294967296+y0)=Q1:=by rw[hYY,hQ1]
 have HQ0:(U2*4294967296+x2)/(y1*4294967296+y0)=Q0:=by rw[hYY,hQ0]
 obtain⟨K1,hK1⟩:=nm (U/y1);obtain⟨K2,hK2⟩:=nm (U2/y1);rw[hK1]at D1;rw[hK2]at D2;have k1a:0≤K1∧K1*y1≤U:=by rw[←hK1];exact⟨Int.ediv_nonneg u0 (by omega),Int.ediv_mul_le _ (by omega)⟩
 have k2a:0≤K2∧K2*y1≤U2:=by rw[←hK2];exact⟨Int.ediv_nonneg b1 (by omega),Int.ediv_mul_le _ (by omega)⟩
 have k1m:0≤K1*y1:=Int.mul_nonneg k1a.1 (by omega);have k2m:0≤K2*y1:=Int.mul_nonneg k2a.1 (by omega);have k1h:=D1.high;have k2h:=D2.high;obtain⟨M1,hM1⟩:=nm (K1*y1);obtain⟨M2,hM2⟩:=nm (K2*y1);rw[hM1]at D1 k1a k1m;rw[hM2]at D2 k2a k2m;have HD1:=lh D1;have HD2:=lh D2;have v0:(y1==0)=false:=beq_eq_false_iff_ne.2 (by omega);have v1':IntKind.u64.wrap (U.tdiv y1)=K1:=by rw[Int.tdiv_eq_ediv_of_nonneg u0,hK1,IntKind.wrap_u64];omega
 have v2:IntKind.u64.wrap (K1*y1)=M1:=by rw[hM1,IntKind.wrap_u64];omega
 have v3:IntKind.u64.wrap (U-M1)=U-M1:=by rw[IntKind.wrap_u64];omega
 have v4:IntKind.u64.wrap (U2.tdiv y1)=K2:=by rw[Int.tdiv_eq_ediv_of_nonneg b1,hK2,IntKind.wrap_u64];omega
 have v5:IntKind.u64.wrap (K2*y1)=M2:=by rw[hM2,IntKind.wrap_u64];omega
 have v6:IntKind.u64.wrap (U2-M2)=U2-M2:=by rw[IntKind.wrap_u64];omega
 obtain⟨c1,hc1⟩:=nm (IntKind.u64.wrap (U*4294967296));obtain⟨c2,hc2⟩:=nm (IntKind.u64.wrap (c1+x1));obtain⟨c3,hc3⟩:=nm (IntKind.u64.wrap (Q1*Y))
 have v7:IntKind.u64.wrap (c2-c3)=U2:=by
  rw[←hc3,←hc2,←hc1,IntKind.wrap_u64,IntKind.wrap_u64,IntKind.wrap_u64,IntKind.wrap_u64,Int.mul_comm Q1 Y];generalize Y*Q1=T at *;omega
 obtain⟨d1,hd1⟩:=nm (IntKind.u64.wrap (U2*4294967296));obtain⟨d2,hd2⟩:=nm (IntKind.u64.wrap (d1+x2));obtain⟨d3,hd3⟩:=nm (IntKind.u64.wrap (Q0*Y))
 have v8:IntKind.u64.wrap (d2-d3)=R2:=by
  rw[←hd3,←hd2,←hd1,IntKind.wrap_u64,IntKind.wrap_u64,IntKind.wrap_u64,IntKind.wrap_u64,Int.mul_comm Q0 Y];generalize Y*Q0=T at *;omega
 have v9:IntKind.u64.wrap (Q1*4294967296)=Q1*4294967296:=by rw[IntKind.wrap_u64];omega
 have v10:IntKind.u64.wrap (Q1*4294967296+Q0)=Q1*4294967296+Q0:=by rw[IntKind.wrap_u64];omega
 have w1:((V:Int)==0)=false:=beq_eq_false_iff_ne.2 (by omega);have w2:(V==0)=false:=beq_eq_false_iff_ne.2 (by omega);have w3:decide ((V:Int)≤hi)=false:=dF (by omega);have w4:(hi==0)=false:=beq_eq_false_iff_ne.2 (by omega);have w5:IntKind.u64.wrap (s:Int)=(s:Int):=by rw[IntKind.wrap_u64];omega
 have w6:IntKind.u64.wrap ((64:Int)-(s:Int))=(t:Int):=by rw[z1,IntKind.wrap_u64];omega
 have HF1:=lh fin1;have HF2:=lh fin2;have HCL:=lh hcl;have HQQ1:=lh HQ1;have HQQ0:=lh HQ0;clear hs2 fin1 fin2 hcl HQ1 HQ0 hall hQ1 hU2 hQ0 hR2 hK1 hK2 hM1 hM2 D1 D2 e1 e0 hY hA hU hYY h1 h2 hP hQ hPQ r2 z1 ht
 go_enter Tryz.func188,Tryz.ntmps188
 go_upto_block 0 with (go_at_call 207;(with_reducible refine(HCL.out _).mono ?_);rintro e w' ⟨rfl,rfl⟩)
 go_cut [15] (fun v wx=>v=.int .u64 Q1∧w=wx)
 case first=>
  have HD0:=HD1
  go_wp2_with fail
  go_loop [15,16] (fun a b=>∃k r:Int,a=.int .u64 k∧b=.int .u64 r∧Hid (Dig U y1 y0 x1 k r)) (fun a _=>(intOf a).toNat)
  case atStart=>exact⟨_,_,rfl,rfl,HD0⟩
  case round=>
   obtain⟨k,r,rfl,rfl,HD⟩:=hrel;have hlow:=HD.out.low;rw[HQQ1.out]at hlow;have hk0:0≤k:=by omega
   obtain⟨p0,p1,p2,p3⟩:=HD.out.small hk0 hy00 hy01 hx10 hx11;have hr0:=HD.out.pos;have hr1:=HD.out.less;have hkh:=HD.out.high;obtain⟨p,hp⟩:=nm (k*y0);have HPK:=lh hp;rw[hp]at p0 p1;have t1:IntKind.u64.wrap (k*y0)=p:=by rw[hp,IntKind.wrap_u64];omega
   have t2:IntKind.u64.wrap (4294967296*r)=4294967296*r:=by rw[IntKind.wrap_u64];omega
   have t3:IntKind.u64.wrap (4294967296*r+x1)=4294967296*r+x1:=by rw[IntKind.wrap_u64];omega
   have t4:IntKind.u64.wrap (r+y1)=r+y1:=by rw[IntKind.wrap_u64];omega
   clear hp
   by_cases hc:4294967296≤k∨4294967296*r+x1<p
   ·have hpr:=HD.out.pred hyp huU hx11 (by rw[HPK.out];exact hc)
    rw[HQQ1.out]at hpr;have t5:IntKind.u64.wrap (k-1)=k-1:=by rw[IntKind.wrap_u64];omega
    by_cases hr:r+y1<4294967296
    ·have HN:=lh (HD.out.next hy10 hyp huU hx11 (by rw[HPK.out];exact hc) hr)
     have g3:decide (4294967296≤r+y1)=false:=dF (by omega)
     by_cases h1:4294967296≤k
     ·have g1:decide (4294967296≤k)=true:=decide_eq_true h1
      clear hc
      go_wp2_with fail
      go_round
      case rel=>exact⟨_,_,rfl,rfl,HN⟩
      case measure=>simp[intOf];omega
     ·have g1:decide (4294967296≤k)=false:=decide_eq_false h1
      have g2:decide (4294967296*r+x1<p)=true:=dT (by omega);clear hc
      go_wp2_with fail
      go_round
      case rel=>exact⟨_,_,rfl,rfl,HN⟩
      case measure=>simp[intOf];omega
    ·have ho:=HD.out.out hyp huU hy00 hy01 hx10 hx11 (by rw[HPK.out];exact hc) (by omega)
     rw[HQQ1.out]at ho;have HO:=lh ho;have g3:decide (4294967296≤r+y1)=true:=dT (by omega);clear ho hpr
     by_cases h1:4294967296≤k
     ·have g1:decide (4294967296≤k)=true:=decide_eq_true h1
      clear hc
      go_wp2_with fail
      go_meet
      exact⟨by rw[HO.out],rfl⟩
     ·have g1:decide (4294967296≤k)=false:=decide_eq_false h1
      have g2:decide (4294967296*r+x1<p)=true:=dT (by omega);clear hc
      go_wp2_with fail
      go_meet
      exact⟨by rw[HO.out],rfl⟩
   ·have ho:=HD.out.done hyp (by rw[HPK.out];omega)
    rw[HQQ1.out]at ho;have HO:=lh ho;have g1:decide (4294967296≤k)=false:=dF (by omega);have g2:decide (4294967296*r+x1<p)=false:=dF (by omega);clear ho hc
    go_wp2_with fail
    go_meet
    exact⟨by rw[HO.out],rfl⟩
 case rest=>
  obtain⟨rfl,rfl⟩:=hcut
  go_upto_block 2 with (fail)
  go_cut [18] (fun v wx=>v=.int .u64 Q0∧w=wx)
  case first=>
   have HD0:=HD2
   go_wp2_with fail
   go_loop [18,16] (fun a b=>∃k r:Int,a=.int .u64 k∧b=.int .u64 r∧Hid (Dig U2 y1 y0 x2 k r)) (fun a _=>(intOf a).toNat)
   case atStart=>exact⟨_,_,rfl,rfl,HD0⟩
   case round=>
    obtain⟨k,r,rfl,rfl,HD⟩:=hrel;have hlow:=HD.out.low;rw[HQQ0.out]at hlow;have hk0:0≤k:=by omega
    obtain⟨p0,p1,p2,p3⟩:=HD.out.small hk0 hy00 hy01 hx20 hx21;have hr0:=HD.out.pos;have hr1:=HD.out.less;have hkh:=HD.out.high;obtain⟨p,hp⟩:=nm (k*y0);have HPK:=lh hp;rw[hp]at p0 p1;have t1:IntKind.u64.wrap (k*y0)=p:=by rw[hp,IntKind.wrap_u64];omega
    have t2:IntKind.u64.wrap (4294967296*r)=4294967296*r:=by rw[IntKind.wrap_u64];omega
    have t3:IntKind.u64.wrap (4294967296*r+x2)=4294967296*r+x2:=by rw[IntKind.wrap_u64];omega
    have t4:IntKind.u64.wrap (r+y1)=r+y1:=by rw[IntKind.wrap_u64];omega
    clear hp
    by_cases hc:4294967296≤k∨4294967296*r+x2<p
    ·have hpr:=HD.out.pred hyp huU2 hx21 (by rw[HPK.out];exact hc)
     rw[HQQ0.out]at hpr;have t5:IntKind.u64.wrap (k-1)=k-1:=by rw[IntKind.wrap_u64];omega
     by_cases hr:r+y1<4294967296
     ·have HN:=lh (HD.out.next hy10 hyp huU2 hx21 (by rw[HPK.out];exact hc) hr)
      have g3:decide (4294967296≤r+y1)=false:=dF (by omega)
      by_cases h1:4294967296≤k
      ·have g1:decide (4294967296≤k)=true:=decide_eq_true h1
       clear hc
       go_wp2_with fail
       go_round
       case rel=>exact⟨_,_,rfl,rfl,HN⟩
       case measure=>simp[intOf];omega
      ·have g1:decide (4294967296≤k)=false:=decide_eq_false h1
       have g2:decide (4294967296*r+x2<p)=true:=dT (by omega);clear hc
       go_wp2_with fail
       go_round
       case rel=>exact⟨_,_,rfl,rfl,HN⟩
       case measure=>simp[intOf];omega
     ·have ho:=HD.out.out hyp huU2 hy00 hy01 hx20 hx21 (by rw[HPK.out];exact hc) (by omega)
      rw[HQQ0.out]at ho;have HO:=lh ho;have g3:decide (4294967296≤r+y1)=true:=dT (by omega);clear ho hpr
      by_cases h1:4294967296≤k
      ·have g1:decide (4294967296≤k)=true:=decide_eq_true h1
       clear hc
       go_wp2_with fail
       go_meet
       exact⟨by rw[HO.out],rfl⟩
      ·have g1:decide (4294967296≤k)=false:=decide_eq_false h1
       have g2:decide (4294967296*r+x2<p)=true:=dT (by omega);clear hc
       go_wp2_with fail
       go_meet
       exact⟨by rw[HO.out],rfl⟩
    ·have ho:=HD.out.done hyp (by rw[HPK.out];omega)
     rw[HQQ0.out]at ho;have HO:=lh ho;have g1:decide (4294967296≤k)=false:=dF (by omega);have g2:decide (4294967296*r+x2<p)=false:=dF (by omega);clear ho hc
     go_wp2_with fail
     go_meet
     exact⟨by rw[HO.out],rfl⟩
  case rest=>
   obtain⟨rfl,rfl⟩:=hcut
   go_wp2_with fail
   go_ret2
   exact⟨by rw[←HF1.out,←HF2.out];rfl,rfl⟩
end
end Go.Proofs.YtebofaenlhhkaaaGreat
