/-
  THE WALK of grid.Valid.
-/
import Derived.Test.YtebofaenlhhkaaaGreatU4
import Derived.Test.YtebofaenlhhkaaaGreatU17
namespace Go.Proofs.YtebofaenlhhkaaaGreat
set_option maxRecDepth 100000
set_option maxHeartbeats 80000000
set_option linter.unusedSimpArgs false
section
open Go.RowKit Go.Shelf
attribute [local go_sem] Oper.semAt_some
def RoofIn(w:World)(b:Nat)(x:RoofR):Prop:=w.cell? ⟨b,0,none⟩=some (.string x.name)∧w.cell? ⟨b,1,none⟩=some (.int .i64 x.lo)∧w.cell? ⟨b,2,none⟩=some (.int .i64 x.hi)∧w.cell? ⟨b,3,none⟩=some (.int .i64 x.most)
theorem RoofIn.carry{w w':World}{b:Nat}{x:RoofR}(h:RoofIn w b x)(hb:Below w.heap.size w w'):RoofIn w' b x:=by
 have hlt:b<w.heap.size:=wl h.1;obtain⟨a0,a1,a2,a3⟩:=h;exact⟨(hb.cell (p:=⟨b,0,none⟩) hlt).trans a0,(hb.cell (p:=⟨b,1,none⟩) hlt).trans a1,(hb.cell (p:=⟨b,2,none⟩) hlt).trans a2,(hb.cell (p:=⟨b,3,none⟩) hlt).trans a3⟩
theorem RoofIn.new(w:World)(x:RoofR)(t:TypeId):RoofIn (w.alloc (.cells #[.string x.name,.int .i64 x.lo,.int .i64 x.hi,.int .i64 x.most] t)) w.heap.size x:=by
 unfold RoofIn
 simp
theorem gname_any(s:ByteArray)(w:World):Calls Tryz.prog 176 #[.string s] w fun e w'=>e=.returned (.bool (isNameB s))∧w=w':=by
 go_enter Tryz.func176,Tryz.ntmps176
 go_wp2_with (go_at_call 143;(with_reducible refine(isName_any s _).mono ?_);rintro e w1 ⟨rfl,rfl⟩)
 go_ret;exact⟨rfl,rfl⟩
theorem gwithin_any(n:Int)(w:World):Calls Tryz.prog 177 #[.int .i64 n] w fun e w'=>e=.returned (.bool (betB n 0 1048576))∧w=w':=by
 by_cases h:0≤n
 ·have g:=decide_eq_true h
  have HR:Hid (betB n 0 1048576=decide (n≤1048576)):=lh (by unfold betB;rw[g];rfl);rw[HR.out];clear h
  go_enter Tryz.func177,Tryz.ntmps177
  go_wp2_with fail
  go_ret;exact⟨rfl,rfl⟩
 ·have g:=decide_eq_false h
  have HR:Hid (betB n 0 1048576=false):=lh (by unfold betB;rw[g];rfl);rw[HR.out];clear h
  go_enter Tryz.func177,Tryz.ntmps177
  go_wp2_with fail
  go_ret;exact⟨rfl,rfl⟩
theorem ent_gvalid(args:Array Value)(w:World):(callFunc 179 args).run Tryz.prog w=.ok (.enter 179 args) w:=enters_of Tryz.func179 (by kernel_rfl) rfl args w
theorem gsame_any(b:Nat)(x y:RoofR)(w:World)(h:RoofIn w b x)(hlt:b<w.heap.size):
  Calls Tryz.prog 179 #[.agg #[.string y.name,.int .i64 y.lo,.int .i64 y.hi,.int .i64 y.most],.pointer (some ⟨b,0,none⟩)] w fun e w'=>e=.returned (.bool (decide (y.name=x.name)))∧Below w.heap.size w w':=by
 obtain⟨a0,a1,a2,a3⟩:=h
 go_enter Tryz.func179,Tryz.ntmps179
 go_wp2_with fail
 go_ret;exact⟨ret_bool (str_eq _ _),below_new _ _⟩
theorem asks_roof{w:World}{b:Nat}{x:RoofR}(h:RoofIn w b x)(hlt:b<w.heap.size):AsksRoof 179 #[.pointer (some ⟨b,0,none⟩)] w.heap.size w (fun y=>decide (y.name=x.name)):=by
 intro W r hb;exact gsame_any b x r W (h.carry hb) (Nat.lt_of_lt_of_le hlt hb.size)
theorem roof_contains_n(a:Option Addr)(M:List RoofR)(n cap n₀ g:Nat)(cb:Array Value)(p:RoofR→Bool)(w:World)(hn:n=M.length)(eg:∀args w,(callFunc g args).run Tryz.prog w=.ok (.enter g args) w)
  (hl:n≤1100) (hn₀:n₀≤w.heap.size) (hI:Roofs n₀ w a M) (hp:AsksRoof g cb n₀ w p):
  Calls Tryz.prog 178 #[.slice a n cap,.func (.func g) #[] cb] w fun e w'=>e=.returned (.bool (roof_any M p))∧Below w.heap.size w w':=by
 subst hn;exact roof_containsFunc a M cap n₀ g cb p w eg hl hn₀ hI hp
theorem rg_take{L:List RoofR}{k j:Nat}(h:j<k):rg (L.take k) j=rg L j:=by
 unfold rg;rw[List.getElem?_take,if_pos h]
theorem roof_twice{L:List RoofR}{k:Nat}(hk:k≤L.length)(s:ByteArray):roof_any (L.take k) (fun y=>decide (y.name=s))=false↔∀j,j<k→(rg L j).name≠s:=by
 unfold roof_any;rw[decide_eq_false_iff_not];have hl:(L.take k).length=k:=by rw[List.length_take];omega
 rcases roof_first_cases (L.take k) (fun y=>decide (y.name=s))with ⟨e,n⟩ | ⟨i,hi,e,hn,_⟩
 ·rw[hl]at n
  refine⟨fun _ j hj=>?_,fun _=>by omega⟩;have:=n j hj;rw[rg_take hj]at this
  simpa using this
 ·rw[hl]at hi
  refine⟨fun h=>absurd (by omega) h,fun h=>absurd ?_ (h i hi)⟩;rw[rg_take hi]at hn
  simpa using hn
theorem gridvalid_any(a:Option Addr)(L:List RoofR)(c:Nat)(w:World)(hl:L.length≤1000)(hcap:L.length≤c)(h:Roofs w.heap.size w a L):
  Calls Tryz.prog 144 #[.slice a L.length c] w fun e w'=>e=.returned (.bool (roofsB L))∧Below w.heap.size w w':=by
 have HU:=lh h;clear h
 by_cases q:20<L.length
 ·have HR:Hid (roofsB L=false):=lh (by
   cases e:roofsB L
   ·rfl
   ·have:=(roofsB_iff.1 e).1;omega)
  rw[HR.out];have g:decide ((20:Int)<L.length)=true:=dT (by omega);clear q
  go_enter Tryz.func144,Tryz.ntmps144
  go_wp2_with fail
  go_ret;exact⟨rfl,br⟩
 have g:decide ((20:Int)<L.length)=false:=dF (by omega);have hq:L.length≤20:=by omega
 clear q
 go_enter Tryz.func144,Tryz.ntmps144
 go_wp2_with fail
 clear g
 go_loopw [10] (fun i wr=>∃k:Nat,k≤L.length∧i=.int .i64 k∧Hid (∀j,j<k→RoofAt L j)∧Below w.heap.size w wr) (fun i _=>L.length-(intOf i).toNat)
 case atStart=>exact⟨0,Nat.zero_le _,rfl,lh (fun _ h=>absurd h (Nat.not_lt_zero _)),br⟩
 case round=>
  obtain⟨k,hk,rfl,HO,hB⟩:=hrel
  by_cases hlt:k<L.length
  ·obtain⟨b,off,rfl,hb,hc⟩:=HU.out (by omega)
   obtain⟨e0,e1,e2,e3⟩:=hc k hlt;have c0:=(hB.cell (p:=⟨b,_,none⟩) hb).trans e0;have c1:=(hB.cell (p:=⟨b,_,none⟩) hb).trans e1;have c2:=(hB.cell (p:=⟨b,_,none⟩) hb).trans e2;have c3:=(hB.cell (p:=⟨b,_,none⟩) hb).trans e3;have i0:0≤(k:Int):=by omega
   have i1:(k:Int)<(L.length:Int):=by omega
   have s1:IntKind.i64.wrap ((k:Int)+1)=(k:Int)+1:=IntWalk.i64_in _ (by omega);have hTl:k=(L.take k).length:=by rw[List.length_take];omega
   have HTL:=lh hTl;have k1:k≤c:=by omega
   have k2:(k:Int)≤(c:Int):=by omega
   have HN:Hid (¬RoofAt L k→roofsB L=false):=lh (roofs_no hlt);have HAT:Hid (RoofAt L k↔RoofOK (rg L k)∧∀j,j<k→(rg L j).name≠(rg L k).name):=lh Iff.rfl;have HTW:=lh (roof_twice (L:=L) (k:=k) hk (rg L k).name);have HTK:Hid (Roofs w.heap.size w (some ⟨b,off,none⟩) (L.take k)):=lh (HU.out.take k);have HB:=lh hB
   have HO2:Hid (RoofAt L k→∀j,j<k+1→RoofAt L j):=lh fun h j hj=>by
    rcases Nat.lt_or_eq_of_le (Nat.le_of_lt_succ hj)with l | l
    ·exact HO.out j l
    ·subst l;exact h
   generalize rg L k=x at *;have HNEW:=lh (RoofIn.new wr x 148);have hB1:=hB.alloc hB.size (.cells #[.string x.name,.int .i64 x.lo,.int .i64 x.hi,.int .i64 x.most] 148);clear hc e0 e1 e2 e3 HO hTl hB
   go_upto_region 6 with (fail)
   have HS1:Hid (Below wr.heap.size wr (wr.alloc (.cells #[.string x.name,.int .i64 x.lo,.int .i64 x.hi,.int .i64 x.most] 148))):=lh (below_new _ _);have hz:wr.heap.size<(wr.alloc (.cells #[.string x.name,.int .i64 x.lo,.int .i64 x.hi,.int .i64 x.most] 148)).heap.size:=by simp
   clear c0 c1 c2 c3;obtain⟨B,hBe⟩:=nm (wr.heap.size);simp only[hBe]at HNEW hz⊢;generalize wr.alloc (.cells #[.string x.name,.int .i64 x.lo,.int .i64 x.hi,.int .i64 x.most] 148)=W1 at *;obtain⟨d0,d1,d2,d3⟩:=HNEW.out
   cases h1:isNameB x.name
   ·have H1:=lh h1
    have HZ:=lh (HN.out (fun hh=>absurd (HAT.out.1 hh) (fun h=>by have:=h.1.1;rw[H1.out]at this;cases this)));clear h1
    go_wp2_with (first
     | (go_at_call 176;(with_reducible refine(gname_any x.name _).mono ?_);rintro e w2 ⟨rfl,rfl⟩;rw[H1.out])
     | (go_at_call 177;(with_reducible refine(gwithin_any x.lo _).mono ?_);rintro e w3 ⟨rfl,rfl⟩;rw[H2.out])
     | (go_at_call 177;(with_reducible refine(gwithin_any x.hi _).mono ?_);rintro e w4 ⟨rfl,rfl⟩;rw[H3.out]))
    go_ret;exact⟨ret_bool HZ.out.symm,hB1⟩
   have H1:=lh h1;clear h1
   cases h2:betB x.lo 0 1048576
   ·have H2:=lh h2
    have HZ:=lh (HN.out (fun hh=>absurd (HAT.out.1 hh) (fun h=>by have:=h.1;unfold RoofOK at this;have e:betB x.lo 0 1048576=true:=betB_iff.2 (by omega);rw[H2.out]at e;cases e)));clear h2
    go_wp2_with (first
     | (go_at_call 176;(with_reducible refine(gname_any x.name _).mono ?_);rintro e w2 ⟨rfl,rfl⟩;rw[H1.out])
     | (go_at_call 177;(with_reducible refine(gwithin_any x.lo _).mono ?_);rintro e w3 ⟨rfl,rfl⟩;rw[H2.out])
     | (go_at_call 177;(with_reducible refine(gwithin_any x.hi _).mono ?_);rintro e w4 ⟨rfl,rfl⟩;rw[H3.out]))
    go_ret;exact⟨ret_bool HZ.out.symm,hB1⟩
   have H2:=lh h2;clear h2
   cases h3:betB x.hi 0 1048576
   ·have H3:=lh h3
    have HZ:=lh (HN.out (fun hh=>absurd (HAT.out.1 hh) (fun h=>by have:=h.1;unfold RoofOK at this;have e:betB x.hi 0 1048576=true:=betB_iff.2 (by omega);rw[H3.out]at e;cases e)));clear h3
    go_wp2_with (first
     | (go_at_call 176;(with_reducible refine(gname_any x.name _).mono ?_);rintro e w2 ⟨rfl,rfl⟩;rw[H1.out])
     | (go_at_call 177;(with_reducible refine(gwithin_any x.lo _).mono ?_);rintro e w3 ⟨rfl,rfl⟩;rw[H2.out])
     | (go_at_call 177;(with_reducible refine(gwithin_any x.hi _).mono ?_);rintro e w4 ⟨rfl,rfl⟩;rw[H3.out]))
    go_ret;exact⟨ret_bool HZ.out.symm,hB1⟩
   have H3:=lh h3;clear h3
   cases h4:decide (x.hi<x.lo)
   case true=>
    have H4:=lh h4;have HZ:=lh (HN.out (fun hh=>absurd (HAT.out.1 hh) (fun h=>by have:=h.1;unfold RoofOK at this;have e:=of_decide_eq_true H4.out;omega)))
    go_wp2_with (first
     | (go_at_call 176;(with_reducible refine(gname_any x.name _).mono ?_);rintro e w2 ⟨rfl,rfl⟩;rw[H1.out])
     | (go_at_call 177;(with_reducible refine(gwithin_any x.lo _).mono ?_);rintro e w3 ⟨rfl,rfl⟩;rw[H2.out])
     | (go_at_call 177;(with_reducible refine(gwithin_any x.hi _).mono ?_);rintro e w4 ⟨rfl,rfl⟩;rw[H3.out]))
    go_ret;exact⟨ret_bool HZ.out.symm,hB1⟩
   have H4:=lh h4
   cases h5:decide (x.most<0)
   case true=>
    have H5:=lh h5;have HZ:=lh (HN.out (fun hh=>absurd (HAT.out.1 hh) (fun h=>by have:=h.1;unfold RoofOK at this;have e:=of_decide_eq_true H5.out;omega)))
    go_wp2_with (first
     | (go_at_call 176;(with_reducible refine(gname_any x.name _).mono ?_);rintro e w2 ⟨rfl,rfl⟩;rw[H1.out])
     | (go_at_call 177;(with_reducible refine(gwithin_any x.lo _).mono ?_);rintro e w3 ⟨rfl,rfl⟩;rw[H2.out])
     | (go_at_call 177;(with_reducible refine(gwithin_any x.hi _).mono ?_);rintro e w4 ⟨rfl,rfl⟩;rw[H3.out]))
    go_ret;exact⟨ret_bool HZ.out.symm,hB1⟩
   have H5:=lh h5
   cases h6:decide (67108864<x.most)
   case true=>
    have H6:=lh h6;have HZ:=lh (HN.out (fun hh=>absurd (HAT.out.1 hh) (fun h=>by have:=h.1;unfold RoofOK at this;have e:=of_decide_eq_true H6.out;omega)))
    go_wp2_with (first
     | (go_at_call 176;(with_reducible refine(gname_any x.name _).mono ?_);rintro e w2 ⟨rfl,rfl⟩;rw[H1.out])
     | (go_at_call 177;(with_reducible refine(gwithin_any x.lo _).mono ?_);rintro e w3 ⟨rfl,rfl⟩;rw[H2.out])
     | (go_at_call 177;(with_reducible refine(gwithin_any x.hi _).mono ?_);rintro e w4 ⟨rfl,rfl⟩;rw[H3.out]))
    go_ret;exact⟨ret_bool HZ.out.symm,hB1⟩
   have H6:=lh h6
   have HOK:Hid (RoofOK x):=lh (by
    have a2:=betB_iff.1 H2.out;have a3:=betB_iff.1 H3.out;have a4:=of_decide_eq_false H4.out;have a5:=of_decide_eq_false H5.out;have a6:=of_decide_eq_false H6.out;exact⟨H1.out,by omega,by omega,by omega,by omega,by omega⟩)
   have HCON:Hid (Calls Tryz.prog 178 #[.slice (some ⟨b,off,none⟩) k c,.func (.func 179) #[] #[.pointer (some ⟨B,0,none⟩)]] W1 fun e w'=>e=.returned (.bool (roof_any (L.take k) (fun y=>decide (y.name=x.name))))∧Below W1.heap.size W1 w'):=lh
    (roof_contains_n (some ⟨b,off,none⟩) (L.take k) k c _ _ _ (fun y=>decide (y.name=x.name)) _ HTL.out ent_gvalid (by omega) (Nat.le_refl _) ((HTK.out.below hB1).mono hB1.size) (asks_roof HNEW.out hz))
   cases h7:roof_any (L.take k) (fun y=>decide (y.name=x.name))
   ·have H7:=lh h7
    have HY:=lh (HO2.out (HAT.out.2 ⟨HOK.out,HTW.out.1 h7⟩));rw[h7]at HCON;clear h7
    go_wp2_with (first
     | (go_at_call 176;(with_reducible refine(gname_any x.name _).mono ?_);rintro e w2 ⟨rfl,rfl⟩;rw[H1.out])
     | (go_at_call 177;(with_reducible refine(gwithin_any x.lo _).mono ?_);rintro e w3 ⟨rfl,rfl⟩;rw[H2.out])
     | (go_at_call 177;(with_reducible refine(gwithin_any x.hi _).mono ?_);rintro e w4 ⟨rfl,rfl⟩;rw[H3.out])
     | (go_at_call 178;(with_reducible refine HCON.out.mono ?_);rintro e w5 ⟨rfl,hb5⟩))
    go_roundw
    case rel=>exact⟨k+1,by omega,by go_num,HY,hB1.trans (hb5.mono hB1.size)⟩
    case measure=>simp[intOf];omega
   ·have H7:=lh h7
    have HZ:=lh (HN.out (fun hh=>by
     have:=HTW.out.2 (HAT.out.1 hh).2;rw[H7.out]at this
     cases this))
    rw[h7]at HCON;clear h7
    go_wp2_with (first
     | (go_at_call 176;(with_reducible refine(gname_any x.name _).mono ?_);rintro e w2 ⟨rfl,rfl⟩;rw[H1.out])
     | (go_at_call 177;(with_reducible refine(gwithin_any x.lo _).mono ?_);rintro e w3 ⟨rfl,rfl⟩;rw[H2.out])
     | (go_at_call 177;(with_reducible refine(gwithin_any x.hi _).mono ?_);rintro e w4 ⟨rfl,rfl⟩;rw[H3.out])
     | (go_at_call 178;(with_reducible refine HCON.out.mono ?_);rintro e w5 ⟨rfl,hb5⟩))
    go_ret;exact⟨ret_bool HZ.out.symm,hB1.trans (hb5.mono hB1.size)⟩
  ·obtain rfl:k=L.length:=by omega
   have HR:=lh (roofsB_iff.2 ⟨hq,HO.out⟩)
   go_wp2_with fail
   go_ret;exact⟨ret_bool HR.out.symm,hB⟩
theorem ent_find(args:Array Value)(w:World):(callFunc 184 args).run Tryz.prog w=.ok (.enter 184 args) w:=enters_of Tryz.func184 (by kernel_rfl) rfl args w
theorem hsame_any(b:Nat)(s:ByteArray)(y:SetR)(w:World)(h:w.cell? ⟨b,0,none⟩=some (.string s)):
  Calls Tryz.prog 184 #[.agg #[.string y.name,.int .i64 y.depth,.int .i64 y.low,.int .i64 y.high,.int .i64 y.length,.slice y.la y.lines.length y.lc,.int .i64 y.pipe,.int .i64 y.arbor,.int .i64 y.purchase,.int .i64 y.most,.int .i64 y.brake,.slice y.ia y.items.length y.ic,.slice y.ba y.bricks.length y.bc],.pointer (some ⟨b,0,none⟩)] w fun e w'=>e=.returned (.bool (decide (y.name=s)))∧Below w.heap.size w w':=by
 have hlt:b<w.heap.size:=wl h
 go_enter Tryz.func184,Tryz.ntmps184
 go_wp2_with fail
 go_ret;exact⟨ret_bool (str_eq _ _),below_new _ _⟩
theorem asks_find{w:World}{b:Nat}{s:ByteArray}(h:w.cell? ⟨b,0,none⟩=some (.string s)):AsksSet 184 #[.pointer (some ⟨b,0,none⟩)] w.heap.size w (fun y=>decide (y.name=s)):=by
 intro W r hb;exact hsame_any b s r W ((hb.cell (p:=⟨b,0,none⟩) (wl h)).trans h)
theorem hfind_any(h:HouseR)(s:ByteArray)(w:World)(hh:HouseIn w h):
  Calls Tryz.prog 146 #[.agg #[.string h.name,.int .i64 h.height,.slice h.sa h.sets.length h.sc,.slice h.ra h.roofs.length h.rc],.string s] w fun e w'=>e=.returned (.int .i64 (findS h.sets s))∧Below w.heap.size w w':=by
 have hB:=(below_new w (LHo h)).alloc (by simp) (.cells #[.string s] 9);have hs0:((w.alloc (LHo h)).alloc (.cells #[.string s] 9)).cell? ⟨w.heap.size+1,0,none⟩=some (.string s):=by simp
 have HA:=lh (asks_find hs0)
 have HI:Hid (Calls Tryz.prog 45 #[.slice h.sa h.sets.length h.sc,.func (.func 184) #[] #[.pointer (some ⟨w.heap.size+1,0,none⟩)]] ((w.alloc (LHo h)).alloc (.cells #[.string s] 9)) fun e w'=>e=.returned (.int .i64 (set_first h.sets (fun y=>decide (y.name=s))))∧Below ((w.alloc (LHo h)).alloc (.cells #[.string s] 9)).heap.size ((w.alloc (LHo h)).alloc (.cells #[.string s] 9)) w'):=lh
  (set_indexFunc h.sa h.sets h.sc _ _ _ (fun y=>decide (y.name=s)) _ ent_find (by have:=hh.slen;omega) (Nat.le_refl _) (hh.sets.grow hB) HA.out)
 have HBB:=lh hB;clear hs0 HA hB hh
 go_enter Tryz.func146,Tryz.ntmps146
 go_wp2_with (go_at_call 45;(with_reducible refine HI.out.mono ?_);rintro e w1 ⟨rfl,hb1⟩)
 go_ret;exact⟨rfl,HBB.out.trans (hb1.mono HBB.out.size)⟩
theorem housevalid_any(h:HouseR)(w:World)(hh:HouseIn w h):
  Calls Tryz.prog 94 #[.agg #[.string h.name,.int .i64 h.height,.slice h.sa h.sets.length h.sc,.slice h.ra h.roofs.length h.rc]] w fun e w'=>e=.returned (.bool (houseB h))∧Below w.heap.size w w':=by
 have HH:=lh hh;have hsl:=hh.slen;have hcap:=hh.scap;have HGV:Hid (∀w':World,Below w.heap.size w w'→Calls Tryz.prog 144 #[.slice h.ra h.roofs.length h.rc] w' fun e w2=>e=.returned (.bool (roofsB h.roofs))∧Below w'.heap.size w' w2):=lh fun w' hb=>gridvalid_any h.ra h.roofs h.rc w' hh.rlen hh.rcap (hh.roofs.grow hb)
 have HNO:Hid ((¬(isNameB h.name=true∧1≤h.height∧h.height≤1048576∧h.sets.length≤60∧RoofsOK h.roofs))→houseB h=false):=lh fun n=>by
  cases e:houseB h
  ·rfl
  ·obtain⟨a,b,c,d,e,_⟩:=houseB_iff.1 e
   exact absurd ⟨a,b,c,d,e⟩ n
 have hat:=HouseAt.new w h 25;obtain⟨sa,hsa⟩:=nm (h.sa);have HSA:=lh hsa;rw[hsa]at hat⊢;have HAT:=lh hat;have hW0:=below_new w (.cells #[.string h.name,.int .i64 h.height,.slice sa h.sets.length h.sc,.slice h.ra h.roofs.length h.rc] 25);clear hh hat hsa
 cases h1:isNameB h.name
 case false=>
  have H1:=lh h1;have HZ:=lh (HNO.out (fun q=>by rw[H1.out]at q;exact absurd q.1 (by decide)));clear h1
  go_enter Tryz.func94,Tryz.ntmps94
  go_upto_region 1 with (fail)
  generalize w.alloc (.cells #[.string h.name,.int .i64 h.height,.slice sa h.sets.length h.sc,.slice h.ra h.roofs.length h.rc] 25)=W0 at *;obtain⟨k0,k1,k2,k3⟩:=HAT.out;rw[HSA.out]at k2
  go_wp2_with (first
   | (go_at_call 143;(with_reducible refine(isName_any h.name _).mono ?_);rintro e w1 ⟨rfl,rfl⟩;rw[H1.out])
   | (go_at_call 144;(with_reducible refine(HGV.out _ hW0).mono ?_);rintro e w2 ⟨rfl,hb2⟩;rw[H5.out];clear k0 k1 k2 k3;obtain⟨k0,k1,k2,k3⟩:=HAT.out.carry hb2;rw[HSA.out]at k2))
  go_ret;exact⟨ret_bool HZ.out.symm,hW0⟩
 have H1:=lh h1;clear h1
 cases h2:decide (h.height<1)
 case true=>
  have H2:=lh h2;have HZ:=lh (HNO.out (fun q=>by have:=of_decide_eq_true H2.out;omega))
  go_enter Tryz.func94,Tryz.ntmps94
  go_upto_region 1 with (fail)
  generalize w.alloc (.cells #[.string h.name,.int .i64 h.height,.slice sa h.sets.length h.sc,.slice h.ra h.roofs.length h.rc] 25)=W0 at *;obtain⟨k0,k1,k2,k3⟩:=HAT.out;rw[HSA.out]at k2
  go_wp2_with (first
   | (go_at_call 143;(with_reducible refine(isName_any h.name _).mono ?_);rintro e w1 ⟨rfl,rfl⟩;rw[H1.out])
   | (go_at_call 144;(with_reducible refine(HGV.out _ hW0).mono ?_);rintro e w2 ⟨rfl,hb2⟩;rw[H5.out];clear k0 k1 k2 k3;obtain⟨k0,k1,k2,k3⟩:=HAT.out.carry hb2;rw[HSA.out]at k2))
  go_ret;exact⟨ret_bool HZ.out.symm,hW0⟩
 have H2:=lh h2
 cases h3:decide (1048576<h.height)
 case true=>
  have H3:=lh h3;have HZ:=lh (HNO.out (fun q=>by have:=of_decide_eq_true H3.out;omega))
  go_enter Tryz.func94,Tryz.ntmps94
  go_upto_region 1 with (fail)
  generalize w.alloc (.cells #[.string h.name,.int .i64 h.height,.slice sa h.sets.length h.sc,.slice h.ra h.roofs.length h.rc] 25)=W0 at *;obtain⟨k0,k1,k2,k3⟩:=HAT.out;rw[HSA.out]at k2
  go_wp2_with (first
   | (go_at_call 143;(with_reducible refine(isName_any h.name _).mono ?_);rintro e w1 ⟨rfl,rfl⟩;rw[H1.out])
   | (go_at_call 144;(with_reducible refine(HGV.out _ hW0).mono ?_);rintro e w2 ⟨rfl,hb2⟩;rw[H5.out];clear k0 k1 k2 k3;obtain⟨k0,k1,k2,k3⟩:=HAT.out.carry hb2;rw[HSA.out]at k2))
  go_ret;exact⟨ret_bool HZ.out.symm,hW0⟩
 have H3:=lh h3
 cases h4:decide ((60:Int)<(h.sets.length:Int))
 case true=>
  have H4:=lh h4;have HZ:=lh (HNO.out (fun q=>by have:=of_decide_eq_true H4.out;omega))
  go_enter Tryz.func94,Tryz.ntmps94
  go_upto_region 1 with (fail)
  generalize w.alloc (.cells #[.string h.name,.int .i64 h.height,.slice sa h.sets.length h.sc,.slice h.ra h.roofs.length h.rc] 25)=W0 at *;obtain⟨k0,k1,k2,k3⟩:=HAT.out;rw[HSA.out]at k2
  go_wp2_with (first
   | (go_at_call 143;(with_reducible refine(isName_any h.name _).mono ?_);rintro e w1 ⟨rfl,rfl⟩;rw[H1.out])
   | (go_at_call 144;(with_reducible refine(HGV.out _ hW0).mono ?_);rintro e w2 ⟨rfl,hb2⟩;rw[H5.out];clear k0 k1 k2 k3;obtain⟨k0,k1,k2,k3⟩:=HAT.out.carry hb2;rw[HSA.out]at k2))
  go_ret;exact⟨ret_bool HZ.out.symm,hW0⟩
 have H4:=lh h4
 cases h5:roofsB h.roofs
 case false=>
  have H5:=lh h5;have HZ:=lh (HNO.out (fun q=>by rw[roofsB_iff.2 q.2.2.2.2]at H5;exact absurd H5.out (by decide)));clear h5
  go_enter Tryz.func94,Tryz.ntmps94
  go_upto_region 1 with (fail)
  generalize w.alloc (.cells #[.string h.name,.int .i64 h.height,.slice sa h.sets.length h.sc,.slice h.ra h.roofs.length h.rc] 25)=W0 at *;obtain⟨k0,k1,k2,k3⟩:=HAT.out;rw[HSA.out]at k2
  go_wp2_with (first
   | (go_at_call 143;(with_reducible refine(isName_any h.name _).mono ?_);rintro e w1 ⟨rfl,rfl⟩;rw[H1.out])
   | (go_at_call 144;(with_reducible refine(HGV.out _ hW0).mono ?_);rintro e w2 ⟨rfl,hb2⟩;rw[H5.out];clear k0 k1 k2 k3;obtain⟨k0,k1,k2,k3⟩:=HAT.out.carry hb2;rw[HSA.out]at k2))
  go_ret;exact⟨ret_bool HZ.out.symm,hW0.trans (hb2.mono hW0.size)⟩
 have H5:=lh h5;clear h5;have HOK:Hid ((∀k,k<h.sets.length→SetAtOK h k)→houseB h=true):=lh fun q=>houseB_iff.2 ⟨H1.out,by have:=of_decide_eq_false H2.out;omega,by have:=of_decide_eq_false H3.out;omega,by have:=of_decide_eq_false H4.out;omega,roofsB_iff.1 H5.out,q⟩
 go_enter Tryz.func94,Tryz.ntmps94
 go_upto_region 1 with (fail)
 generalize w.alloc (.cells #[.string h.name,.int .i64 h.height,.slice sa h.sets.length h.sc,.slice h.ra h.roofs.length h.rc] 25)=W0 at *;obtain⟨k0,k1,k2,k3⟩:=HAT.out;rw[HSA.out]at k2
 go_wp2_with (first
   | (go_at_call 143;(with_reducible refine(isName_any h.name _).mono ?_);rintro e w1 ⟨rfl,rfl⟩;rw[H1.out])
   | (go_at_call 144;(with_reducible refine(HGV.out _ hW0).mono ?_);rintro e w2 ⟨rfl,hb2⟩;rw[H5.out];clear k0 k1 k2 k3;obtain⟨k0,k1,k2,k3⟩:=HAT.out.carry hb2;rw[HSA.out]at k2))
 have hB1:=hW0.trans (hb2.mono hW0.size);have HAT1:=lh (HAT.out.carry hb2);have hz:w.heap.size<w2.heap.size:=wl HAT1.out.1;clear k0 k1 k2 k3 hb2 hW0 h2 h3 h4 HNO HGV HAT
 go_loopw [34] (fun i wr=>∃k:Nat,k≤h.sets.length∧i=.int .i64 k∧Hid (∀j,j<k→SetAtOK h j)∧Below w2.heap.size w2 wr) (fun i _=>h.sets.length-(intOf i).toNat)
 case atStart=>exact⟨0,Nat.zero_le _,rfl,lh (fun _ h=>absurd h (Nat.not_lt_zero _)),br⟩
 case round=>
  obtain⟨k,hk,rfl,HO,hB⟩:=hrel;have HB:=lh hB
  by_cases hlt:k<h.sets.length
  ·have HIN:Hid (∀w':World,Below w2.heap.size w2 w'→HouseIn w' h):=lh fun w' q=>HH.out.grow (hB1.trans (q.mono hB1.size))
   obtain⟨b,off,esa,hb,hc⟩:=(HIN.out wr hB).sets (by omega);obtain rfl:sa=some ⟨b,off,none⟩:=HSA.out.symm.trans esa;have HSET:=lh ((HIN.out wr hB).all k hlt);obtain⟨c0,c1,c2,c3,c4,c5,c6,c7,c8,c9,c10,c11,c12⟩:=hc k hlt;have i0:0≤(k:Int):=by omega
   have i1:(k:Int)<(h.sets.length:Int):=by omega
   have s1:IntKind.i64.wrap ((k:Int)+1)=(k:Int)+1:=IntWalk.i64_in _ (by omega);have HN:Hid (¬SetAtOK h k→houseB h=false):=lh (house_no hlt);have HDEF:Hid (SetAtOK h k↔setB (hg h.sets k)=true∧(hg h.sets k).high≤h.height∧∀j,j<k→(hg h.sets j).name≠(hg h.sets k).name):=lh Iff.rfl;have HFX:=lh (find_at hlt)
   have HO2:Hid (SetAtOK h k→∀j,j<k+1→SetAtOK h j):=lh fun q j hj=>by
    rcases Nat.lt_or_eq_of_le (Nat.le_of_lt_succ hj)with l | l
    ·exact HO.out j l
    ·subst l;exact q
   generalize hg h.sets k=x at *;have HNEW:=lh (SetAt.new wr x 59);have hBW:=below_new wr (LSe x);have hz2:wr.heap.size<(wr.alloc (LSe x)).heap.size:=by simp
   clear hc HO esa
   go_upto_region 6 with (fail)
   clear c0 c1 c2 c3 c4 c5 c6 c7 c8 c9 c10 c11 c12;obtain⟨B,hBe⟩:=nm (wr.heap.size);simp only[hBe]at HNEW hz2⊢;generalize wr.alloc (LSe x)=W1 at *;have hBX:Below w2.heap.size w2 W1:=HB.out.trans (hBW.mono HB.out.size);have HHW:=lh (HIN.out W1 hBX);have HBV:=lh (batvalid_any x W1 (HSET.out.grow hBW));have x0:∀wx,Below W1.heap.size W1 wx→wx.cell? ⟨B,0,none⟩=some (.string x.name):=fun wx q=>(HNEW.out.below q hz2).1;have x3:∀wx,Below W1.heap.size W1 wx→wx.cell? ⟨B,3,none⟩=some (.int .i64 x.high):=fun wx q=>(HNEW.out.below q hz2).2.2.2.1;obtain⟨d0,d1,d2,d3,d4,d5,d6,d7,d8,d9,d10,d11,d12⟩:=HNEW.out;have HY:Hid (∀wx,Below W1.heap.size W1 wx→HouseAt wx w.heap.size h):=lh fun wx q=>HAT1.out.carry (hBX.trans (q.mono hBX.size));have y0:∀wx,Below W1.heap.size W1 wx→wx.cell? ⟨w.heap.size,0,none⟩=some (.string h.name):=fun wx q=>(HY.out wx q).1;have y1:∀wx,Below W1.heap.size W1 wx→wx.cell? ⟨w.heap.size,1,none⟩=some (.int .i64 h.height):=fun wx q=>(HY.out wx q).2.1;have y2:∀wx,Below W1.heap.size W1 wx→wx.cell? ⟨w.heap.size,2,none⟩=some (.slice (some ⟨b,off,none⟩) h.sets.length h.sc):=fun wx q=>by have:=(HY.out wx q).2.2.1;rwa [HSA.out]at this
   have y3:∀wx,Below W1.heap.size W1 wx→wx.cell? ⟨w.heap.size,3,none⟩=some (.slice h.ra h.roofs.length h.rc):=fun wx q=>(HY.out wx q).2.2.2;clear hB hBW
   cases h6:setB x
   ·have H6:=lh h6
    have HZ:=lh (HN.out (fun q=>by have:=(HDEF.out.1 q).1;rw[H6.out]at this;cases this));rw[h6]at HBV;clear h6
    go_wp2_with (first
     | (go_at_call 145;(with_reducible refine HBV.out.mono ?_);rintro e w3 ⟨rfl,hb3⟩))
    go_ret;exact⟨ret_bool HZ.out.symm,hB1.trans ((hBX.trans (hb3.mono hBX.size)).mono hB1.size)⟩
   have H6:=lh h6;rw[h6]at HBV;clear h6
   cases h7:decide (h.height<x.high)
   case true=>
    have H7:=lh h7;have HZ:=lh (HN.out (fun q=>by have:=(HDEF.out.1 q).2.1;have e:=of_decide_eq_true H7.out;omega))
    go_wp2_with (first
     | (go_at_call 145;(with_reducible refine HBV.out.mono ?_);rintro e w3 ⟨rfl,hb3⟩))
    go_ret;exact⟨ret_bool HZ.out.symm,hB1.trans ((hBX.trans (hb3.mono hBX.size)).mono hB1.size)⟩
   have H7:=lh h7
   have HFI:Hid (∀wx,Below W1.heap.size W1 wx→Calls Tryz.prog 146 #[.agg #[.string h.name,.int .i64 h.height,.slice (some ⟨b,off,none⟩) h.sets.length h.sc,.slice h.ra h.roofs.length h.rc],.string x.name] wx fun e w'=>e=.returned (.int .i64 (findS h.sets x.name))∧Below wx.heap.size wx w'):=lh fun wx q=>by
    have:=hfind_any h x.name wx (HIN.out wx (hBX.trans (q.mono hBX.size)))
    rwa [HSA.out]at this
   obtain⟨F,hF⟩:=nm (findS h.sets x.name);rw[hF]at HFI HFX
   by_cases h8:F=(k:Int)
   ·have g8:(F !=(k:Int))=false:=by simpa using h8
    have HT:=lh (HO2.out (HDEF.out.2 ⟨H6.out,by have:=of_decide_eq_false H7.out;omega,HFX.out.1 h8⟩));clear h8 hF
    go_wp2_with (first
     | (go_at_call 145;(with_reducible refine HBV.out.mono ?_);rintro e w3 ⟨rfl,hb3⟩)
     | (go_at_call 146;(with_reducible refine(HFI.out _ hb3).mono ?_);rintro e w4 ⟨rfl,hb4⟩))
    go_roundw
    case rel=>exact⟨k+1,by omega,by go_num,HT,hBX.trans ((hb3.trans (hb4.mono hb3.size)).mono hBX.size)⟩
    case measure=>simp[intOf];omega
   ·have g8:(F !=(k:Int))=true:=by simpa using h8
    have HZ:=lh (HN.out (fun q=>h8 (HFX.out.2 (HDEF.out.1 q).2.2)));clear h8 hF
    go_wp2_with (first
     | (go_at_call 145;(with_reducible refine HBV.out.mono ?_);rintro e w3 ⟨rfl,hb3⟩)
     | (go_at_call 146;(with_reducible refine(HFI.out _ hb3).mono ?_);rintro e w4 ⟨rfl,hb4⟩))
    go_ret;exact⟨ret_bool HZ.out.symm,hB1.trans ((hBX.trans ((hb3.trans (hb4.mono hb3.size)).mono hBX.size)).mono hB1.size)⟩
  ·obtain rfl:k=h.sets.length:=by omega
   have HR:=lh (HOK.out HO.out)
   go_wp2_with fail
   go_ret;exact⟨ret_bool HR.out.symm,hB1.trans (hB.mono hB1.size)⟩
structure SheetIn(w:World)(s:SheetR):Prop extends SheetIn0 w s where
 clen:s.cues.length≤1000
 mlen:∀i,i<s.cues.length→(cg s.cues i).moves.length≤1000
 names:NamesOK s.pairs
theorem SheetIn.grow{w w':World}{s:SheetR}(x:SheetIn w s)(hb:Below w.heap.size w w'):SheetIn w' s:=⟨x.toSheetIn0.grow hb,x.clen,x.mlen,x.names⟩
abbrev LTw(w:World)(h:HouseR)(s:SheetR):World:=(w.alloc (LHo h)).alloc (LSh s)
theorem o1{h:HouseR}{s:SheetR}{w:World}{ga:Option Addr}{G:List Int}(hh:HouseIn w h)(hs:SheetIn w s)(hG:Nums w.heap.size w ga G):Below w.heap.size w (LTw w h s)∧Hid (∀w',Below (LTw w h s).heap.size (LTw w h s) w'→HouseAt w' w.heap.size h∧SheetAt w' (w.heap.size+1) s∧HouseIn w' h∧SheetIn w' s∧Nums w'.heap.size w' ga G)∧Hid (∀w',Below (LTw w h s).heap.size (LTw w h s) w'→Below w.heap.size w w'):=by
 have hb0:Below w.heap.size w (LTw w h s):=(below_new w _).alloc (by simp) _;exact⟨hb0,lh fun w' z=>⟨((HouseAt.new w h _).carry (below_new _ _)).carry z,(show SheetAt (LTw w h s) (w.heap.size+1) s by unfold SheetAt;simp).carry z,(hh.grow hb0).grow z,(hs.grow hb0).grow z,(hG.grow hb0).grow z⟩,lh fun w' z=>hb0.trans (z.mono hb0.size)⟩
theorem o2{h:HouseR}{s:SheetR}{w:World}(hh:HouseIn w h)(hs:SheetIn w s):Below w.heap.size w (LTw w h s)∧Hid (∀w',Below (LTw w h s).heap.size (LTw w h s) w'→HouseAt w' w.heap.size h∧SheetAt w' (w.heap.size+1) s∧HouseIn w' h∧SheetIn w' s)∧Hid (∀w',Below (LTw w h s).heap.size (LTw w h s) w'→Below w.heap.size w w'):=by
 have hb0:Below w.heap.size w (LTw w h s):=(below_new w _).alloc (by simp) _;exact⟨hb0,lh fun w' z=>⟨((HouseAt.new w h _).carry (below_new _ _)).carry z,(show SheetAt (LTw w h s) (w.heap.size+1) s by unfold SheetAt;simp).carry z,(hh.grow hb0).grow z,(hs.grow hb0).grow z⟩,lh fun w' z=>hb0.trans (z.mono hb0.size)⟩
theorem o3{h:HouseR}{s:SheetR}{w:World}{ga:Option Addr}{G:List Int}(hh:HouseIn0 w h)(hs:SheetIn0 w s)(hG:Nums w.heap.size w ga G):Below w.heap.size w (LTw w h s)∧Hid (∀w',Below (LTw w h s).heap.size (LTw w h s) w'→HouseAt w' w.heap.size h∧SheetAt w' (w.heap.size+1) s∧HouseIn0 w' h∧SheetIn0 w' s∧Nums w'.heap.size w' ga G)∧Hid (∀w',Below (LTw w h s).heap.size (LTw w h s) w'→Below w.heap.size w w'):=by
 have hb0:Below w.heap.size w (LTw w h s):=(below_new w _).alloc (by simp) _;exact⟨hb0,lh fun w' z=>⟨((HouseAt.new w h _).carry (below_new _ _)).carry z,(show SheetAt (LTw w h s) (w.heap.size+1) s by unfold SheetAt;simp).carry z,(hh.grow hb0).grow z,(hs.grow hb0).grow z,(hG.grow hb0).grow z⟩,lh fun w' z=>hb0.trans (z.mono hb0.size)⟩
noncomputable def hangB(C:List CueR)(k:Nat):Bool:=@decide (HangsOK C k) (Classical.propDecidable _)
theorem hangB_iff{C:List CueR}{k:Nat}:hangB C k=true↔HangsOK C k:=by exact @decide_eq_true_iff (HangsOK C k) (Classical.propDecidable _)
theorem hang_no{C:List CueR}{k:Nat}(n:¬HangsOK C k):hangB C k=false:=by
 cases e:hangB C k
 ·rfl
 ·exact absurd (hangB_iff.1 e) n
theorem findI_range(C:List CueR)(s:ByteArray):findI C s=-1∨∃k:Nat,k<C.length∧findI C s=k∧(cg C k).name=s∧∀j,j<k→(cg C j).name≠s:=by
 unfold findI;rcases cue_first_cases C (fun r=>decide (r.name=s))with ⟨e,_⟩ | ⟨i,hi,e,hn,ha⟩
 ·exact .inl e
 ·exact .inr ⟨i,hi,e,by simpa using hn,fun j hj=>by simpa using ha j hj⟩
theorem cg_take{C:List CueR}{k j:Nat}(h:j<k):cg (C.take k) j=cg C j:=by unfold cg;rw[List.getElem?_take,if_pos h]
theorem findI_take(C:List CueR)(k:Nat)(s:ByteArray):0≤findI (C.take k) s↔0≤findI C s∧findI C s<(k:Int):=by
 rcases findI_range C s with e | ⟨i,hi,e,hn,ha⟩
 ·rcases findI_range (C.take k) s with f | ⟨j,hj,f,gn,_⟩
  ·omega
  ·rw[List.length_take]at hj
   rw[cg_take (by omega)]at gn;unfold findI at e;rcases cue_first_cases C (fun r=>decide (r.name=s))with ⟨_,n⟩ | ⟨i,hi,e2,_⟩
   ·have:=n j (by omega);rw[gn]at this;simp at this
   ·omega
 ·rcases findI_range (C.take k) s with f | ⟨j,hj,f,gn,ga⟩
  ·constructor
   ·intro q;omega
   ·rintro ⟨_,q⟩
    unfold findI at f;rcases cue_first_cases (C.take k) (fun r=>decide (r.name=s))with ⟨_,n⟩ | ⟨i2,hi2,e2,_⟩
    ·have:=n i (by rw[List.length_take];omega);rw[cg_take (by omega),hn]at this;simp at this
    ·omega
  ·rw[List.length_take]at hj
   rw[cg_take (by omega)]at gn;have:¬j<i:=fun q=>ha j q gn;omega
theorem name_empty:isNameB ⟨#[]⟩=false:=by decide
theorem cuevalid_any(h:HouseR)(s:SheetR)(w:World)(hh:HouseIn w h)(hs:SheetIn w s):
  Calls Tryz.prog 56 #[.agg #[.string h.name,.int .i64 h.height,.slice h.sa h.sets.length h.sc,.slice h.ra h.roofs.length h.rc],.agg #[.slice s.ca s.cues.length s.cc,.slice s.pa s.pairs.length s.pc]] w fun e w'=>e=.returned (.bool (sheetB h s))∧Below w.heap.size w w':=by
 obtain⟨hb0,HX,HW⟩:=o2 hh hs;have hsl:=hh.slen;have hcl:=hs.clen;have hccap:=hs.ccap;have HML:=lh hs.mlen;have HMC:=lh hs.mcap;have HNN:=lh hs.names;have HNO:=lh fun (n:¬SheetOK h s)=>sheet_no n;clear hh hs hb0
 go_enter Tryz.func56,Tryz.ntmps56
 go_upto_region 1 with (fail)
 obtain⟨W0,hW0⟩:=nm ((LTw w h s):World);simp only[hW0]at HX HW⊢;clear hW0;obtain⟨B1,hB1⟩:=nm (w.heap.size);obtain⟨B2,hB2⟩:=nm (w.heap.size+1);rw[hB2]at HX⊢;rw[hB1]at HX⊢;clear hB1 hB2;obtain⟨⟨a0,a1,a2,a3⟩,⟨s0,s1⟩,-,-⟩:=HX.out _ br
 cases hv:houseB h
 case false=>
  have HV:=lh hv;have HZ:=lh (HNO.out fun z=>by have:=z.house;rw[HV.out]at this;cases this);clear hv
  go_wp2_with (go_at_call 94;(with_reducible refine(housevalid_any h _ (HX.out _ br).2.2.1).mono ?_);rintro e w1 ⟨rfl,hb1⟩;rw[HV.out])
  go_ret;exact⟨ret_bool HZ.out.symm,HW.out _ hb1⟩
 have HV:=lh hv;clear hv;obtain⟨ca,hca⟩:=nm (s.ca);have HCA:=lh hca;rw[hca]at s0⊢
 by_cases hl60:60<s.cues.length
 ·have HZ:=lh (HNO.out fun z=>by have:=z.cues;omega)
  have g1:decide ((60:Int)<(s.cues.length:Int))=true:=dT (by omega);clear hl60
  go_wp2_with (go_at_call 94;(with_reducible refine(housevalid_any h _ (HX.out _ br).2.2.1).mono ?_);rintro e w1 ⟨rfl,hb1⟩;rw[HV.out];obtain⟨-,⟨t0,t1⟩,-,-⟩:=HX.out _ hb1)
  go_ret;exact⟨ret_bool HZ.out.symm,HW.out _ hb1⟩
 have g1:decide ((60:Int)<(s.cues.length:Int))=false:=dF (by omega)
 go_upto_region 5 with (go_at_call 94;(with_reducible refine(housevalid_any h _ (HX.out _ br).2.2.1).mono ?_);rintro e w1 ⟨rfl,hb1⟩;rw[HV.out];obtain⟨-,⟨t0,t1⟩,-,-⟩:=HX.out _ hb1;rw[hca]at t0)
 clear a0 a1 a2 a3 s0 s1 t0 t1 hca
 go_loopw [5,20,6,7] (fun mv iv _ _ wr=>∃k:Nat,mv=.int .i64 ((movesOf (s.cues.take k)).length:Int)∧iv=.int .i64 k∧k≤s.cues.length∧(movesOf (s.cues.take k)).length≤100∧Hid (∀j,j<k→CueAtOK h s.cues j)∧Below W0.heap.size W0 wr) (fun _ iv _ _ _=>s.cues.length-(intOf iv).toNat)
 case atStart=>exact⟨0,rfl,rfl,Nat.zero_le _,by simp[movesOf],lh (fun _ z=>absurd z (Nat.not_lt_zero _)),hb1⟩
 case round=>
  clear hb1;obtain⟨k,rfl,rfl,hk,hmt,HA,hB⟩:=hrel;have HIN:=lh (HX.out _ hB).2.2
  by_cases hlt:k<s.cues.length
  ·obtain⟨cb,co,ha,hcb,hcc⟩:=HIN.out.2.lies (by omega)
   rw[HCA.out]at ha;subst ha;obtain⟨d0,d1,d2,d3,d4,d5,d6⟩:=hcc k hlt;have HMV:=lh (HIN.out.2.each k hlt);have HNK:Hid (¬CueAtOK h s.cues k→sheetB h s=false):=lh fun n=>HNO.out fun z=>n (z.each k hlt)
   have HNX:Hid (CueAtOK h s.cues k→∀j,j<k+1→CueAtOK h s.cues j):=lh fun z j hj=>by
    rcases Nat.lt_or_ge j k with l | l
    ·exact HA.out j l
    ·obtain rfl:j=k:=by omega
     exact z
   have HMT:Hid ((movesOf (s.cues.take (k+1))).length=(movesOf (s.cues.take k)).length+(cg s.cues k).moves.length):=lh (by rw[movesOf_next _ hlt,List.length_append]);have HMP:=lh (movesOf_part s.cues (k+1));have hmk:=HML.out k hlt;have hmcap:=HMC.out k hlt;obtain⟨q,hq⟩:=nm (cg s.cues k);have HQK:=lh hq;rw[hq]at d0 d1 d2 d3 d4 d5 d6 HMV HMT hmk hmcap;obtain⟨mt,hmt2⟩:=nm ((movesOf (s.cues.take k)).length:Nat);rw[hmt2]at HMT hmt⊢;clear hq hcc hmt2;have HBX:=lh (hB.alloc hB.size (LCu q));have HAX:Hid (CueAt (wr.alloc (LCu q)) wr.heap.size q):=lh (CueAt.new wr q _ _ rfl);have HMV3:=lh (HMV.out.grow (below_new wr (LCu q)))
   go_upto_region 8 with (fail)
   generalize wr.alloc (LCu q)=W3 at *;obtain⟨B4,hB4⟩:=nm (wr.heap.size);rw[hB4]at HAX⊢;obtain⟨⟨a0,a1,a2,a3⟩,⟨s0,s1⟩,hin,sin⟩:=HX.out _ HBX.out;obtain⟨c0,c1,c2,c3,c4,c5,c6⟩:=HAX.out;rw[HCA.out]at s0;have HHI:=lh hin;have HSI:=lh sin;clear hB4 d0 d1 d2 d3 d4 d5 d6 hin sin hB HMV HIN
   by_cases hm100:100<mt+q.moves.length
   ·have HZ:=lh (HNO.out fun z=>by have:=z.moves;have:=HMP.out;rw[HMT.out]at this;omega)
    have g2:decide ((100:Int)<(mt:Int)+(q.moves.length:Int))=true:=dT (by omega);clear hm100
    go_wp2_with fail
    go_ret;exact⟨ret_bool HZ.out.symm,HW.out _ HBX.out⟩
   have g2:decide ((100:Int)<(mt:Int)+(q.moves.length:Int))=false:=dF (by omega);have HM1:Hid (mt+q.moves.length≤100):=lh (by omega);clear hm100
   cases hr:rightB h q
   case false=>
    have HR:=lh hr;have HZ:=lh (HNK.out fun z=>by have:=rightB_iff.2 z.1;rw[HQK.out,HR.out]at this;cases this);clear hr
    go_wp2_with (go_at_call 95;(with_reducible refine(right_any h q _ HHI.out.toHouseIn0 hsl HMV3.out hmk hmcap).mono ?_);rintro e w4 ⟨rfl,hb4⟩;rw[HR.out];have hB4:=HBX.out.trans (hb4.mono HBX.out.size);have HC4:=lh (HAX.out.carry hb4);obtain⟨⟨x0,x1,x2,x3⟩,⟨y0,y1⟩,-,-⟩:=HX.out _ hB4;rw[HCA.out]at y0;obtain⟨z0,z1,z2,z3,z4,z5,z6⟩:=HC4.out)
    go_ret;exact⟨ret_bool HZ.out.symm,HW.out _ hB4⟩
   have HR:=lh hr;clear hr;obtain⟨f,hf⟩:=nm (findI s.cues q.name);have HF:=lh hf;clear hf
   by_cases hfk:f=(k:Int)
   case neg=>
    have HZ:=lh (HNK.out fun z=>hfk (by have:=z.2.1;rw[HQK.out,HF.out]at this;exact this));have g3:(f !=(k:Int))=true:=bne_iff_ne.2 hfk;clear hfk
    go_wp2_with (first
     | (go_at_call 95;(with_reducible refine(right_any h q _ HHI.out.toHouseIn0 hsl HMV3.out hmk hmcap).mono ?_);rintro e w4 ⟨rfl,hb4⟩;rw[HR.out];have hB4:=HBX.out.trans (hb4.mono HBX.out.size);have HC4:=lh (HAX.out.carry hb4);obtain⟨⟨x0,x1,x2,x3⟩,⟨y0,y1⟩,-,-⟩:=HX.out _ hB4;rw[HCA.out]at y0;obtain⟨z0,z1,z2,z3,z4,z5,z6⟩:=HC4.out)
     | (go_at_call 96;(with_reducible refine(cfind_any (some ⟨cb,co,none⟩) s.cues _ q.name _ (by rw[←HCA.out];exact(HX.out _ hB4).2.2.2.lies) hcl).mono ?_);rintro e w5 ⟨rfl,hb5⟩;rw[HF.out];have hB5:=hB4.trans (hb5.mono hB4.size);have HC5:=lh (HC4.out.carry hb5);obtain⟨-,⟨u0,u1⟩,-,-⟩:=HX.out _ hB5))
    go_ret;exact⟨ret_bool HZ.out.symm,HW.out _ hB5⟩
   subst hfk
   go_upto_region 10 with (first
    | (go_at_call 95;(with_reducible refine(right_any h q _ HHI.out.toHouseIn0 hsl HMV3.out hmk hmcap).mono ?_);rintro e w4 ⟨rfl,hb4⟩;rw[HR.out];have hB4:=HBX.out.trans (hb4.mono HBX.out.size);have HC4:=lh (HAX.out.carry hb4);obtain⟨⟨x0,x1,x2,x3⟩,⟨y0,y1⟩,-,-⟩:=HX.out _ hB4;rw[HCA.out]at y0;obtain⟨z0,z1,z2,z3,z4,z5,z6⟩:=HC4.out)
    | (go_at_call 96;(with_reducible refine(cfind_any (some ⟨cb,co,none⟩) s.cues _ q.name _ (by rw[←HCA.out];exact(HX.out _ hB4).2.2.2.lies) hcl).mono ?_);rintro e w5 ⟨rfl,hb5⟩;rw[HF.out];have hB5:=hB4.trans (hb5.mono hB4.size);have HC5:=lh (HC4.out.carry hb5);obtain⟨-,⟨u0,u1⟩,-,-⟩:=HX.out _ hB5))
   clear a0 a1 a2 a3 s0 s1 c0 c1 c2 c3 c4 c5 c6 g2 hmt x0 x1 x2 x3 y0 y1 z0 z1 z2 z3 z4 z5 z6 u0 u1;obtain⟨W2,hW2⟩:=nm (w5:World);subst hW2
   have HY:Hid (∀w',Below w5.heap.size w5 w'→SheetAt w' B2 s∧Cues w'.heap.size w' (some ⟨cb,co,none⟩) s.cues∧CueAt w' B4 q):=lh fun w' z=>by
    obtain⟨-,a,-,b⟩:=HX.out w' (hB5.trans (z.mono hB5.size));exact⟨a,by rw[←HCA.out];exact b.lies,HC5.out.carry z⟩
   have HQ5:=lh hB5
   go_cut [68] (fun v wx=>v=.bool (!hangB s.cues k)∧Below w5.heap.size w5 wx)
   case first=>
    have y0:∀w',Below w5.heap.size w5 w'→w'.cell? ⟨B2,0,none⟩=some (.slice (some ⟨cb,co,none⟩) s.cues.length s.cc):=fun w' z=>by rw[←HCA.out];exact(HY.out w' z).1.1
    have z1:∀w',Below w5.heap.size w5 w'→w'.cell? ⟨B4,1,none⟩=some (.string q.after):=fun w' z=>(HY.out w' z).2.2.2.1;have z2:∀w',Below w5.heap.size w5 w'→w'.cell? ⟨B4,2,none⟩=some (.int .i64 q.link):=fun w' z=>(HY.out w' z).2.2.2.2.1;have k0:(0:Int)≤(k:Int):=by omega
    have k1:(k:Int)≤(s.cc:Int):=by omega
    have HNH:=lh fun (n:¬HangsOK s.cues k)=>hang_no n;have HLT:=lh hlt;clear hlt hk hB5
    by_cases hl1:q.link=1
    ·have g2:(q.link==1)=true:=beq_iff_eq.2 hl1
     have g3:(q.link !=1)=false:=by rw[hl1];rfl
     have HL1:=lh hl1;clear hl1
     by_cases he:q.after.toList=[]
     ·have he2:(!q.after.toList.isEmpty)=false:=by rw[he];rfl
      have he3:q.after.toList.isEmpty=true:=by rw[he];rfl
      have HMB:Hid (hangB s.cues k=true):=lh (hangB_iff.2 ⟨fun _=>by rw[HQK.out];exact(nil_iff _).1 he,fun n=>by rw[HQK.out]at n;exact absurd HL1.out n⟩);refine wp_region_held_drew (S:=(fun w'=>Below w5.heap.size w5 w')) (by kernel_rfl) ((br).drew) (fun hHeld=>?_);refine tk 0 ?_;refine tk 1 ?_;refine tk 2 ?_;refine tk 3 ?_;refine tk 4 ?_;refine tk 5 ?_;refine tk 6 ?_;refine tk 7 ?_;refine tk 8 ?_;refine tk 9 ?_;refine tk 10 ?_;refine tk 11 ?_;refine sk 12 ?_;refine sk 13 ?_;refine sk 14 ?_;refine sk 15 ?_;refine sk 16 ?_;refine sk 17 ?_;refine sk 18 ?_;refine sk 19 ?_;refine tk 20 ?_;refine tk 21 ?_;refine wpAnyH_done (by kernel_rfl) ?_ _
      go_wp2_with fail
      go_meet
      exact⟨by rw[HMB.out];rfl,hHeld⟩
     ·have he2:q.after.toList.isEmpty=false:=by
       cases e:q.after.toList.isEmpty
       ·rfl
       ·exact absurd (List.isEmpty_iff.1 e) he
      have HMB:=lh (HNH.out fun z=>he ((nil_iff _).2 (by have:=z.1;rw[HQK.out]at this;exact this HL1.out)));have HE:=lh he;refine wp_region_held_drew (S:=(fun w'=>Below w5.heap.size w5 w')) (by kernel_rfl) ((br).drew) (fun hHeld=>?_);refine tk 0 ?_;refine tk 1 ?_;refine tk 2 ?_;refine tk 3 ?_;refine tk 4 ?_;refine tk 5 ?_;refine tk 6 ?_;refine tk 7 ?_;refine sk 8 ?_;refine sk 9 ?_;refine sk 10 ?_;refine sk 11 ?_;refine sk 12 ?_;refine sk 13 ?_;refine sk 14 ?_;refine sk 15 ?_;refine sk 16 ?_;refine sk 17 ?_;refine sk 18 ?_;refine sk 19 ?_;refine sk 20 ?_;refine tk 21 ?_;refine wpAnyH_done (by kernel_rfl) ?_ _
      go_wp2_with fail
      go_meet
      exact⟨by rw[HMB.out];rfl,hHeld⟩
    ·have g2:(q.link==1)=false:=beq_eq_false_iff_ne.2 hl1
     have g3:(q.link !=1)=true:=bne_iff_ne.2 hl1;have HL1:=lh hl1;clear hl1
     by_cases he:q.after.toList=[]
     ·have he3:q.after.toList.isEmpty=true:=by rw[he];rfl
      have HMB:=lh (HNH.out fun z=>by
       have h2:=z.2;rw[HQK.out]at h2;obtain⟨f0,f1⟩:=h2 HL1.out;rw[(nil_iff _).1 he]at f0 f1;rcases findI_range s.cues ⟨#[]⟩with e | ⟨j,hj,e,hn,_⟩
       ·omega
       ·have:=(HA.out j (by omega)).1.1.name
        rw[hn,name_empty]at this
        cases this)
      refine wp_region_held_drew (S:=(fun w'=>Below w5.heap.size w5 w')) (by kernel_rfl) ((br).drew) (fun hHeld=>?_);refine tk 0 ?_;refine tk 1 ?_;refine tk 2 ?_;refine tk 3 ?_;refine tk 4 ?_;refine tk 5 ?_;refine tk 6 ?_;refine tk 7 ?_;refine sk 8 ?_;refine sk 9 ?_;refine sk 10 ?_;refine sk 11 ?_;refine sk 12 ?_;refine sk 13 ?_;refine sk 14 ?_;refine sk 15 ?_;refine sk 16 ?_;refine sk 17 ?_;refine sk 18 ?_;refine sk 19 ?_;refine sk 20 ?_;refine tk 21 ?_;refine wpAnyH_done (by kernel_rfl) ?_ _
      go_wp2_with fail
      go_meet
      exact⟨by rw[HMB.out];rfl,hHeld⟩
     ·have he2:q.after.toList.isEmpty=false:=by
       cases e:q.after.toList.isEmpty
       ·rfl
       ·exact absurd (List.isEmpty_iff.1 e) he
      have HTK:Hid ((s.cues.take k).length=k):=lh (by rw[List.length_take];have:=HLT.out;omega)
      have HCF:Hid (∀w',Below w5.heap.size w5 w'→Calls Tryz.prog 96 #[.slice (some ⟨cb,co,none⟩) k s.cc,.string q.after] w' fun e w2=>e=.returned (.int .i64 (findI (s.cues.take k) q.after))∧Below w'.heap.size w' w2):=lh fun w' z=>by
       have:=cfind_any (some ⟨cb,co,none⟩) (s.cues.take k) s.cc q.after w' ((HY.out w' z).2.1.take k) (by rw[HTK.out];have:=HLT.out;omega);rw[HTK.out]at this;exact this
      obtain⟨f,hft⟩:=nm (findI (s.cues.take k) q.after);have HFT:=lh hft
      have HFH:Hid (HangsOK s.cues k↔0≤f):=lh (by
       rw[←hft,findI_take];unfold HangsOK;rw[HQK.out];exact⟨fun z=>z.2 HL1.out,fun z=>⟨fun n=>absurd n HL1.out,fun _=>z⟩⟩)
      clear hft
      by_cases hf0:f<0
      ·have HMB:=lh (HNH.out fun z=>by have:=HFH.out.1 z;omega)
       have g4:decide (f<0)=true:=decide_eq_true hf0;clear hf0;refine wp_region_held_drew (S:=(fun w'=>Below w5.heap.size w5 w')) (by kernel_rfl) ((br).drew) (fun hHeld=>?_);refine tk 0 ?_;refine tk 1 ?_;refine tk 2 ?_;refine tk 3 ?_;refine tk 4 ?_;refine tk 5 ?_;refine tk 6 ?_;refine tk 7 ?_;refine tk 8 ?_;refine tk 9 ?_;refine tk 10 ?_;refine tk 11 ?_;refine tk 12 ?_;refine tk 13 ?_;refine tk 14 ?_;refine tk 15 ?_;refine tk 16 ?_;refine tk 17 ?_;refine r1 18 (fun K hK=>?_)
       try simp only[s_4,s_5,s_6]
       go_simp
       (go_at_call 96;go_split_ands;(with_reducible refine(HCF.out _ hHeld).mono ?_);rintro e w6 ⟨rfl,hb6⟩;rw[HFT.out])
       go_wp2_with fail
       refine hK.out _ _ (hHeld.trans (hb6.mono hHeld.size)) (fun hHeld=>?_);clear hK K
       try simp only[Act.put,s_1,s_2,s_3,s_4,s_5,s_6]
       refine tk 19 ?_;refine tk 20 ?_;refine tk 21 ?_;refine wpAnyH_done (by kernel_rfl) ?_ _
       go_wp2_with fail
       go_meet
       exact⟨by rw[HMB.out];rfl,hHeld⟩
      ·have HMB:Hid (hangB s.cues k=true):=lh (hangB_iff.2 (HFH.out.2 (by omega)))
       have g4:decide (f<0)=false:=decide_eq_false hf0;clear hf0;refine wp_region_held_drew (S:=(fun w'=>Below w5.heap.size w5 w')) (by kernel_rfl) ((br).drew) (fun hHeld=>?_);refine tk 0 ?_;refine tk 1 ?_;refine tk 2 ?_;refine tk 3 ?_;refine tk 4 ?_;refine tk 5 ?_;refine tk 6 ?_;refine tk 7 ?_;refine tk 8 ?_;refine tk 9 ?_;refine tk 10 ?_;refine tk 11 ?_;refine tk 12 ?_;refine tk 13 ?_;refine tk 14 ?_;refine tk 15 ?_;refine tk 16 ?_;refine tk 17 ?_;refine r1 18 (fun K hK=>?_)
       try simp only[s_4,s_5,s_6]
       go_simp
       (go_at_call 96;go_split_ands;(with_reducible refine(HCF.out _ hHeld).mono ?_);rintro e w6 ⟨rfl,hb6⟩;rw[HFT.out])
       go_wp2_with fail
       refine hK.out _ _ (hHeld.trans (hb6.mono hHeld.size)) (fun hHeld=>?_);clear hK K
       try simp only[Act.put,s_1,s_2,s_3,s_4,s_5,s_6]
       refine tk 19 ?_;refine tk 20 ?_;refine tk 21 ?_;refine wpAnyH_done (by kernel_rfl) ?_ _
       go_wp2_with fail
       go_meet
       exact⟨by rw[HMB.out];rfl,hHeld⟩
   case rest=>
   obtain⟨rfl,hbc⟩:=hcut;have hqc:=HQ5.out.trans (hbc.mono HQ5.out.size)
   cases hmb2:hangB s.cues k
   ·have HZ:=lh (HNK.out fun z=>by have:=hangB_iff.2 z.2.2;rw[hmb2]at this;cases this)
    clear hmb2
    go_wp2_with fail
    go_ret;exact⟨ret_bool HZ.out.symm,HW.out _ hqc⟩
   ·have HA2:=lh (HNX.out ⟨by rw[HQK.out];exact rightB_iff.1 HR.out,by rw[HQK.out];exact HF.out,hangB_iff.1 hmb2⟩)
    have hm1:=HM1.out;clear hmb2
    go_wp2_with fail
    go_roundw
    case rel=>exact⟨k+1,by rw[HMT.out];go_num,by go_num,by omega,by rw[HMT.out];exact hm1,HA2,hqc⟩
    case measure=>simp[intOf];omega
  ·obtain rfl:k=s.cues.length:=by omega
   rw[List.take_length]at hmt⊢;obtain⟨⟨a0,a1,a2,a3⟩,⟨s0,s1⟩,-,-⟩:=HX.out _ hB;have HCP:=lh (capart_any s _ HIN.out.2.toSheetIn0 hcl HNN.out);rw[HCA.out]at HCP s0
   have HZ:Hid (sheetB h s=pairsB s.cues s.pairs):=lh (by
    cases e:pairsB s.cues s.pairs
    ·exact HNO.out fun z=>by rw[pairsB_iff.2 z.pairs]at e;cases e
    ·exact sheetB_iff.2 ⟨HV.out,by omega,hmt,HA.out,pairsB_iff.1 e⟩)
   go_wp2_with (go_at_call 97;(with_reducible refine HCP.out.mono ?_);rintro e w5 ⟨rfl,hb5⟩)
   go_ret;exact⟨ret_bool HZ.out.symm,HW.out _ (hB.trans (hb5.mono hB.size))⟩
def SmallP(r:SetR)(most:Int):Prop:=r.name.size≤60∧r.lines.length≤12∧((r.items.length:Int)≤most∨40<r.items.length)∧r.items.length≤45∧r.bricks.length≤10∧(∀j,j<r.items.length→(tg r.items j).name.size≤60)∧∀j,j<r.bricks.length→(bg r.bricks j).name.size≤60
instance(r:SetR)(most:Int):Decidable (SmallP r most):=by unfold SmallP;infer_instance
def smallB(r:SetR)(most:Int):Bool:=decide (SmallP r most)
theorem small_in{w:World}{r:SetR}{most:Int}(h:SetIn0 w r)(hs:smallB r most=true):SetIn w r:=by
 obtain⟨_,_,_,_,_,h6,h7⟩:=of_decide_eq_true hs;refine⟨h,fun x hx=>?_,fun x hx=>?_⟩
 ·obtain⟨j,hj,rfl⟩:=List.getElem_of_mem hx
  have:=h6 j hj;rw[tg_eq _ j hj]at this;omega
 ·obtain⟨j,hj,rfl⟩:=List.getElem_of_mem hx
  have:=h7 j hj;rw[bg_eq _ j hj]at this;omega
theorem small_any(r:SetR)(most:Int)(w:World)(hs:SetIn0 w r):
  Calls Tryz.prog 73 #[.agg #[.string r.name,.int .i64 r.depth,.int .i64 r.low,.int .i64 r.high,.int .i64 r.length,.slice r.la r.lines.length r.lc,.int .i64 r.pipe,.int .i64 r.arbor,.int .i64 r.purchase,.int .i64 r.most,.int .i64 r.brake,.slice r.ia r.items.length r.ic,.slice r.ba r.bricks.length r.bc],.int .i64 most] w fun e w'=>e=.returned (.bool (smallB r most))∧Below w.heap.size w w':=by
 obtain⟨R,hR⟩:=nm (smallB r most);have HI:Hid (R=true↔SmallP r most):=lh (by rw[←hR];unfold smallB;exact decide_eq_true_iff);rw[hR];clear hR;have hb0:=below_new w (LSe r);have HX:Hid (∀wx,Below (w.alloc (LSe r)).heap.size (w.alloc (LSe r)) wx→Below w.heap.size w wx):=lh fun wx h=>mono_in _ h;have HS:Hid (∀wx,Below (w.alloc (LSe r)).heap.size (w.alloc (LSe r)) wx→SetIn0 wx r):=lh fun wx h=>(hs.grow hb0).grow h;have HAT:Hid (∀wx,Below (w.alloc (LSe r)).heap.size (w.alloc (LSe r)) wx→SetAt wx w.heap.size r):=lh fun wx h=>(SetAt.new w r 59).below h (by simp);clear hb0 hs
 by_cases q0:60<r.name.size
 ·have ga868:decide ((60:Int)<(r.name.size:Int))=true:=dT (by omega)
  have gb868:decide (60<r.name.size)=true:=dT (by omega)
  have HR:Hid (R=false):=lh (by
   rw[Bool.eq_false_iff];intro h;obtain⟨s1,s2,s3,s4,s5,_,_⟩:=HI.out.1 h;omega)
  clear q0
  go_enter Tryz.func73,Tryz.ntmps73
  go_wp2_with fail
  generalize (w.alloc (LSe r))=W0 at *;have hB1:=Below.refl W0.heap.size W0;obtain⟨x0,-,-,-,-,x5,-,-,-,-,-,x11,x12⟩:=set13 HAT
  go_wp2_with fail
  go_ret;exact⟨ret_bool HR.out.symm,HX.out _ hB1⟩
 have ga868:decide ((60:Int)<(r.name.size:Int))=false:=dF (by omega);have gb868:decide (60<r.name.size)=false:=dF (by omega)
 by_cases q1:12<r.lines.length
 ·have ga686:decide ((12:Int)<(r.lines.length:Int))=true:=dT (by omega)
  have gb686:decide (12<r.lines.length)=true:=dT (by omega)
  have HR:Hid (R=false):=lh (by
   rw[Bool.eq_false_iff];intro h;obtain⟨s1,s2,s3,s4,s5,_,_⟩:=HI.out.1 h;omega)
  clear q0 q1
  go_enter Tryz.func73,Tryz.ntmps73
  go_wp2_with fail
  generalize (w.alloc (LSe r))=W0 at *;have hB1:=Below.refl W0.heap.size W0;obtain⟨x0,-,-,-,-,x5,-,-,-,-,-,x11,x12⟩:=set13 HAT
  go_wp2_with fail
  go_ret;exact⟨ret_bool HR.out.symm,HX.out _ hB1⟩
 have ga686:decide ((12:Int)<(r.lines.length:Int))=false:=dF (by omega);have gb686:decide (12<r.lines.length)=false:=dF (by omega)
 by_cases q2:most<(r.items.length:Int)
 ·have gc:decide (most<(r.items.length:Int))=true:=decide_eq_true q2
  by_cases q3:r.items.length≤40
  ·have gd:decide ((r.items.length:Int)≤40)=true:=dT (by omega)
   have ge:decide (r.items.length≤40)=true:=dT (by omega)
   have HR:Hid (R=false):=lh (by
    rw[Bool.eq_false_iff];intro h;obtain⟨s1,s2,s3,s4,s5,_,_⟩:=HI.out.1 h;omega)
   clear q0 q1 q2 q3
   go_enter Tryz.func73,Tryz.ntmps73
   go_wp2_with fail
   generalize (w.alloc (LSe r))=W0 at *;have hB1:=Below.refl W0.heap.size W0;obtain⟨x0,-,-,-,-,x5,-,-,-,-,-,x11,x12⟩:=set13 HAT
   go_wp2_with fail
   go_ret;exact⟨ret_bool HR.out.symm,HX.out _ hB1⟩
  have gd:decide ((r.items.length:Int)≤40)=false:=dF (by omega);have ge:decide (r.items.length≤40)=false:=dF (by omega)
  by_cases q4:45<r.items.length
  ·have ga102:decide ((45:Int)<(r.items.length:Int))=true:=dT (by omega)
   have gb102:decide (45<r.items.length)=true:=dT (by omega)
   have HR:Hid (R=false):=lh (by
    rw[Bool.eq_false_iff];intro h;obtain⟨s1,s2,s3,s4,s5,_,_⟩:=HI.out.1 h;omega)
   clear q0 q1 q2 q3 q4
   go_enter Tryz.func73,Tryz.ntmps73
   go_wp2_with fail
   generalize (w.alloc (LSe r))=W0 at *;have hB1:=Below.refl W0.heap.size W0;obtain⟨x0,-,-,-,-,x5,-,-,-,-,-,x11,x12⟩:=set13 HAT
   go_wp2_with fail
   go_ret;exact⟨ret_bool HR.out.symm,HX.out _ hB1⟩
  have ga102:decide ((45:Int)<(r.items.length:Int))=false:=dF (by omega);have gb102:decide (45<r.items.length)=false:=dF (by omega)
  by_cases q5:10<r.bricks.length
  ·have ga387:decide ((10:Int)<(r.bricks.length:Int))=true:=dT (by omega)
   have gb387:decide (10<r.bricks.length)=true:=dT (by omega)
   have HR:Hid (R=false):=lh (by
    rw[Bool.eq_false_iff];intro h;obtain⟨s1,s2,s3,s4,s5,_,_⟩:=HI.out.1 h;omega)
   clear q0 q1 q2 q3 q4 q5
   go_enter Tryz.func73,Tryz.ntmps73
   go_wp2_with fail
   generalize (w.alloc (LSe r))=W0 at *;have hB1:=Below.refl W0.heap.size W0;obtain⟨x0,-,-,-,-,x5,-,-,-,-,-,x11,x12⟩:=set13 HAT
   go_wp2_with fail
   go_ret;exact⟨ret_bool HR.out.symm,HX.out _ hB1⟩
  have ga387:decide ((10:Int)<(r.bricks.length:Int))=false:=dF (by omega);have gb387:decide (10<r.bricks.length)=false:=dF (by omega)
  go_enter Tryz.func73,Tryz.ntmps73
  go_wp2_with fail
  generalize (w.alloc (LSe r))=W0 at *;have hB1:=Below.refl W0.heap.size W0;obtain⟨x0,-,-,-,-,x5,-,-,-,-,-,x11,x12⟩:=set13 HAT
  go_loop [5] (fun v=>∃k:Nat,k≤r.items.length∧v=.int .i64 k∧Hid (∀j,j<k→(tg r.items j).name.size≤60)) (fun v=>r.items.length-(intOf v).toNat)
  case atStart=>exact⟨0,Nat.zero_le _,rfl,lh (fun j hj=>by omega)⟩
  case round=>
   obtain⟨k,hk,rfl,HO1⟩:=hrel
   by_cases hlt:k<r.items.length
   ·obtain⟨b,off,hia,hb,hc⟩:=(HS.out _ hB1).items (by omega)
    have y:=x11 W0 hB1;rw[hia]at y;have c0:=(hc k hlt).1;clear hc hia x11;have k1:(k:Int)<r.items.length:=by omega
    obtain⟨s,hs⟩:=nm ((tg r.items k).name);rw[hs]at c0
    by_cases q:60<s.size
    ·have ga:decide ((60:Int)<(s.size:Int))=true:=dT (by omega)
     have gb:decide (60<s.size)=true:=dT (by omega)
     have HR:Hid (R=false):=lh (by
      rw[Bool.eq_false_iff];intro h;have:=(HI.out.1 h).2.2.2.2.2.1 k hlt;rw[hs]at this;omega)
     clear q hs
     go_wp2_with fail
     go_ret;exact⟨ret_bool HR.out.symm,HX.out _ hB1⟩
    ·have ga:decide ((60:Int)<(s.size:Int))=false:=dF (by omega)
     have gb:decide (60<s.size)=false:=dF (by omega)
     have HN:Hid (∀j,j<k+1→(tg r.items j).name.size≤60):=lh fun j hj=>by
      rcases(show j<k∨j=k by omega)with l | l
      ·exact HO1.out j l
      ·subst l;rw[hs];omega
     clear q hs
     go_wp2_with fail
     go_round
     case rel=>exact⟨k+1,by omega,by go_num,HN⟩
     case measure=>simp[intOf];omega
   ·obtain rfl:k=r.items.length:=by omega
    go_wp2_with fail
    go_loop [6] (fun v=>∃k:Nat,k≤r.bricks.length∧v=.int .i64 k∧Hid (∀j,j<k→(bg r.bricks j).name.size≤60)) (fun v=>r.bricks.length-(intOf v).toNat)
    case atStart=>exact⟨0,Nat.zero_le _,rfl,lh (fun j hj=>by omega)⟩
    case round=>
     obtain⟨k,hk,rfl,HO2⟩:=hrel
     by_cases hlt:k<r.bricks.length
     ·obtain⟨b,off,hia,hb,hc⟩:=(HS.out _ hB1).bricks (by omega)
      have y:=x12 W0 hB1;rw[hia]at y;have c0:=(hc k hlt).1;clear hc hia x12;have k1:(k:Int)<r.bricks.length:=by omega
      obtain⟨s,hs⟩:=nm ((bg r.bricks k).name);rw[hs]at c0
      by_cases q:60<s.size
      ·have ga:decide ((60:Int)<(s.size:Int))=true:=dT (by omega)
       have gb:decide (60<s.size)=true:=dT (by omega)
       have HR:Hid (R=false):=lh (by
        rw[Bool.eq_false_iff];intro h;have:=(HI.out.1 h).2.2.2.2.2.2 k hlt;rw[hs]at this;omega)
       clear q hs
       go_wp2_with fail
       go_ret;exact⟨ret_bool HR.out.symm,HX.out _ hB1⟩
      ·have ga:decide ((60:Int)<(s.size:Int))=false:=dF (by omega)
       have gb:decide (60<s.size)=false:=dF (by omega)
       have HN:Hid (∀j,j<k+1→(bg r.bricks j).name.size≤60):=lh fun j hj=>by
        rcases(show j<k∨j=k by omega)with l | l
        ·exact HO2.out j l
        ·subst l;rw[hs];omega
       clear q hs
       go_wp2_with fail
       go_round
       case rel=>exact⟨k+1,by omega,by go_num,HN⟩
       case measure=>simp[intOf];omega
     ·obtain rfl:k=r.bricks.length:=by omega
      have HR:Hid (R=true):=lh (HI.out.2 ⟨by omega,by omega,by omega,by omega,by omega,HO1.out,HO2.out⟩)
      go_wp2_with fail
      go_ret;exact⟨ret_bool HR.out.symm,HX.out _ hB1⟩
 ·have gc:decide (most<(r.items.length:Int))=false:=decide_eq_false q2
  by_cases q4:45<r.items.length
  ·have ga102:decide ((45:Int)<(r.items.length:Int))=true:=dT (by omega)
   have gb102:decide (45<r.items.length)=true:=dT (by omega)
   have HR:Hid (R=false):=lh (by
    rw[Bool.eq_false_iff];intro h;obtain⟨s1,s2,s3,s4,s5,_,_⟩:=HI.out.1 h;omega)
   clear q0 q1 q2 q4
   go_enter Tryz.func73,Tryz.ntmps73
   go_wp2_with fail
   generalize (w.alloc (LSe r))=W0 at *;have hB1:=Below.refl W0.heap.size W0;obtain⟨x0,-,-,-,-,x5,-,-,-,-,-,x11,x12⟩:=set13 HAT
   go_wp2_with fail
   go_ret;exact⟨ret_bool HR.out.symm,HX.out _ hB1⟩
  have ga102:decide ((45:Int)<(r.items.length:Int))=false:=dF (by omega);have gb102:decide (45<r.items.length)=false:=dF (by omega)
  by_cases q5:10<r.bricks.length
  ·have ga387:decide ((10:Int)<(r.bricks.length:Int))=true:=dT (by omega)
   have gb387:decide (10<r.bricks.length)=true:=dT (by omega)
   have HR:Hid (R=false):=lh (by
    rw[Bool.eq_false_iff];intro h;obtain⟨s1,s2,s3,s4,s5,_,_⟩:=HI.out.1 h;omega)
   clear q0 q1 q2 q4 q5
   go_enter Tryz.func73,Tryz.ntmps73
   go_wp2_with fail
   generalize (w.alloc (LSe r))=W0 at *;have hB1:=Below.refl W0.heap.size W0;obtain⟨x0,-,-,-,-,x5,-,-,-,-,-,x11,x12⟩:=set13 HAT
   go_wp2_with fail
   go_ret;exact⟨ret_bool HR.out.symm,HX.out _ hB1⟩
  have ga387:decide ((10:Int)<(r.bricks.length:Int))=false:=dF (by omega);have gb387:decide (10<r.bricks.length)=false:=dF (by omega)
  go_enter Tryz.func73,Tryz.ntmps73
  go_wp2_with fail
  generalize (w.alloc (LSe r))=W0 at *;have hB1:=Below.refl W0.heap.size W0;obtain⟨x0,-,-,-,-,x5,-,-,-,-,-,x11,x12⟩:=set13 HAT
  go_loop [5] (fun v=>∃k:Nat,k≤r.items.length∧v=.int .i64 k∧Hid (∀j,j<k→(tg r.items j).name.size≤60)) (fun v=>r.items.length-(intOf v).toNat)
  case atStart=>exact⟨0,Nat.zero_le _,rfl,lh (fun j hj=>by omega)⟩
  case round=>
   obtain⟨k,hk,rfl,HO1⟩:=hrel
   by_cases hlt:k<r.items.length
   ·obtain⟨b,off,hia,hb,hc⟩:=(HS.out _ hB1).items (by omega)
    have y:=x11 W0 hB1;rw[hia]at y;have c0:=(hc k hlt).1;clear hc hia x11;have k1:(k:Int)<r.items.length:=by omega
    obtain⟨s,hs⟩:=nm ((tg r.items k).name);rw[hs]at c0
    by_cases q:60<s.size
    ·have ga:decide ((60:Int)<(s.size:Int))=true:=dT (by omega)
     have gb:decide (60<s.size)=true:=dT (by omega)
     have HR:Hid (R=false):=lh (by
      rw[Bool.eq_false_iff];intro h;have:=(HI.out.1 h).2.2.2.2.2.1 k hlt;rw[hs]at this;omega)
     clear q hs
     go_wp2_with fail
     go_ret;exact⟨ret_bool HR.out.symm,HX.out _ hB1⟩
    ·have ga:decide ((60:Int)<(s.size:Int))=false:=dF (by omega)
     have gb:decide (60<s.size)=false:=dF (by omega)
     have HN:Hid (∀j,j<k+1→(tg r.items j).name.size≤60):=lh fun j hj=>by
      rcases(show j<k∨j=k by omega)with l | l
      ·exact HO1.out j l
      ·subst l;rw[hs];omega
     clear q hs
     go_wp2_with fail
     go_round
     case rel=>exact⟨k+1,by omega,by go_num,HN⟩
     case measure=>simp[intOf];omega
   ·obtain rfl:k=r.items.length:=by omega
    go_wp2_with fail
    go_loop [6] (fun v=>∃k:Nat,k≤r.bricks.length∧v=.int .i64 k∧Hid (∀j,j<k→(bg r.bricks j).name.size≤60)) (fun v=>r.bricks.length-(intOf v).toNat)
    case atStart=>exact⟨0,Nat.zero_le _,rfl,lh (fun j hj=>by omega)⟩
    case round=>
     obtain⟨k,hk,rfl,HO2⟩:=hrel
     by_cases hlt:k<r.bricks.length
     ·obtain⟨b,off,hia,hb,hc⟩:=(HS.out _ hB1).bricks (by omega)
      have y:=x12 W0 hB1;rw[hia]at y;have c0:=(hc k hlt).1;clear hc hia x12;have k1:(k:Int)<r.bricks.length:=by omega
      obtain⟨s,hs⟩:=nm ((bg r.bricks k).name);rw[hs]at c0
      by_cases q:60<s.size
      ·have ga:decide ((60:Int)<(s.size:Int))=true:=dT (by omega)
       have gb:decide (60<s.size)=true:=dT (by omega)
       have HR:Hid (R=false):=lh (by
        rw[Bool.eq_false_iff];intro h;have:=(HI.out.1 h).2.2.2.2.2.2 k hlt;rw[hs]at this;omega)
       clear q hs
       go_wp2_with fail
       go_ret;exact⟨ret_bool HR.out.symm,HX.out _ hB1⟩
      ·have ga:decide ((60:Int)<(s.size:Int))=false:=dF (by omega)
       have gb:decide (60<s.size)=false:=dF (by omega)
       have HN:Hid (∀j,j<k+1→(bg r.bricks j).name.size≤60):=lh fun j hj=>by
        rcases(show j<k∨j=k by omega)with l | l
        ·exact HO2.out j l
        ·subst l;rw[hs];omega
       clear q hs
       go_wp2_with fail
       go_round
       case rel=>exact⟨k+1,by omega,by go_num,HN⟩
       case measure=>simp[intOf];omega
     ·obtain rfl:k=r.bricks.length:=by omega
      have HR:Hid (R=true):=lh (HI.out.2 ⟨by omega,by omega,by omega,by omega,by omega,HO1.out,HO2.out⟩)
      go_wp2_with fail
      go_ret;exact⟨ret_bool HR.out.symm,HX.out _ hB1⟩
def SmallH(h:HouseR)(most:Int):Prop:=(h.sets.length:Int)≤most∧(h.roofs.length:Int)≤most+10∧h.name.size≤60∧(∀i,i<h.sets.length→smallB (hg h.sets i) 8=true)∧∀i,i<h.roofs.length→(rg h.roofs i).name.size≤60
noncomputable def smallHB(h:HouseR)(most:Int):Bool:=@decide (SmallH h most) (Classical.propDecidable _)
theorem smallH_iff{h:HouseR}{most:Int}:smallHB h most=true↔SmallH h most:=@decide_eq_true_iff (SmallH h most) (Classical.propDecidable _)
theorem smallH_no{h:HouseR}{most:Int}(n:¬SmallH h most):smallHB h most=false:=by
 cases e:smallHB h most
 ·rfl
 ·exact absurd (smallH_iff.1 e) n
theorem smallH_in{w:World}{h:HouseR}{most:Int}(hm:most≤900)(x:HouseIn0 w h)(s:SmallH h most):HouseIn w h:=
 ⟨x,fun i hi=>small_in (x.each i hi) (s.2.2.2.1 i hi),by have:=s.1;omega,by have:=s.2.1;omega⟩
theorem smallH_any(h:HouseR)(most:Int)(m0:0≤most)(m1:most≤900)(w:World)(hh:HouseIn0 w h):
  Calls Tryz.prog 42 #[.agg #[.string h.name,.int .i64 h.height,.slice h.sa h.sets.length h.sc,.slice h.ra h.roofs.length h.rc],.int .i64 most] w fun e w'=>e=.returned (.bool (smallHB h most))∧Below w.heap.size w w':=by
 have HH:=lh hh;have hcap:=hh.scap;have hrcap:=hh.rcap;have hat:=HouseAt.new w h 25;obtain⟨sa,hsa⟩:=nm (h.sa);obtain⟨ra,hra⟩:=nm (h.ra);have HSA:=lh hsa;have HRA:=lh hra;rw[hsa,hra]at hat⊢;have HAT:=lh hat;have hW0:=below_new w (.cells #[.string h.name,.int .i64 h.height,.slice sa h.sets.length h.sc,.slice ra h.roofs.length h.rc] 25);have mw:IntKind.i64.wrap (most+10)=most+10:=IntWalk.i64_in _ (by omega);clear hh hat hsa hra
 cases h1:decide (most<(h.sets.length:Int))
 case true=>
  have H1:=lh h1;have HZ:=lh (smallH_no (h:=h) (most:=most) (fun q=>by have:=q.1;have e:=of_decide_eq_true H1.out;omega))
  go_enter Tryz.func42,Tryz.ntmps42
  go_upto_region 1 with (fail)
  generalize w.alloc (.cells #[.string h.name,.int .i64 h.height,.slice sa h.sets.length h.sc,.slice ra h.roofs.length h.rc] 25)=W0 at *;obtain⟨k0,k1,k2,k3⟩:=HAT.out;rw[HSA.out]at k2;rw[HRA.out]at k3
  go_wp2_with fail
  go_ret;exact⟨ret_bool HZ.out.symm,hW0⟩
 have H1:=lh h1
 cases h2:decide (most+10<(h.roofs.length:Int))
 case true=>
  have H2:=lh h2;have HZ:=lh (smallH_no (h:=h) (most:=most) (fun q=>by have:=q.2.1;have e:=of_decide_eq_true H2.out;omega))
  go_enter Tryz.func42,Tryz.ntmps42
  go_upto_region 1 with (fail)
  generalize w.alloc (.cells #[.string h.name,.int .i64 h.height,.slice sa h.sets.length h.sc,.slice ra h.roofs.length h.rc] 25)=W0 at *;obtain⟨k0,k1,k2,k3⟩:=HAT.out;rw[HSA.out]at k2;rw[HRA.out]at k3
  go_wp2_with fail
  go_ret;exact⟨ret_bool HZ.out.symm,hW0⟩
 have H2:=lh h2
 cases h3:decide ((60:Int)<(h.name.size:Int))
 case true=>
  have H3:=lh h3;have HZ:=lh (smallH_no (h:=h) (most:=most) (fun q=>by have:=q.2.2.1;have e:=of_decide_eq_true H3.out;omega))
  go_enter Tryz.func42,Tryz.ntmps42
  go_upto_region 1 with (fail)
  generalize w.alloc (.cells #[.string h.name,.int .i64 h.height,.slice sa h.sets.length h.sc,.slice ra h.roofs.length h.rc] 25)=W0 at *;obtain⟨k0,k1,k2,k3⟩:=HAT.out;rw[HSA.out]at k2;rw[HRA.out]at k3
  go_wp2_with fail
  go_ret;exact⟨ret_bool HZ.out.symm,hW0⟩
 have H3:=lh h3;have hsl:h.sets.length≤900:=by have:=of_decide_eq_false H1.out;omega
 have hrl:h.roofs.length≤910:=by have:=of_decide_eq_false H2.out;omega
 go_enter Tryz.func42,Tryz.ntmps42
 go_upto_region 1 with (fail)
 generalize w.alloc (.cells #[.string h.name,.int .i64 h.height,.slice sa h.sets.length h.sc,.slice ra h.roofs.length h.rc] 25)=W0 at *;obtain⟨k0,k1,k2,k3⟩:=HAT.out;rw[HSA.out]at k2;rw[HRA.out]at k3
 go_wp2_with fail
 have hz:w.heap.size<W0.heap.size:=wl k0;clear k0 k1 k2 k3 h1 h2 h3
 go_loopw [5] (fun i wr=>∃k:Nat,k≤h.sets.length∧i=.int .i64 k∧Hid (∀j,j<k→smallB (hg h.sets j) 8=true)∧Below W0.heap.size W0 wr) (fun i _=>h.sets.length-(intOf i).toNat)
 case atStart=>exact⟨0,Nat.zero_le _,rfl,lh (fun _ h=>absurd h (Nat.not_lt_zero _)),br⟩
 case round=>
  obtain⟨k,hk,rfl,HO,hB⟩:=hrel;have HAW:=lh (HAT.out.carry hB)
  by_cases hlt:k<h.sets.length
  ·have HHR:=lh (HH.out.grow (hW0.trans (hB.mono hW0.size)))
   obtain⟨b,off,esa,hb,hc⟩:=HHR.out.sets (by omega);obtain rfl:sa=some ⟨b,off,none⟩:=HSA.out.symm.trans esa;have HSET:=lh (HHR.out.each k hlt);obtain⟨c0,c1,c2,c3,c4,c5,c6,c7,c8,c9,c10,c11,c12⟩:=hc k hlt;obtain⟨k0,k1,k2,k3⟩:=HAW.out;rw[HSA.out]at k2;rw[HRA.out]at k3;have i0:0≤(k:Int):=by omega
   have i1:(k:Int)<(h.sets.length:Int):=by omega
   have s1:IntKind.i64.wrap ((k:Int)+1)=(k:Int)+1:=IntWalk.i64_in _ (by omega);have HN:Hid (smallB (hg h.sets k) 8=false→smallHB h most=false):=lh fun e=>smallH_no fun q=>by have:=q.2.2.2.1 k hlt;rw[e]at this;cases this
   have HO2:Hid (smallB (hg h.sets k) 8=true→∀j,j<k+1→smallB (hg h.sets j) 8=true):=lh fun q j hj=>by
    rcases Nat.lt_or_eq_of_le (Nat.le_of_lt_succ hj)with l | l
    ·exact HO.out j l
    ·subst l;exact q
   generalize hg h.sets k=x at *;have HBV:=lh (small_any x 8 wr HSET.out);clear hc HO esa
   cases h6:smallB x 8
   ·have HZ:=lh (HN.out h6)
    rw[h6]at HBV;clear h6
    go_wp2_with (go_at_call 73;(with_reducible refine HBV.out.mono ?_);rintro e w3 ⟨rfl,hb3⟩)
    go_ret;exact⟨ret_bool HZ.out.symm,hW0.trans ((hB.trans (hb3.mono hB.size)).mono hW0.size)⟩
   ·have HY:=lh (HO2.out h6)
    rw[h6]at HBV;clear h6
    go_wp2_with (go_at_call 73;(with_reducible refine HBV.out.mono ?_);rintro e w3 ⟨rfl,hb3⟩)
    go_roundw
    case rel=>exact⟨k+1,by omega,by go_num,HY,hB.trans (hb3.mono hB.size)⟩
    case measure=>simp[intOf];omega
  ·obtain rfl:k=h.sets.length:=by omega
   have HS:=lh HO.out;have HBQ:=lh hB;obtain⟨k0,k1,k2,k3⟩:=HAW.out;rw[HSA.out]at k2;rw[HRA.out]at k3;clear HO hB
   go_wp2_with fail
   clear k0 k1 k2 k3
   go_loopw [6] (fun i wx=>∃k:Nat,k≤h.roofs.length∧i=.int .i64 k∧Hid (∀j,j<k→(rg h.roofs j).name.size≤60)∧Below wr.heap.size wr wx) (fun i _=>h.roofs.length-(intOf i).toNat)
   case atStart=>exact⟨0,Nat.zero_le _,rfl,lh (fun _ h=>absurd h (Nat.not_lt_zero _)),br⟩
   case round=>
    obtain⟨k,hk,rfl,HO,hB⟩:=hrel;have HAX:=lh (HAW.out.carry hB);obtain⟨k0,k1,k2,k3⟩:=HAX.out;rw[HSA.out]at k2;rw[HRA.out]at k3
    by_cases hlt:k<h.roofs.length
    ·have hBW:=hW0.trans ((HBQ.out.trans (hB.mono HBQ.out.size)).mono hW0.size)
     have HHR:=lh (HH.out.grow hBW);obtain⟨b,off,era,hb,hc⟩:=HHR.out.roofs (by omega);obtain rfl:ra=some ⟨b,off,none⟩:=HRA.out.symm.trans era;obtain⟨c0,c1,c2,c3⟩:=hc k hlt;have i0:0≤(k:Int):=by omega
     have i1:(k:Int)<(h.roofs.length:Int):=by omega
     have s1:IntKind.i64.wrap ((k:Int)+1)=(k:Int)+1:=IntWalk.i64_in _ (by omega);clear hc era
     by_cases h6:(60:Int)<((rg h.roofs k).name.size:Int)
     ·have g6:=decide_eq_true h6
      have HZ:=lh (smallH_no (h:=h) (most:=most) fun q=>by have:=q.2.2.2.2 k hlt;omega);clear h6
      go_wp2_with fail
      go_ret;exact⟨ret_bool HZ.out.symm,hBW⟩
     ·have g6:=decide_eq_false h6
      have HY:Hid (∀j,j<k+1→(rg h.roofs j).name.size≤60):=lh fun j hj=>by
       rcases Nat.lt_or_eq_of_le (Nat.le_of_lt_succ hj)with l | l
       ·exact HO.out j l
       ·subst l;omega
      clear h6
      go_wp2_with fail
      go_roundw
      case rel=>exact⟨k+1,by omega,by go_num,HY,hB⟩
      case measure=>simp[intOf];omega
    ·obtain rfl:k=h.roofs.length:=by omega
     have HR:Hid (smallHB h most=true):=lh (smallH_iff.2 ⟨by have:=of_decide_eq_false H1.out;omega,by have:=of_decide_eq_false H2.out;omega,by have:=of_decide_eq_false H3.out;omega,HS.out,HO.out⟩);have hBW:=hW0.trans ((HBQ.out.trans (hB.mono HBQ.out.size)).mono hW0.size)
     go_wp2_with fail
     go_ret;exact⟨ret_bool HR.out.symm,hBW⟩
structure CueSmall(q:CueR)(most:Int):Prop where
 moves:(q.moves.length:Int)≤most
 name:q.name.size≤60
 after:q.after.size≤60
 sets:∀k,k<q.moves.length→(mg q.moves k).name.size≤60
structure SmallC(s:SheetR)(most:Int):Prop where
 cues:(s.cues.length:Int)≤most
 pairs:(s.pairs.length:Int)≤2*most
 each:∀i,i<s.cues.length→CueSmall (cg s.cues i) most
 names:∀i,i<s.pairs.length→(pg s.pairs i).1.size≤60∧(pg s.pairs i).2.size≤60
noncomputable def smallCB(s:SheetR)(most:Int):Bool:=@decide (SmallC s most) (Classical.propDecidable _)
theorem smallC_iff{s:SheetR}{most:Int}:smallCB s most=true↔SmallC s most:=@decide_eq_true_iff (SmallC s most) (Classical.propDecidable _)
theorem smallC_no{s:SheetR}{most:Int}(n:¬SmallC s most):smallCB s most=false:=by
 cases e:smallCB s most
 ·rfl
 ·exact absurd (smallC_iff.1 e) n
theorem smallC_in{w:World}{s:SheetR}{most:Int}(hm:most≤900)(x:SheetIn0 w s)(z:SmallC s most):SheetIn w s:=
 ⟨x,by have:=z.cues;omega,fun i hi=>by have:=(z.each i hi).moves;omega,fun i hi=>by have:=z.names i hi;omega⟩
theorem rsmallc_any(s:SheetR)(most:Int)(m0:0≤most)(m1:most≤900)(w:World)(hs:SheetIn0 w s):
  Calls Tryz.prog 43 #[.agg #[.slice s.ca s.cues.length s.cc,.slice s.pa s.pairs.length s.pc],.int .i64 most] w fun e w'=>e=.returned (.bool (smallCB s most))∧Below w.heap.size w w':=by
 have hb0:Below w.heap.size w (w.alloc (LSh s)):=below_new w _
 have HX:Hid (∀w',Below (w.alloc (LSh s)).heap.size (w.alloc (LSh s)) w'→SheetAt w' w.heap.size s∧SheetIn0 w' s):=lh fun w' z=>
  ⟨(show SheetAt (w.alloc (LSh s)) w.heap.size s by unfold SheetAt;simp).carry z,(hs.grow hb0).grow z⟩
 have HW:Hid (∀w',Below (w.alloc (LSh s)).heap.size (w.alloc (LSh s)) w'→Below w.heap.size w w'):=lh fun w' z=>hb0.trans (z.mono hb0.size);have mw:IntKind.i64.wrap (2*most)=2*most:=IntWalk.i64_in _ (by omega);clear hs hb0
 cases h1:decide (most<(s.cues.length:Int))
 case true=>
  have HZ:=lh (smallC_no (s:=s) (most:=most) fun q=>by have:=q.cues;have:=of_decide_eq_true h1;omega)
  go_enter Tryz.func43,Tryz.ntmps43
  go_upto_region 1 with (fail)
  obtain⟨W0,hW0⟩:=nm (w.alloc (LSh s):World);simp only[hW0]at HX HW⊢;clear hW0;obtain⟨B1,hB1⟩:=nm (w.heap.size);rw[hB1]at HX⊢;clear hB1;obtain⟨s0,s1⟩:=(HX.out _ br).1
  go_wp2_with fail
  go_ret;exact⟨ret_bool HZ.out.symm,HW.out _ br⟩
 cases h2:decide (2*most<(s.pairs.length:Int))
 case true=>
  have HZ:=lh (smallC_no (s:=s) (most:=most) fun q=>by have:=q.pairs;have:=of_decide_eq_true h2;omega)
  go_enter Tryz.func43,Tryz.ntmps43
  go_upto_region 1 with (fail)
  obtain⟨W0,hW0⟩:=nm (w.alloc (LSh s):World);simp only[hW0]at HX HW⊢;clear hW0;obtain⟨B1,hB1⟩:=nm (w.heap.size);rw[hB1]at HX⊢;clear hB1;obtain⟨s0,s1⟩:=(HX.out _ br).1
  go_wp2_with fail
  go_ret;exact⟨ret_bool HZ.out.symm,HW.out _ br⟩
 have hcl:s.cues.length≤900:=by have:=of_decide_eq_false h1;omega
 have hpl:s.pairs.length≤1800:=by have:=of_decide_eq_false h2;omega
 have HC1:Hid ((s.cues.length:Int)≤most):=lh (by have:=of_decide_eq_false h1;omega);have HC2:Hid ((s.pairs.length:Int)≤2*most):=lh (by have:=of_decide_eq_false h2;omega)
 go_enter Tryz.func43,Tryz.ntmps43
 go_upto_region 1 with (fail)
 obtain⟨W0,hW0⟩:=nm (w.alloc (LSh s):World);simp only[hW0]at HX HW⊢;clear hW0;obtain⟨B1,hB1⟩:=nm (w.heap.size);rw[hB1]at HX⊢;clear hB1;obtain⟨ca,hca⟩:=nm (s.ca);obtain⟨pa,hpa⟩:=nm (s.pa);have HCA:=lh hca;have HPA:=lh hpa;rw[hca,hpa];clear hca hpa;obtain⟨s0,s1⟩:=(HX.out _ br).1;rw[HCA.out]at s0;rw[HPA.out]at s1
 go_upto_region 4 with (fail)
 clear s0 s1 h1 h2 mw;have hB0:Below W0.heap.size W0 W0:=br;obtain⟨n₀,hn0⟩:=nm (W0.heap.size);rw[hn0]at HX HW hB0;have hn1:n₀≤W0.heap.size:=by omega
 clear hn0
 go_loopw [5,6] (fun i _ wr=>∃k:Nat,i=.int .i64 k∧k≤s.cues.length∧Below n₀ W0 wr∧n₀≤wr.heap.size∧Hid (∀j,j<k→CueSmall (cg s.cues j) most)) (fun i _ _=>s.cues.length-(intOf i).toNat)
 case atStart=>exact⟨0,rfl,Nat.zero_le _,hB0,hn1,lh (fun _ h=>absurd h (Nat.not_lt_zero _))⟩
 case round=>
  clear hB0 hn1;obtain⟨k,rfl,hk,hB,hnw,HO⟩:=hrel;obtain⟨⟨s0,s1⟩,hsi⟩:=HX.out _ hB;rw[HCA.out]at s0;rw[HPA.out]at s1
  by_cases hlt:k<s.cues.length
  ·obtain⟨b,off,ha,hb,hc⟩:=hsi.lies (by omega)
   rw[HCA.out]at ha;subst ha;obtain⟨d0,d1,d2,d3,d4,d5,d6⟩:=hc k hlt;have hmv:=hsi.each k hlt;have HNO:Hid (¬CueSmall (cg s.cues k) most→smallCB s most=false):=lh fun z=>smallC_no fun q=>z (q.each k hlt)
   have HYES:Hid (CueSmall (cg s.cues k) most→∀j,j<k+1→CueSmall (cg s.cues j) most):=lh fun z j hj=>by
    rcases Nat.lt_or_eq_of_le (Nat.le_of_lt_succ hj)with l | l
    ·exact HO.out j l
    ·subst l;exact z
   have HMV:=lh hmv;obtain⟨q,hq⟩:=nm (cg s.cues k);rw[hq]at d0 d1 d2 d3 d4 d5 d6 HNO HYES HMV;clear hsi hc hq hmv HO;have hB3:=hB.alloc hnw (LCu q);have hbn:=below_new wr (LCu q);have HC3:=CueAt.new wr q 86 _ rfl;have HM3:=lh (HMV.out.grow hbn);have hn3:n₀≤(wr.alloc (LCu q)).heap.size:=by simp;omega
   go_upto_region 7 with (fail)
   clear s0 s1 d0 d1 d2 d3 d4 d5 d6 hbn hB hnw hb HMV;generalize wr.alloc (LCu q)=W3 at *;obtain⟨B6,hB6⟩:=nm (wr.heap.size);rw[hB6]at HC3⊢;clear hB6;have HCC:=lh HC3;obtain⟨ma,hma⟩:=nm (q.ma);have HMA:=lh hma;obtain⟨p0,p1,p2,p3,p4,p5,p6⟩:=HC3;rw[hma]at p4;clear hma
   cases t1:decide (most<(q.moves.length:Int))
   case true=>
    have HZ:=lh (HNO.out fun z=>by have:=z.moves;have:=of_decide_eq_true t1;omega)
    go_wp2_with fail
    go_ret;exact⟨ret_bool HZ.out.symm,HW.out _ hB3⟩
   cases t2:decide ((60:Int)<(q.name.size:Int))
   case true=>
    have HZ:=lh (HNO.out fun z=>by have:=z.name;have:=of_decide_eq_true t2;omega)
    go_wp2_with fail
    go_ret;exact⟨ret_bool HZ.out.symm,HW.out _ hB3⟩
   cases t3:decide ((60:Int)<(q.after.size:Int))
   case true=>
    have HZ:=lh (HNO.out fun z=>by have:=z.after;have:=of_decide_eq_true t3;omega)
    go_wp2_with fail
    go_ret;exact⟨ret_bool HZ.out.symm,HW.out _ hB3⟩
   have HT:Hid ((q.moves.length:Int)≤most∧q.name.size≤60∧q.after.size≤60):=lh (by have:=of_decide_eq_false t1;have:=of_decide_eq_false t2;have:=of_decide_eq_false t3;omega);have hml:q.moves.length≤900:=by have:=HT.out.1;omega
   go_upto_region 10 with (fail)
   clear p0 p1 p2 p3 p4 p5 p6 t1 t2 t3
   go_loopw [7] (fun i wx=>∃j:Nat,i=.int .i64 j∧j≤q.moves.length∧Below W3.heap.size W3 wx∧Hid (∀x,x<j→(mg q.moves x).name.size≤60)) (fun i _=>q.moves.length-(intOf i).toNat)
   case atStart=>exact⟨0,rfl,Nat.zero_le _,br,lh (fun _ h=>absurd h (Nat.not_lt_zero _))⟩
   case round=>
    obtain⟨j,rfl,hj,hBx,HJ⟩:=hrel;obtain⟨p0,p1,p2,p3,p4,p5,p6⟩:=HCC.out.carry hBx;rw[HMA.out]at p4
    by_cases hjt:j<q.moves.length
    ·obtain⟨mb,mo,hm1,hmb,hmc⟩:=HM3.out.grow hBx (by omega)
     rw[HMA.out]at hm1;subst hm1;obtain⟨e0,e1,e2,e3,e4⟩:=hmc j hjt;clear hmc
     cases t4:decide ((60:Int)<((mg q.moves j).name.size:Int))
     case true=>
      have HZ:=lh (HNO.out fun z=>by have:=z.sets j hjt;have:=of_decide_eq_true t4;omega)
      go_wp2_with fail
      go_ret;exact⟨ret_bool HZ.out.symm,HW.out _ (hB3.trans (hBx.mono hn3))⟩
     have HY:Hid (∀x,x<j+1→(mg q.moves x).name.size≤60):=lh fun x hx=>by
      rcases Nat.lt_or_eq_of_le (Nat.le_of_lt_succ hx)with l | l
      ·exact HJ.out x l
      ·subst l;have:=of_decide_eq_false t4;omega
     go_wp2_with fail
     go_roundw
     case rel=>exact⟨j+1,by go_num,by omega,hBx,HY⟩
     case measure=>simp[intOf];omega
    ·obtain rfl:j=q.moves.length:=by omega
     have HY:=lh (HYES.out ⟨HT.out.1,HT.out.2.1,HT.out.2.2,HJ.out⟩);have hBR:=hB3.trans (hBx.mono hn3);have hnR:=Nat.le_trans hn3 hBx.size
     go_wp2_with fail
     go_roundw
     case rel=>exact⟨k+1,by go_num,by omega,hBR,hnR,HY⟩
     case measure=>simp[intOf];omega
  ·obtain rfl:k=s.cues.length:=by omega
   clear hsi
   go_upto_region 15 with (fail)
   clear s0 s1
   go_loopw [8] (fun i wx=>∃j:Nat,i=.int .i64 j∧j≤s.pairs.length∧Below n₀ W0 wx∧Hid (∀x,x<j→(pg s.pairs x).1.size≤60∧(pg s.pairs x).2.size≤60)) (fun i _=>s.pairs.length-(intOf i).toNat)
   case atStart=>exact⟨0,rfl,Nat.zero_le _,hB,lh (fun _ h=>absurd h (Nat.not_lt_zero _))⟩
   case round=>
    clear hB hnw;obtain⟨j,rfl,hj,hB,HJ⟩:=hrel;obtain⟨⟨s0,s1⟩,hsi⟩:=HX.out _ hB;rw[HCA.out]at s0;rw[HPA.out]at s1
    by_cases hjt:j<s.pairs.length
    ·obtain⟨mb,mo,hm1,hmb,hmc⟩:=hsi.plies (by omega)
     rw[HPA.out]at hm1;subst hm1;have HNOX:Hid (¬((pg s.pairs j).1.size≤60∧(pg s.pairs j).2.size≤60)→smallCB s most=false):=lh fun z=>smallC_no fun q=>z (q.names j hjt);obtain⟨y,hy⟩:=nm (pg s.pairs j);have HYY:=lh hy;rw[hy]at HNOX;obtain⟨e0,e1⟩:=hmc j hjt;rw[hy]at e0 e1;clear hmc hsi hy
     cases t4:decide ((60:Int)<(y.1.size:Int))
     case true=>
      have HZ:=lh (HNOX.out fun z=>by have:=z.1;have:=of_decide_eq_true t4;omega)
      go_wp2_with fail
      go_ret;exact⟨ret_bool HZ.out.symm,HW.out _ hB⟩
     cases t5:decide ((60:Int)<(y.2.size:Int))
     case true=>
      have HZ:=lh (HNOX.out fun z=>by have:=z.2;have:=of_decide_eq_true t5;omega)
      go_wp2_with fail
      go_ret;exact⟨ret_bool HZ.out.symm,HW.out _ hB⟩
     have HY:Hid (∀x,x<j+1→(pg s.pairs x).1.size≤60∧(pg s.pairs x).2.size≤60):=lh fun x hx=>by
      rcases Nat.lt_or_eq_of_le (Nat.le_of_lt_succ hx)with l | l
      ·exact HJ.out x l
      ·subst l;rw[HYY.out];have:=of_decide_eq_false t4;have:=of_decide_eq_false t5;omega
     clear HNOX
     go_wp2_with fail
     go_roundw
     case rel=>exact⟨j+1,by go_num,by omega,hB,HY⟩
     case measure=>simp[intOf];omega
    ·obtain rfl:j=s.pairs.length:=by omega
     have HZ:=lh (smallC_iff.2 ⟨HC1.out,HC2.out,HO.out,HJ.out⟩);clear hsi
     go_wp2_with fail
     go_ret;exact⟨ret_bool HZ.out.symm,HW.out _ (by first | exact hB | exact below_drewN hB _)⟩
noncomputable def smallA(h:HouseR)(s:SheetR)(G:List Int):Bool:=smallHB h 5&&(smallCB s 6&&decide (G.length≤100))
theorem smallA_yes{h:HouseR}{s:SheetR}{G:List Int}(e:smallA h s G=true):SmallH h 5∧SmallC s 6∧G.length≤100:=by
 unfold smallA at e;simp only[Bool.and_eq_true,decide_eq_true_eq]at e;exact⟨smallH_iff.1 e.1,smallC_iff.1 e.2.1,e.2.2⟩
theorem lawsmall_any(h:HouseR)(s:SheetR)(ga:Option Addr)(G:List Int)(gc:Nat)(w:World)(hh:HouseIn0 w h)(hs:SheetIn0 w s)(hG:Nums w.heap.size w ga G):
  Calls Tryz.prog 11 #[.agg #[.string h.name,.int .i64 h.height,.slice h.sa h.sets.length h.sc,.slice h.ra h.roofs.length h.rc],.agg #[.slice s.ca s.cues.length s.cc,.slice s.pa s.pairs.length s.pc],.slice ga G.length gc] w fun e w'=>e=.returned (.bool (smallA h s G))∧Below w.heap.size w w':=by
 obtain⟨hb0,HX,HW⟩:=o3 hh hs hG;clear hh hs hG hb0;have HC1:=lh fun (w':World) (z:HouseIn0 w' h)=>smallH_any h 5 (by omega) (by omega) w' z;have HC2:=lh fun (w':World) (z:SheetIn0 w' s)=>rsmallc_any s 6 (by omega) (by omega) w' z;have HZ:Hid (smallA h s G=(smallHB h 5&&(smallCB s 6&&decide (G.length≤100)))):=lh rfl;obtain⟨p,hp⟩:=nm (smallHB h 5);obtain⟨q,hq⟩:=nm (smallCB s 6);obtain⟨r,hr⟩:=nm (decide (G.length≤100));have g1:decide ((G.length:Int)≤100)=r:=by rw[←hr];exact decide_eq_decide.2 (by omega)
 rw[hp,hq,hr]at HZ;rw[hp]at HC1;rw[hq]at HC2;clear hp hq hr
 cases p
 ·go_enter Tryz.func11,Tryz.ntmps11
  go_upto_region 1 with (fail)
  obtain⟨W0,hW0⟩:=nm ((LTw w h s):World);simp only[hW0]at HX HW⊢;clear hW0;obtain⟨B1,hB1⟩:=nm (w.heap.size);obtain⟨B2,hB2⟩:=nm (w.heap.size+1);rw[hB2]at HX⊢;rw[hB1]at HX⊢;clear hB1 hB2;obtain⟨⟨a0,a1,a2,a3⟩,⟨s0,s1⟩,-,-,-⟩:=HX.out _ br
  go_wp2_with (go_at_call 42;(with_reducible refine(HC1.out _ (HX.out _ br).2.2.1).mono ?_);rintro e w1 ⟨rfl,hb1⟩)
  go_ret;exact⟨ret_bool (by rw[HZ.out];rfl),HW.out _ hb1⟩
 ·cases q
  ·go_enter Tryz.func11,Tryz.ntmps11
   go_upto_region 1 with (fail)
   obtain⟨W0,hW0⟩:=nm ((LTw w h s):World);simp only[hW0]at HX HW⊢;clear hW0;obtain⟨B1,hB1⟩:=nm (w.heap.size);obtain⟨B2,hB2⟩:=nm (w.heap.size+1);rw[hB2]at HX⊢;rw[hB1]at HX⊢;clear hB1 hB2;obtain⟨⟨a0,a1,a2,a3⟩,⟨s0,s1⟩,-,-,-⟩:=HX.out _ br
   go_wp2_with (first
    | (go_at_call 42;(with_reducible refine(HC1.out _ (HX.out _ br).2.2.1).mono ?_);rintro e w1 ⟨rfl,hb1⟩;obtain⟨-,⟨t0,t1⟩,-,-,-⟩:=HX.out _ hb1)
    | (go_at_call 43;(with_reducible refine(HC2.out _ (HX.out _ hb1).2.2.2.1).mono ?_);rintro e w2 ⟨rfl,hb2⟩;have hb3:=hb1.trans (hb2.mono hb1.size)))
   go_ret;exact⟨ret_bool (by rw[HZ.out];rfl),HW.out _ hb3⟩
  ·go_enter Tryz.func11,Tryz.ntmps11
   go_upto_region 1 with (fail)
   obtain⟨W0,hW0⟩:=nm ((LTw w h s):World);simp only[hW0]at HX HW⊢;clear hW0;obtain⟨B1,hB1⟩:=nm (w.heap.size);obtain⟨B2,hB2⟩:=nm (w.heap.size+1);rw[hB2]at HX⊢;rw[hB1]at HX⊢;clear hB1 hB2;obtain⟨⟨a0,a1,a2,a3⟩,⟨s0,s1⟩,-,-,-⟩:=HX.out _ br
   go_wp2_with (first
    | (go_at_call 42;(with_reducible refine(HC1.out _ (HX.out _ br).2.2.1).mono ?_);rintro e w1 ⟨rfl,hb1⟩;obtain⟨-,⟨t0,t1⟩,-,-,-⟩:=HX.out _ hb1)
    | (go_at_call 43;(with_reducible refine(HC2.out _ (HX.out _ hb1).2.2.2.1).mono ?_);rintro e w2 ⟨rfl,hb2⟩;have hb3:=hb1.trans (hb2.mono hb1.size)))
   go_ret;exact⟨ret_bool (by rw[HZ.out];rfl),HW.out _ hb3⟩
end
end Go.Proofs.YtebofaenlhhkaaaGreat
