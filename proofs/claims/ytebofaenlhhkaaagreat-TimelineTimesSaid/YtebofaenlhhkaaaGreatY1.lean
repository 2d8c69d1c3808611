import Derived.Deep.DeepFit
import Derived.Below
import Derived.Lib.Hide
import Derived.WalkKit
import Derived.Deep.RegionHeld3
import Derived.Test.YtebofaenlhhkaaaGreatRows
import Derived.Laws.OwnMore
import Derived.Laws.IdiomCopy
import Derived.Deep.Draws
import Derived.WalkSpells
import Derived.WalkLawsBesides
import Derived.Deep.QuietTactic
import Derived.BigQuiet
import Derived.Shelf.Abstract
namespace Go.Proofs.YtebofaenlhhkaaaGreat
set_option maxRecDepth 100000
set_option maxHeartbeats 80000000
set_option linter.unusedSimpArgs false
section
open Go.RowKit
universe u
theorem lh{p:Prop}(h:p):Hid p:=Lib.hid h
theorem wl{w:World}{a:Addr}{u:Value}(h:w.cell? a=some u):a.block<w.heap.size:=World.block_lt_of_cell? _ _ h
theorem br{n:Nat}{w:World}:Below n w w:=Below.refl n w
theorem dF{p:Prop}[Decidable p](h:¬p):decide p=false:=decide_eq_false h
theorem dT{p:Prop}[Decidable p](h:p):decide p=true:=decide_eq_true h
theorem nr{n:Nat}:n≤n:=Nat.le_refl n
theorem nz{n:Nat}:0≤n:=Nat.zero_le n
theorem nt{n m k:Nat}(a:n≤m)(b:m≤k):n≤k:=Nat.le_trans a b
theorem ct{n:Nat}{w w':World}{p:Addr}{x:Option Value}(h:Below n w w')(e:w.cell? p=x)(l:p.block<n:=by simp<;>omega):w'.cell? p=x:=(h.cell l).trans e
theorem nm{α:Sort u}(a:α):∃x,a=x:=⟨a,rfl⟩
end
section
section
variable {P:Program} {ops:Array Oper} {Q:Exit→Act→World→Prop} {md:Region.Mode} {S:World→Prop}
theorem tkB(i:Nat){oi:Oper}{v:Value}{fuel:Nat}{listed:Array Bool}{a:Act}{w:World}(h:wpAnyH P md ops Q S fuel (listed.setIfInBounds i true) (a.put oi.dst v) w)
  (hi:ops[i]? =some oi:=by rfl)
  (hs:Region.noSelect ops=true:=by kernel_rfl) (hf:Region.free md ops listed i=true:=by kernel_rfl) (hr:(Region.ready md ops listed).contains i=true:=by kernel_rfl)
  (hQ:∀c a w,Q (.panic c) (a.put oi.dst v) w→Q (.panic c) a w:=by exact fun _ _ _ h=>h)
  (hy:YieldsIf P ops S oi v a:=by refine Or.inl ⟨by rfl,?_⟩;(intro w hSw;(try dsimp only at hSw);go_split_ands;(try simp only[List.getElem_toArray,List.getElem_cons_succ,List.getElem_cons_zero]);go_simp;try with_reducible rfl))
  (hS:S w:=by assumption):wpAnyH P md ops Q S (fuel+1) listed a w:=wpAnyH_take hi hs hf hr hQ hy hS h
theorem tkS(i:Nat){oi:Oper}{fuel:Nat}{listed:Array Bool}{a:Act}{w:World}(h:wpAnyH P md ops Q S fuel (listed.setIfInBounds i true) (a.put oi.dst undef) w)
  (hi:ops[i]? =some oi:=by first | rfl | (simp only[List.getElem?_toArray,List.getElem?_cons_succ,List.getElem?_cons_zero];rfl))
  (hs:Region.noSelect ops=true:=by kernel_rfl) (hf:Region.free md ops listed i=true:=by kernel_rfl) (hr:(Region.ready md ops listed).contains i=true:=by kernel_rfl)
  (hQ:∀c a w,Q (.panic c) (a.put oi.dst undef) w→Q (.panic c) a w:=by exact fun _ _ _ h=>h)
  (hy:YieldsIf P ops S oi undef a:=by exact Or.inr ⟨by rfl,rfl⟩)
  (hS:S w:=by assumption):wpAnyH P md ops Q S (fuel+1) listed a w:=wpAnyH_take hi hs hf hr hQ hy hS h
theorem rq(rs:List Nat){fuel:Nat}{listed:Array Bool}{a:Act}{w:World}(h:AllReadyH P md ops Q S fuel listed a w rs)(hr:Region.ready md ops listed=rs:=by kernel_rfl)(hne:rs≠[]:=by simp):wpAnyH P md ops Q S (fuel+1) listed a w:=wpAnyH_ready hr hne h
theorem r1(i:Nat){fuel:Nat}{listed:Array Bool}{a:Act}{w:World}{o:Oper}
  (h:∀K':Act→World→Prop,Shut (∀a w,S w→(S w→wpAnyH P md ops Q S fuel (listed.setIfInBounds i true) a w)→K' a w)→if Region.wanted o (yielded ops a.tmps)=true then Oper.wp P o a w K' Q else K' (a.put o.dst undef) w)
  (ho:ops[i]? =some o:=by rfl) (hr:Region.ready md ops listed=[i]:=by kernel_rfl):wpAnyH P md ops Q S (fuel+1) listed a w:=wpAnyH_ready hr (by simp) (AllReadyH.cons ho h AllReadyH.nil)
end
/-! lemmas on written-out arrays that simp knows as proved by rfl, under short names (an abbrev for them is no rfl lemma: walks went ten times slower) -/
theorem Co{α:Type _}{b:α}{i:Nat}{s:List α}:s.toArray.setIfInBounds i b=(s.set i b).toArray:=List.setIfInBounds_toArray ..
theorem Cp{α:Type _}{a b:α}{s:List α}:(a::s).set 0 b=b::s:=rfl
theorem Cn{α:Type _}{a b:α}{n:Nat}{s:List α}:(a::s).set (n+1) b=a::s.set n b:=rfl
theorem Ba{α:Type _}{s:List α}{i:Nat}(h:i<s.toArray.size):s.toArray[i]=s[i]'h:=rfl
theorem Bc{α:Type _}{a:α}{s:List α}{i:Nat}(h:i+1<(a::s).length):(a::s)[i+1]=s[i]'(Nat.lt_of_succ_lt_succ h):=rfl
theorem Az{α:Type _}{a:α}{s:List α}(h:0<(a::s).length):(a::s)[0]=a:=rfl
structure Cb where
 name:ByteArray
 weight:Int
 count:Int
section
variable {w:World} {base size n cap g:Nat} {e:TypeId} {xs:List Value}
end
structure ACo{α:Type}(L M:List α)(p:α→Bool)(i j:Nat):Prop where
 len:M.length=L.length
 ij:i≤j
 jl:j≤L.length
 head:M.take i=(L.take j).filter fun x=>!p x
 tail:M.drop j=L.drop j
namespace ACo
variable {α:Type} {L M:List α} {p:α→Bool} {i j:Nat}
theorem skip(h:ACo L M p i j)(x:α)(hx:L[j]? =some x)(hp:p x=true):ACo L M p i (j+1):=by
 have hj:=(List.getElem?_eq_some_iff.1 hx).1;refine⟨h.len,by have:=h.ij;omega,hj,?_,?_⟩
 ·rw[h.head,List.take_add_one,hx]
  simp[hp]
 ·have:=congrArg (List.drop 1) h.tail
  rwa [List.drop_drop,List.drop_drop]at this
theorem keep(h:ACo L M p i j)(x:α)(hx:L[j]? =some x)(hp:p x=false):ACo L (M.set i x) p (i+1) (j+1):=by
 have hj:=(List.getElem?_eq_some_iff.1 hx).1;have hij:=h.ij;refine⟨by simp[h.len],by omega,hj,?_,?_⟩
 ·rw[List.take_add_one,List.take_set_of_le nr,h.head,List.take_add_one,hx]
  have:(M.set i x)[i]? =some x:=by rw[List.getElem?_set_self (by rw[h.len];omega)]
  rw[this]
  simp[hp]
 ·rw[List.drop_set_of_lt (by omega)]
  have:=congrArg (List.drop 1) h.tail
  rwa [List.drop_drop,List.drop_drop]at this
theorem start(L:List α)(p:α→Bool)(i:Nat)(x:α)(hx:L[i]? =some x)(hp:p x=true)(hn:∀(j:Nat) y,j<i→L[j]? =some y→p y=false):ACo L L p i (i+1):=by
 have hi:=(List.getElem?_eq_some_iff.1 hx).1;refine⟨rfl,by omega,hi,?_,rfl⟩;rw[List.take_add_one,hx,List.filter_append]
 have e:(L.take i).filter (fun x=>!p x)=L.take i:=by
  rw[List.filter_eq_self];intro y hy;obtain⟨j,hj,e⟩:=List.getElem_of_mem hy;have hj':j<i:=by simp at hj;omega
  have:=hn j y hj' (by rw[←e];simp[List.getElem?_eq_getElem (show j<L.length by omega)])
  simp[this]
 rw[e]
 simp[hp]
theorem done(h:ACo L M p i L.length):M.take i=L.filter (fun x=>!p x)∧(L.filter fun x=>!p x).length=i:=by
 have h1:=h.head;rw[List.take_length]at h1;refine⟨h1,?_⟩;rw[←h1,List.length_take,h.len];have:=h.ij;omega
end ACo
end
section
open Go.RowKit
theorem Ac{w w':World}{base size n:Nat}{e:TypeId}{v:Value}{xs:List Value}(h:w.ownsRow base e size v n xs)(hB:Below w.heap.size w w'):w'.ownsRow base e size v n xs:=by
 refine⟨h.1,?_⟩;rcases h.2 with hn | ⟨g,cap,cur,rfl,hb,hg,rest⟩
 ·exact .inl hn
 ·exact .inr ⟨g,cap,cur,rfl,hb,(hB.block g (Array.getElem?_eq_some_iff.1 hg).1).trans hg,rest⟩
theorem Bn{w:World}{base base' size n:Nat}{e:TypeId}{v:Value}{xs:List Value}(h:w.ownsRow base e size v n xs)(hb:base'≤base):w.ownsRow base' e size v n xs:=by
 refine⟨h.1,?_⟩;rcases h.2 with hn | ⟨g,cap,cur,rfl,h1,rest⟩
 ·exact .inl hn
 ·exact .inr ⟨g,cap,cur,rfl,by omega,rest⟩
theorem Hb{base n₀ size n:Nat}{w w' wa:World}{e:TypeId}{v:Value}{xs:List Value}(h:w.ownsRow base e size v n xs)(hg:w.grownBy w' v.ownBlock)(hB:Below n₀ wa w)(hn:n₀≤w.heap.size)(hb:n₀≤base):Below n₀ wa w':=
 hB.grown hg hn fun k hk=>nt hb (h.lt k hk).1
theorem AAq(w:World)(p:Addr)(u v:Value)(t:TypeId):((w.setCell p u).alloc (.cells #[v] t)).cell? ⟨w.heap.size,0,none⟩=some v:=by
 have e:(w.setCell p u).heap.size=w.heap.size:=by simp[World.setCell]
 rw[cell_of_row _ w.heap.size 0 #[v] t (0,0) (by rw[←e];exact heap_alloc_new _ _)]
 rfl
end
section
def Ay(n d:Int):Int:=n/(Int.gcd n d:Int)
def Ar(n d:Int):Int:=d/(Int.gcd n d:Int)

theorem Dn{n d:Int}(hd:0<d):(0:Int)<(Int.gcd n d:Int):=by
 have:=Int.gcd_pos_of_ne_zero_right n (b:=d) (by omega);omega
theorem Kv(n d:Int):Ay n d*(Int.gcd n d:Int)=n:=Int.ediv_mul_cancel (Int.gcd_dvd_left n d)
theorem Mr(n d:Int):Ar n d*(Int.gcd n d:Int)=d:=Int.ediv_mul_cancel (Int.gcd_dvd_right n d)
theorem Eg{n d:Int}(hd:0<d):0<Ar n d:=by
 have h:=Mr n d;have g:=Dn (n:=n) hd;rcases Int.lt_or_le 0 (Ar n d)with l | l
 ·exact l
 ·have:=Int.mul_le_mul_of_nonneg_right l (Int.le_of_lt g)
  omega
theorem Kl{n d:Int}(hd:0<d):Int.gcd (Ay n d) (Ar n d)=1:=
 Int.gcd_ediv_gcd_ediv_gcd (by have:=Dn (n:=n) hd;omega)
theorem Sx(n d:Int):Ay n d*d=n*Ar n d:=by
 have a:=Kv n d;have b:=Mr n d
 calc Ay n d*d=Ay n d*(Ar n d*(Int.gcd n d:Int)):=by rw[b]
  _=(Ay n d*(Int.gcd n d:Int))*Ar n d:=by rw[Int.mul_comm (Ar n d),Int.mul_assoc]
  _=n*Ar n d:=by rw[a]
theorem AFz{p q p' q':Int}(hq:0<q)(hq':0<q')(c:Int.gcd p q=1)(c':Int.gcd p' q'=1)(h:p*q'=p'*q):p=p'∧q=q':=by
 have d1:q∣q':=by
  have:q∣p*q':=⟨p',by rw[h,Int.mul_comm]⟩;rw[Int.gcd_comm]at c;rw[←Int.gcd_eq_natAbs_left_iff_dvd,Int.gcd_mul_right_right_of_gcd_eq_one c]at this;exact Int.gcd_eq_natAbs_left_iff_dvd.1 this
 have d2:q'∣q:=by
  have:q'∣p'*q:=⟨p,by rw[←h,Int.mul_comm]⟩;rw[Int.gcd_comm]at c';rw[←Int.gcd_eq_natAbs_left_iff_dvd,Int.gcd_mul_right_right_of_gcd_eq_one c']at this;exact Int.gcd_eq_natAbs_left_iff_dvd.1 this
 have e:q=q':=Int.dvd_antisymm (by omega) (by omega) d1 d2;subst e;exact⟨Int.eq_of_mul_eq_mul_right (by omega) h,rfl⟩
theorem AAz{n d p q:Int}(hd:0<d)(hq:0<q)(c:Int.gcd p q=1)(h:p*d=n*q):p=Ay n d∧q=Ar n d:=by
 refine AFz hq (Eg hd) c (Kl hd) ?_;have x:=Sx n d;have hdz:d≠0:=by omega
 refine Int.eq_of_mul_eq_mul_right hdz ?_
 calc p*Ar n d*d=(p*d)*Ar n d:=by rw[Int.mul_assoc,Int.mul_comm (Ar n d),←Int.mul_assoc]
  _=(n*q)*Ar n d:=by rw[h]
  _=(n*Ar n d)*q:=by rw[Int.mul_assoc,Int.mul_comm q,←Int.mul_assoc]
  _=(Ay n d*d)*q:=by rw[x]
  _=Ay n d*q*d:=by rw[Int.mul_assoc,Int.mul_comm d,←Int.mul_assoc]
theorem ADa{n d n' d':Int}(hd:0<d)(hd':0<d')(h:n*d'=n'*d):Ay n d=Ay n' d'∧Ar n d=Ar n' d':=by
 refine AAz hd' (Eg hd) (Kl hd) ?_;have x:=Sx n d;have hdz:d≠0:=by omega
 refine Int.eq_of_mul_eq_mul_right hdz ?_
 calc Ay n d*d'*d=(Ay n d*d)*d':=by rw[Int.mul_assoc,Int.mul_comm d',←Int.mul_assoc]
  _=(n*Ar n d)*d':=by rw[x]
  _=(n*d')*Ar n d:=by rw[Int.mul_assoc,Int.mul_comm (Ar n d),←Int.mul_assoc]
  _=(n'*d)*Ar n d:=by rw[h]
  _=n'*Ar n d*d:=by rw[Int.mul_assoc,Int.mul_comm d,←Int.mul_assoc]
theorem ACk{p q:Int}(c:Int.gcd p q=1):Ay p q=p∧Ar p q=q:=by
 unfold Ay Ar;rw[c];simp
theorem Lf{d:Int}(hd:0<d):Ay 0 d=0∧Ar 0 d=1:=by
 obtain⟨a,b⟩:=AAz (n:=0) (d:=d) (p:=0) (q:=1) hd (by decide) (by decide) (by simp);exact⟨a.symm,b.symm⟩
theorem Ys{n d:Int}:Ay n d=0→n=0:=fun h=>by
 have:=Kv n d;rw[h]at this
 simpa using this.symm
theorem ACx(n d:Int):(Ay n d).natAbs=n.natAbs/Int.gcd n d:=by
 unfold Ay;rw[Int.natAbs_ediv_of_dvd (Int.gcd_dvd_left n d)]
 rfl
theorem AMs(n d:Int):(Ar n d).natAbs=d.natAbs/Int.gcd n d:=by
 unfold Ar;rw[Int.natAbs_ediv_of_dvd (Int.gcd_dvd_right n d)]
 rfl
theorem Nq(n d:Int):(Ay n d).natAbs≤n.natAbs:=by rw[ACx];exact Nat.div_le_self _ _
theorem Qd{n d:Int}(hd:0<d):Ar n d≤d:=by
 have h:=AMs n d;have:=Nat.div_le_self d.natAbs (Int.gcd n d);have:=Eg (n:=n) hd;omega
theorem ADs(n d:Int):Ay (-n) d=-Ay n d:=by
 unfold Ay;rw[Int.neg_gcd];rw[Int.neg_ediv_of_dvd (Int.gcd_dvd_left n d)]
theorem Xp(n d:Int):Ar (-n) d=Ar n d:=by unfold Ar;rw[Int.neg_gcd]
theorem Rz{n d:Int}(hd:0<d):(Ay n d<0↔n<0):=by
 have g:=Dn (n:=n) hd;have h:=Kv n d
 constructor
 ·intro l
  have:=Int.mul_neg_of_neg_of_pos l g;omega
 ·intro l
  rcases Int.lt_or_le (Ay n d) 0 with k | k
  ·exact k
  ·have:=Int.mul_nonneg k (Int.le_of_lt g)
   omega

theorem AQt{an ad bn bd:Int}(ha:0<ad)(hb:0<bd)(ca:Int.gcd an ad=1)(cb:Int.gcd bn bd=1)(g:Int)(hg:g=(Int.gcd ad bd:Int))(S c:Int)(hS:S=an*(bd/g)+bn*(ad/g))(hc:c=(Int.gcd g S:Int)):
  S/c=Ay (an*bd+bn*ad) (ad*bd)∧(ad/g)*(bd/c)=Ar (an*bd+bn*ad) (ad*bd):=by
 have gp:0<g:=by rw[hg];exact Dn hb
 obtain⟨a',ea⟩:g∣ad:=by rw[hg];exact Int.gcd_dvd_left ad bd
 obtain⟨b',eb⟩:g∣bd:=by rw[hg];exact Int.gcd_dvd_right ad bd
 have cab:Int.gcd a' b'=1:=by
  have h1:Int.gcd (g*a') (g*b')=g.natAbs*Int.gcd a' b':=Int.gcd_mul_left ..;rw[←ea,←eb]at h1;have h2:g.natAbs=Int.gcd ad bd:=by rw[hg];rfl
  have h3:0<Int.gcd ad bd:=by omega
  rw[h2]at h1;exact(Nat.eq_of_mul_eq_mul_left h3 (by omega)).symm
 have ea2:ad/g=a':=by rw[ea];exact Int.mul_ediv_cancel_left _ (by omega)
 have eb2:bd/g=b':=by rw[eb];exact Int.mul_ediv_cancel_left _ (by omega)
 rw[ea2,eb2]at hS
 have a'p:0<a':=by
  rcases Int.lt_or_le 0 a' with l | l
  ·exact l
  ·have:=Int.mul_le_mul_of_nonneg_left l (Int.le_of_lt gp);omega
 have b'p:0<b':=by
  rcases Int.lt_or_le 0 b' with l | l
  ·exact l
  ·have:=Int.mul_le_mul_of_nonneg_left l (Int.le_of_lt gp);omega
 have cop_of:∀{x y k:Int},Int.gcd x (k*y)=1→Int.gcd x y=1:=fun {x y k} h=>by
  have:=Int.gcd_dvd_gcd_mul_left_right x y k;rw[h]at this;exact Nat.dvd_one.1 this
 have sa:Int.gcd S a'=1:=by
  rw[hS,Int.gcd_add_mul_right_left];rw[Int.gcd_mul_right_left_of_gcd_eq_one]
  ·rw[Int.gcd_comm];exact cab
  ·rw[ea]at ca;exact cop_of ca
 have sb:Int.gcd S b'=1:=by
  rw[hS,Int.add_comm,Int.gcd_add_mul_right_left];rw[Int.gcd_mul_right_left_of_gcd_eq_one]
  ·exact cab
  ·rw[eb]at cb;exact cop_of cb
 have cp:0<c:=by rw[hc];have:=Int.gcd_pos_of_ne_zero_left (a:=g) S (by omega);omega
 obtain⟨s',es⟩:c∣S:=by rw[hc];exact Int.gcd_dvd_right g S
 obtain⟨g',eg⟩:c∣g:=by rw[hc];exact Int.gcd_dvd_left g S
 have g'p:0<g':=by
  rcases Int.lt_or_le 0 g' with l | l
  ·exact l
  ·have:=Int.mul_le_mul_of_nonneg_left l (Int.le_of_lt cp);omega
 have csg:Int.gcd g' s'=1:=by
  have h1:Int.gcd (c*g') (c*s')=c.natAbs*Int.gcd g' s':=Int.gcd_mul_left ..;rw[←es,←eg]at h1;have h2:c.natAbs=Int.gcd g S:=by rw[hc];rfl
  have h3:0<Int.gcd g S:=by omega
  rw[h2]at h1;exact(Nat.eq_of_mul_eq_mul_left h3 (by omega)).symm
 have e1:S/c=s':=by rw[es];exact Int.mul_ediv_cancel_left _ (by omega)
 have e2:bd/c=g'*b':=by rw[eb,eg,Int.mul_assoc];exact Int.mul_ediv_cancel_left _ (by omega)
 rw[e1,e2,ea2]
 have hs'a:Int.gcd s' a'=1:=by
  have:=Int.gcd_dvd_gcd_mul_left_left s' a' c;rw[←es,sa]at this;exact Nat.dvd_one.1 this
 have hs'b:Int.gcd s' b'=1:=by
  have:=Int.gcd_dvd_gcd_mul_left_left s' b' c;rw[←es,sb]at this;exact Nat.dvd_one.1 this
 have cop:Int.gcd s' (a'*(g'*b'))=1:=by
  rw[Int.gcd_mul_right_right_of_gcd_eq_one hs'a,Int.gcd_mul_right_right_of_gcd_eq_one (by rw[Int.gcd_comm];exact csg)];exact hs'b
 refine AAz (Int.mul_pos ha hb) (Int.mul_pos a'p (Int.mul_pos g'p b'p)) cop ?_;have hS2:c*s'=an*b'+bn*a':=by rw[←es,hS]
 subst hS;rw[ea,eb];have eg':=eg
 calc s'*(g*a'*(g*b'))=s'*((c*g')*a'*(g*b')):=by rw[←eg]
  _=(c*s')*(g*(a'*(g'*b'))):=by ac_rfl
  _=(an*b'+bn*a')*(g*(a'*(g'*b'))):=by rw[hS2]
  _=(an*(g*b')+bn*(g*a'))*(a'*(g'*b')):=by
   rw[←Int.mul_assoc (an*b'+bn*a') g]
   congr 1
   rw[Int.add_mul]
   congr 1<;>ac_rfl

theorem ASg{an ad bn bd:Int}(ha:0<ad)(hb:0<bd)(ca:Int.gcd an ad=1)(cb:Int.gcd bn bd=1)(g h:Int)(hg:g=(Int.gcd an bd:Int))(hh:h=(Int.gcd bn ad:Int)):
  (an/g)*(bn/h)=Ay (an*bn) (ad*bd)∧(ad/h)*(bd/g)=Ar (an*bn) (ad*bd):=by
 have gp:0<g:=by rw[hg];exact Dn hb
 have hp:0<h:=by rw[hh];exact Dn ha
 obtain⟨n1,e1⟩:g∣an:=by rw[hg];exact Int.gcd_dvd_left an bd
 obtain⟨d2,e2⟩:g∣bd:=by rw[hg];exact Int.gcd_dvd_right an bd
 obtain⟨n2,e3⟩:h∣bn:=by rw[hh];exact Int.gcd_dvd_left bn ad
 obtain⟨d1,e4⟩:h∣ad:=by rw[hh];exact Int.gcd_dvd_right bn ad
 have q1:an/g=n1:=by rw[e1];exact Int.mul_ediv_cancel_left _ (by omega)
 have q2:bd/g=d2:=by rw[e2];exact Int.mul_ediv_cancel_left _ (by omega)
 have q3:bn/h=n2:=by rw[e3];exact Int.mul_ediv_cancel_left _ (by omega)
 have q4:ad/h=d1:=by rw[e4];exact Int.mul_ediv_cancel_left _ (by omega)
 have c12:Int.gcd n1 d2=1:=by
  have h1:Int.gcd (g*n1) (g*d2)=g.natAbs*Int.gcd n1 d2:=Int.gcd_mul_left ..;rw[←e1,←e2]at h1;have h2:g.natAbs=Int.gcd an bd:=by rw[hg];rfl
  have h3:0<Int.gcd an bd:=by omega
  rw[h2]at h1;exact(Nat.eq_of_mul_eq_mul_left h3 (by omega)).symm
 have c21:Int.gcd n2 d1=1:=by
  have h1:Int.gcd (h*n2) (h*d1)=h.natAbs*Int.gcd n2 d1:=Int.gcd_mul_left ..;rw[←e3,←e4]at h1;have h2:h.natAbs=Int.gcd bn ad:=by rw[hh];rfl
  have h3:0<Int.gcd bn ad:=by omega
  rw[h2]at h1;exact(Nat.eq_of_mul_eq_mul_left h3 (by omega)).symm
 have cop2:∀{x y k l:Int},Int.gcd (k*x) (l*y)=1→Int.gcd x y=1:=fun {x y k l} e=>by
  have u:=Int.gcd_dvd_gcd_mul_left_left x y k;have v:=Int.gcd_dvd_gcd_mul_left_right (k*x) y l;rw[e]at v;exact Nat.dvd_one.1 (Nat.dvd_trans u v)
 have c11:Int.gcd n1 d1=1:=by rw[e1,e4]at ca;exact cop2 ca
 have c22:Int.gcd n2 d2=1:=by rw[e3,e2]at cb;exact cop2 cb
 rw[q1,q2,q3,q4]
 have p1:0<d1:=by
  rcases Int.lt_or_le 0 d1 with l | l
  ·exact l
  ·have:=Int.mul_le_mul_of_nonneg_left l (Int.le_of_lt hp);omega
 have p2:0<d2:=by
  rcases Int.lt_or_le 0 d2 with l | l
  ·exact l
  ·have:=Int.mul_le_mul_of_nonneg_left l (Int.le_of_lt gp);omega
 refine AAz (Int.mul_pos ha hb) (Int.mul_pos p1 p2) ?_ ?_
 ·rw[Int.gcd_mul_right_left_of_gcd_eq_one]
  ·rw[Int.gcd_mul_right_right_of_gcd_eq_one c21];exact c22
  ·rw[Int.gcd_mul_right_right_of_gcd_eq_one c11];exact c12
 ·calc n1*n2*(ad*bd)=n1*n2*((h*d1)*(g*d2)):=by rw[←e4,←e2]
   _=((g*n1)*(h*n2))*(d1*d2):=by ac_rfl
   _=an*bn*(d1*d2):=by rw[←e1,←e3]
end
section
open Go.RowKit Go.Shelf
theorem Lw{k:IntKind}{a b:Int}(h:a=b):Ending.returned (.int k a)=.returned (.int k b):=by rw[h]

theorem Dm(n:Int)(h1:-9223372036854775808≤n)(h2:n≤9223372036854775807)(w:World):
  Calls Tryz.prog 89 #[.int .i64 n] w fun e w'=>e=.returned (.int .u64 (n.natAbs:Int))∧w=w':=by
 by_cases h:n<0
 ·have e1:IntKind.u64.wrap (-IntKind.u64.wrap n)=(n.natAbs:Int):=by simp only[IntKind.wrap_u64];omega
  go_enter Tryz.func89,Tryz.ntmps89
  go_wp2
  go_ret;exact⟨Lw (by first | exact e1 | omega | rfl),rfl⟩
 ·go_enter Tryz.func89,Tryz.ntmps89
  go_wp2
  go_ret;exact⟨Lw (by omega),rfl⟩

theorem APi(a b:Int):Int.gcd b (a%b)=Int.gcd a b:=by
 rw[Int.gcd_comm a b];have h:a%b=a-b*(a/b):=by have:=Int.mul_ediv_add_emod a b;omega
 rw[h,Int.gcd_sub_mul_left_right]

theorem Aj{n₀:Nat}{w w':World}(h:Below n₀ w w')(n:Nat):Below n₀ w (w'.drewN n):=h.trans ⟨rfl,rfl,rfl,nr,fun _ _=>rfl⟩
theorem Aa(w:World)(o:Obj):Below w.heap.size w (w.alloc o):=(br).alloc nr o

theorem Jg(a b:Int)(a0:0≤a)(a1:a<18446744073709551616)(b0:0≤b)(b1:b<18446744073709551616)(w:World):
  Calls Tryz.prog 90 #[.int .u64 a,.int .u64 b] w fun e w'=>e=.returned (.int .u64 (Int.gcd a b:Int))∧∃m,w'=w.drewN m:=by
 go_enter Tryz.func90,Tryz.ntmps90
 go_wp2
 go_loopw [0,1] (fun i j wr=>∃x y:Int,0≤x∧x<18446744073709551616∧0≤y∧y<18446744073709551616∧i=.int .u64 x∧j=.int .u64 y∧Hid (Int.gcd x y=Int.gcd a b)∧∃m,wr=w.drewN m) (fun _ j _=>(intOf j).toNat)
 case atStart=>exact⟨a,b,a0,a1,b0,b1,rfl,rfl,lh rfl,0,rfl⟩
 case round=>
  obtain⟨x,y,x0,x1,y0,y1,rfl,rfl,HG,m,rfl⟩:=hrel
  by_cases h:y=0
  ·subst h
   go_wp2
   go_ret;exact⟨Lw (by rw[←HG.out];simp;omega),m,rfl⟩
  ·have yp:0<y:=by omega
   have h':(y==0)=false:=by simpa using h
   have t0:0≤x%y:=Int.emod_nonneg _ h;have t1:x%y<y:=Int.emod_lt_of_pos _ yp;have HS:Hid (Int.gcd y (x%y)=Int.gcd a b):=lh ((APi x y).trans HG.out)
   go_wp2
   go_quiet (fail)
   go_wp2
   go_roundw
   case rel=>exact⟨y,x%y,y0,y1,t0,by omega,rfl,rfl,HS,_,World.drewN_drewN _ _ _⟩
   case measure=>simp[intOf];omega

def Cf(n d:Int):Bool:=decide (1≤d)&&decide (d≤1152921504606846976)&&decide (-1152921504606846976≤n)&&decide (n≤1152921504606846976)&&(Int.gcd n d==1)
theorem Bj(n d:Int):Cf n d=true↔1≤d∧d≤1152921504606846976∧-1152921504606846976≤n∧n≤1152921504606846976∧Int.gcd n d=1:=by
 simp[Cf,and_assoc]

theorem Df(n d:Int)(w:World):
  Calls Tryz.prog 68 #[.agg #[.int .i64 n,.int .i64 d]] w fun e w'=>e=.returned (.bool (Cf n d))∧Below w.heap.size w w':=by
 by_cases h1:1≤d
 ·have c1:=dT h1
  by_cases h2:d≤1152921504606846976
  ·have c2:=dT h2
   by_cases h3:-1152921504606846976≤n
   ·have c3:=dT h3
    by_cases h4:n≤1152921504606846976
    ·have c4:=dT h4
     have e1:IntKind.u64.wrap d=d:=by rw[IntKind.wrap_u64];omega
     obtain⟨g,hg⟩:∃g:Int,g=(Int.gcd (n.natAbs:Int) d:Int):=⟨_,rfl⟩;obtain⟨b,hb⟩:=nm ((g==1):Bool)
     have HR:Hid (Cf n d=b):=lh (by
      unfold Cf;rw[c1,c2,c3,c4,←hb,hg];have:Int.gcd (n.natAbs:Int) d=Int.gcd n d:=by simp[Int.gcd]
      rw[this,Bool.eq_iff_iff];simp;omega)
     have HG:=lh hg;rw[HR.out];clear hg
     go_enter Tryz.func68,Tryz.ntmps68
     go_wp2
     go_quiet (first | (go_at_call 89;refine Calls.quiet_of_same ((Dm n (by omega) (by omega) _).mono fun e w' h=>⟨h.1,h.2.symm⟩)) | (go_at_call 90;refine Calls.quiet_of ((Jg _ d (by omega) (by omega) (by omega) (by omega) _).mono fun e w' h=>⟨h.1.trans (Lw HG.out.symm),h.2⟩)))
     go_wp2
     go_ret;exact⟨rfl,Aj (Aa _ _) _⟩
    ·have c4:=dF h4
     have HR:Hid (Cf n d=false):=lh (by unfold Cf;rw[c1,c2,c3,c4];rfl);rw[HR.out];clear h4
     go_enter Tryz.func68,Tryz.ntmps68
     go_wp2
     go_quiet (fail)
     go_wp2
     go_ret;exact⟨rfl,Aj (Aa _ _) _⟩
   ·have c3:=dF h3
    have HR:Hid (Cf n d=false):=lh (by unfold Cf;rw[c1,c2,c3];rfl);rw[HR.out];clear h3
    go_enter Tryz.func68,Tryz.ntmps68
    go_wp2
    go_quiet (fail)
    go_wp2
    go_ret;exact⟨rfl,Aj (Aa _ _) _⟩
  ·have c2:=dF h2
   have HR:Hid (Cf n d=false):=lh (by unfold Cf;rw[c1,c2];rfl);rw[HR.out];clear h2
   go_enter Tryz.func68,Tryz.ntmps68
   go_wp2
   go_quiet (fail)
   go_wp2
   go_ret;exact⟨rfl,Aj (Aa _ _) _⟩
 ·have c1:=dF h1
  have HR:Hid (Cf n d=false):=lh (by unfold Cf;rw[c1];rfl);rw[HR.out];clear h1
  go_enter Tryz.func68,Tryz.ntmps68
  go_wp2
  go_quiet (fail)
  go_wp2
  go_ret;exact⟨rfl,Aj (Aa _ _) _⟩

def Eh(neg:Bool)(n d:Int):Int×Int×Int:=if 1152921504606846976<n∨1152921504606846976<d then(0,0,5)else(if neg then -n else n,d,0)
theorem El(neg:Bool)(n d:Int)(n0:0≤n)(d0:0≤d)(w:World):
  Calls Tryz.prog 91 #[.bool neg,.int .u64 n,.int .u64 d] w fun e w'=>e=.returned (.tuple #[.agg #[.int .i64 (Eh neg n d).1,.int .i64 (Eh neg n d).2.1],.int .i64 (Eh neg n d).2.2])∧Below w.heap.size w w':=by
 by_cases h1:1152921504606846976<n
 ·have HR:Hid (Eh neg n d=(0,0,5)):=lh (by unfold Eh;rw[if_pos (.inl h1)])
  rw[HR.out]
  go_enter Tryz.func91,Tryz.ntmps91
  go_wp2
  refine bodyPost_ret (v:=.tuple #[.agg #[.int .i64 0,.int .i64 0],.int .i64 5]) (by simp[results,Tryz.results91,go_sem]) rfl ⟨rfl,?_⟩;exact Aa _ _
 ·by_cases h2:1152921504606846976<d
  ·have HR:Hid (Eh neg n d=(0,0,5)):=lh (by unfold Eh;rw[if_pos (.inr h2)])
   rw[HR.out]
   go_enter Tryz.func91,Tryz.ntmps91
   go_wp2
   refine bodyPost_ret (v:=.tuple #[.agg #[.int .i64 0,.int .i64 0],.int .i64 5]) (by simp[results,Tryz.results91,go_sem]) rfl ⟨rfl,?_⟩;exact Aa _ _
  ·have HR:Hid (Eh neg n d=(if neg then -n else n,d,0)):=lh (by unfold Eh;rw[if_neg (by omega)])
   rw[HR.out]
   cases neg
   ·go_enter Tryz.func91,Tryz.ntmps91
    go_wp2
    refine bodyPost_ret (v:=.tuple #[.agg #[.int .i64 n,.int .i64 d],.int .i64 0]) (by simp[results,Tryz.results91,go_sem]) rfl ⟨rfl,?_⟩;exact Aa _ _
   ·go_enter Tryz.func91,Tryz.ntmps91
    go_wp2
    refine bodyPost_ret (v:=.tuple #[.agg #[.int .i64 (-n),.int .i64 d],.int .i64 0]) (by simp[results,Tryz.results91,go_sem]) rfl ⟨rfl,?_⟩;exact Aa _ _
end
end Go.Proofs.YtebofaenlhhkaaaGreat
