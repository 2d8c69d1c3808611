import Derived.Test.YtebofaenlhhkaaaGreatY27
namespace Go.Proofs.YtebofaenlhhkaaaGreat
set_option maxRecDepth 100000
set_option maxHeartbeats 80000000
set_option linter.unusedSimpArgs false
section
theorem ABl(n:Nat):∀l:List Int,l.Nodup→(∀x∈l,0≤x∧x<n)→l.length≤n:=by
 induction n with
 | zero=>
  intro l _ h
  cases l with
  | nil=>exact nr
  | cons x r=>have:=h x List.mem_cons_self;omega
 | succ n ih=>
  intro l hn h
  have h1:=ih (l.erase (n:Int)) (hn.erase _) fun x hx=>by
   have hm:=(List.Nodup.mem_erase_iff hn).1 hx;have:=h x hm.2;have hne:=hm.1;omega
  have h2:l.length≤(l.erase (n:Int)).length+1:=by
   rw[List.length_erase]
   split<;>omega
  omega

def AFn(hs:List Int):Prop:=∀k,k<hs.length→-1≤ig hs k∧ig hs k<hs.length

/-! ### The chain -/
def Tp(hs:List Int):Nat→List Int→Int→List Int×Bool
 | 0,out,_=>(out,false)
 | f+1,out,i=>if i<0 then(out,true)else if i∈out then(out,false)else Tp hs f (out++[i]) (ig hs i.toNat)
def AGt(hs:List Int)(i:Int):List Int×Bool:=Tp hs (hs.length+1) [] i
theorem Qy{out:List Int}{i:Int}(h:out.Nodup)(hi:i∉out):(out++[i]).Nodup:=by
 rw[List.nodup_append];refine⟨h,List.pairwise_singleton _ _,fun a ha b hb=>?_⟩;obtain rfl:b=i:=by simpa using hb
 exact fun e=>hi (e▸ha)
theorem ABu{n:Nat}{out:List Int}{i:Int}(h:∀x∈out,0≤x∧x<(n:Int))(h0:0≤i)(h1:i<n):∀x∈out++[i],0≤x∧x<(n:Int):=by
 intro x hx;rcases List.mem_append.1 hx with h' | h'
 ·exact h x h'
 ·obtain rfl:x=i:=by simpa using h'
  exact⟨h0,h1⟩
structure Kk(hs:List Int)(i0:Int)(out:List Int)(i:Int):Prop where
 nd:out.Nodup
 inn:∀x∈out,0≤x∧x<(hs.length:Int)
 lo:-1≤i
 hi:i<hs.length
 eq:Tp hs (hs.length+1-out.length) out i=AGt hs i0
namespace Kk
variable {hs out:List Int} {i0 i:Int}
theorem start(h0:-1≤i0)(h1:i0<hs.length):Kk hs i0 [] i0:=⟨List.Pairwise.nil,(fun _ h=>by cases h),h0,h1,rfl⟩
theorem len(h:Kk hs i0 out i):out.length≤hs.length:=ABl _ _ h.nd h.inn
theorem fuel(h:Kk hs i0 out i):∃f,hs.length+1-out.length=f+1∧hs.length-out.length=f:=by
 have:=h.len;exact⟨hs.length-out.length,by omega,rfl⟩
theorem ends(h:Kk hs i0 out i)(hi:i<0):AGt hs i0=(out,true):=by
 obtain⟨f,e,_⟩:=h.fuel;rw[←h.eq,e];simp only[Tp];rw[if_pos hi]
theorem back(h:Kk hs i0 out i)(h0:¬i<0)(hi:i∈out):AGt hs i0=(out,false):=by
 obtain⟨f,e,_⟩:=h.fuel;rw[←h.eq,e];simp only[Tp];rw[if_neg h0,if_pos hi]
theorem next(h:Kk hs i0 out i)(hk:AFn hs)(h0:¬i<0)(hi:i∉out):Kk hs i0 (out++[i]) (ig hs i.toNat):=by
 obtain⟨f,e,e2⟩:=h.fuel;have hb:=hk i.toNat (by have:=h.hi;omega);refine⟨Qy h.nd hi,ABu h.inn (by omega) h.hi,hb.1,hb.2,?_⟩;rw[←h.eq,e];simp only[Tp];rw[if_neg h0,if_neg hi,List.length_append,List.length_singleton,show hs.length+1-(out.length+1)=f by omega]
end Kk
/-! ### The order -/
def Dr(hs:List Int)(out:List Int)(i:Nat):Bool:=!decide ((i:Int)∈out)&&(decide (ig hs i<0)||decide (ig hs i∈out))
def Hl(hs out:List Int):Option Nat:=(List.range hs.length).find? (Dr hs out)
def AJg(hs:List Int):Nat→List Int→List Int
 | 0,out=>out
 | f+1,out=>match Hl hs out with
  | none=>out
  | some k=>AJg hs f (out++[(k:Int)])
def Di(hs:List Int):List Int:=AJg hs hs.length []
theorem Za{hs out:List Int}(h:∀i,i<hs.length→Dr hs out i=false):Hl hs out=none:=by
 unfold Hl;rw[List.find?_eq_none];intro x hx
 simpa using h x (by simpa using hx)
theorem AAe{hs out:List Int}(k:Nat)(hk:k<hs.length)(h:Dr hs out k=true)(hn:∀i,i<k→Dr hs out i=false):Hl hs out=some k:=by
 unfold Hl;rw[List.find?_eq_some_iff_getElem];refine⟨by simpa using h,k,by simpa using hk,by simp,fun j hj=>?_⟩
 simpa using hn j hj
theorem AIr{hs out:List Int}{k:Nat}(h:Hl hs out=some k):k<hs.length∧Dr hs out k=true∧∀i,i<k→Dr hs out i=false:=by
 unfold Hl at h;rw[List.find?_eq_some_iff_getElem]at h;obtain⟨h1,i,hi,e,h2⟩:=h;have hi':i<hs.length:=by simpa using hi
 obtain rfl:i=k:=by simpa using e
 exact⟨hi',by simpa using h1,fun j hj=>by simpa using h2 j hj⟩
theorem ALp{hs out:List Int}(h:Hl hs out=none)(f:Nat):AJg hs f out=out:=by
 cases f with
 | zero=>rfl
 | succ f=>simp only[AJg];rw[h]
structure Iu(hs out:List Int):Prop where
 nd:out.Nodup
 inn:∀x∈out,0≤x∧x<(hs.length:Int)
 eq:AJg hs (hs.length-out.length) out=Di hs
namespace Iu
variable {hs out:List Int}
theorem start(hs:List Int):Iu hs []:=⟨List.Pairwise.nil,(fun _ h=>by cases h),rfl⟩
theorem len(h:Iu hs out):out.length≤hs.length:=ABl _ _ h.nd h.inn
theorem AKs{k:Nat}(h:Dr hs out k=true):(k:Int)∉out:=by
 unfold Dr at h;simp only[Bool.and_eq_true,Bool.not_eq_true',decide_eq_false_iff_not]at h;exact h.1
theorem ends(h:Iu hs out)(hn:Hl hs out=none):Di hs=out:=by rw[←h.eq];exact ALp hn _
theorem next(h:Iu hs out)(k:Nat)(hn:Hl hs out=some k):Iu hs (out++[(k:Int)])∧out.length<hs.length:=by
 obtain⟨hk,hr,_⟩:=AIr hn;have h1:=Qy h.nd (AKs hr);have h2:=ABu h.inn (Int.natCast_nonneg k) (by omega);have h3:=ABl _ _ h1 h2;rw[List.length_append,List.length_singleton]at h3;refine⟨⟨h1,h2,?_⟩,by omega⟩;rw[←h.eq,List.length_append,List.length_singleton,show hs.length-out.length=(hs.length-(out.length+1))+1 by omega];simp only[AJg];rw[hn]
end Iu
def Jr(n:Nat)(out:List Int):List Bool:=(List.range n).map fun i:Nat=>decide ((i:Int)∈out)
theorem AMc(n:Nat)(out:List Int):(Jr n out).length=n:=by simp[Jr]
theorem ANy(n:Nat)(out:List Int)(i:Nat)(h:i<n):btg (Jr n out) i=decide ((i:Int)∈out):=by
 unfold btg Jr;rw[List.getElem?_map,List.getElem?_range h]
 rfl
theorem Zd(n:Nat)(out:List Int)(k:Nat):(Kb (Jr n out)).set k (.bool true)=Kb (Jr n (out++[(k:Int)])):=by
 have e:∀l:List Bool,Kb l=l.map Value.bool:=fun l=>by
  induction l with
  | nil=>rfl
  | cons x r ih=>rw[List.map_cons,←ih];rfl
 rw[e,e];unfold Jr;refine List.ext_getElem? fun i=>?_;rw[List.getElem?_set];simp only[List.length_map,List.length_range,List.getElem?_map]
 by_cases h:k=i
 ·subst h
  by_cases hk:k<n
  ·simp[hk]
  ·simp[hk]
 ·rw[if_neg h]
  by_cases hi:i<n
  ·rw[List.getElem?_range hi]
   have:¬((i:Int)=(k:Int)):=by omega
   simp[this]
  ·rw[List.getElem?_eq_none (by simpa using hi)];rfl
theorem AKk(n:Nat):Kb (Jr n [])=List.replicate n (.bool false):=by
 induction n with
 | zero=>rfl
 | succ n ih=>
  have e:Jr (n+1) []=Jr n []++[false]:=by unfold Jr;rw[List.range_succ,List.map_append];rfl
  rw[e,AFu,ih,List.replicate_succ']
theorem AQm(L:List An):AFn (Ci L):=by
 intro k hk;rw[Kq]at hk⊢
 have e:ig (Ci L) k=Nz L k:=by
  unfold ig Ci Fc;rw[List.getElem?_map,List.getElem?_range hk]
  rfl
 rw[e];unfold Nz
 split
 ·omega
 ·rcases Fw L (fun r=>decide (r.name=(cg L k).after))with ⟨e1,_⟩ | ⟨j,hj,e1,_⟩
  ·have e1':Cj L (cg L k).after=-1:=e1
   omega
  ·have e1':Cj L (cg L k).after=j:=e1
   omega
theorem ADf(L:List An)(k:Nat)(hk:k<L.length):ig (Ci L) k=Nz L k:=by
 unfold ig Ci Fc;rw[List.getElem?_map,List.getElem?_range hk]
 rfl
end
section
open Go.RowKit Go.Shelf
theorem ACu:(Tryz.prog.info? 4).map (fun i=>(i.zero,i.size,i.bytes))=some (some (.bool false),1,1):=by kernel_rfl
theorem Vv(n:Nat):(madeCells (Value.bool false).cells (n*1)).toList=Kb (Jr n []):=by
 rw[AKk,Nat.mul_one]
 apply List.ext_getElem?
 intro j
 by_cases hj:j<n
 ·simp[madeCells,Value.cells,hj,Nat.mod_one]
 ·simp[madeCells,Value.cells,hj]
theorem AAv{w:World}{base g n cap:Nat}{out:List Int}(h:w.ownsRow base 4 1 (.slice (some ⟨g,0,none⟩) n cap) n (Kb (Jr n out)))(i:Nat)(hi:i<n):w.cell? ⟨g,i,none⟩=some (.bool (decide ((i:Int)∈out))):=by
 rw[h.cellAt i (by omega),AOl _ _ (by rw[AMc];exact hi),ANy n out i hi]
theorem ADb{hs out:List Int}{j:Nat}(h:(j:Int)∈out):Dr hs out j=false:=by unfold Dr;rw[dT h];rfl
theorem Zk{hs out:List Int}{j:Nat}(h:(j:Int)∉out)(h2:ig hs j<0):Dr hs out j=true:=by unfold Dr;rw[dF h,dT h2];rfl
theorem Wx{hs out:List Int}{j m:Nat}(h:(j:Int)∉out)(h2:ig hs j=m)(h3:(m:Int)∈out):Dr hs out j=true:=by unfold Dr;rw[dF h,h2,dT h3,Bool.or_true];rfl
theorem ACg{hs out:List Int}{j m:Nat}(h2:ig hs j=m)(h3:(m:Int)∉out):Dr hs out j=false:=by unfold Dr;rw[h2,dF h3,dF (show ¬(m:Int)<0 by omega)];simp

theorem Ty(ca pa:Option Addr)(L:List An)(A:List (ByteArray×ByteArray))(cc pc:Nat)(w:World)(hlen:L.length≤1000)(hI:Gs w.heap.size w ca L):
  Calls Tryz.prog 115 #[.agg #[.slice ca L.length cc,.slice pa A.length pc]] w fun e w'=>Hid (∃v,e=.returned v∧w'.ownsRow w.heap.size 3 1 v (Di (Ci L)).length (Ap (Di (Ci L)))∧Below w.heap.size w w'):=by
 have hb0:Below w.heap.size w (w.alloc (.cells #[.slice ca L.length cc,.slice pa A.length pc] 29)):=Aa w _;have HI:=lh (hI.grow hb0);clear hI;have HM:Hid (∀wr,Below (w.alloc (.cells #[.slice ca L.length cc,.slice pa A.length pc] 29)).heap.size (w.alloc (.cells #[.slice ca L.length cc,.slice pa A.length pc] 29)) wr→Below w.heap.size w wr):=lh fun wr h=>Dh _ h;have hz0:w.heap.size≤(w.alloc (.cells #[.slice ca L.length cc,.slice pa A.length pc] 29)).heap.size:=hb0.size;obtain⟨i0,hi,hz1,hz2,hz3⟩:=info_parts ACu;obtain⟨hs,HH⟩:∃hs,Hid (Ci L=hs):=⟨_,lh rfl⟩;have HK:Hid (AFn hs):=lh (by rw[←HH.out];exact AQm L);have hhl:hs.length≤1000:=by rw[←HH.out,Kq];exact hlen
 clear hb0
 go_enter Tryz.func115,Tryz.ntmps115
 go_wp2_with (first
  | (go_at_call 161;go_fit (AFr _ _ L A _ _ _ (by omega) HI.out);rintro e w1 hx;obtain⟨v1,rfl,hr1,hb1⟩:=hx.out;rw[HH.out]at hr1;obtain⟨a1,c1,rfl,_,_,_,hn1⟩:=Be hr1;have HN1:=lh hn1;clear hx hr1 hn1)
  | (at_make;refine wpList_make_full _ rfl _ _ 217 rfl w1.heap.size 4 i0 (.bool false) 1 Tryz.underlying217 hi hz1 hz2 _ _ _ _ (hs).length rfl rfl rfl rfl (by rw[hz3];omega) (by unfold maxLen;omega) nr ?_;intro w2 hown2 hg2;have HD2:=lh (show w2.ownsRow w1.heap.size 4 1 (.slice (some ⟨w1.heap.size,0,none⟩) (hs).length (hs).length) (hs).length (Kb (Jr (hs).length []))by rw[←Vv];exact hown2);clear hown2))
 generalize w.alloc (.cells #[.slice ca L.length cc,.slice pa A.length pc] 29)=W0 at *;have hB2:Below W0.heap.size W0 w2:=hb1.grown hg2 hb1.size (fun k e=>by cases e);have hbs1:=hb1.size;have hw1:w1.heap.size<w2.heap.size:=(HD2.out.lt _ rfl).2;have HN2:Hid (Bl w1.heap.size w2 a1 hs):=lh (HN1.out.below ((br).grown hg2 nr (fun k e=>by cases e)));clear HN1 hg2 HI hb1
 go_loopw [5] (fun v wr=>∃out:List Int,Hid (Iu hs out)∧Hid (∃a' c',v=.slice a' out.length c')∧Hid (wr.ownsRow w2.heap.size 3 1 v out.length (Ap out))∧Hid (wr.ownsRow w1.heap.size 4 1 (.slice (some ⟨w1.heap.size,0,none⟩) hs.length hs.length) hs.length (Kb (Jr hs.length out)))∧Hid (Bl w1.heap.size wr a1 hs)∧Below W0.heap.size W0 wr∧w2.heap.size≤wr.heap.size) (fun v _=>(match v with | .slice _ n _=>hs.length+1-n | _=>0))
 case atStart=>exact⟨[],lh (Iu.start hs),lh ⟨_,_,rfl⟩,lh (World.ownsRow_nil _ _ _ _),HD2,HN2,hB2,nr⟩
 case round=>
  clear HD2 HN2 hB2;obtain⟨out,HO,HV,HR,HD,HN,hB,hws⟩:=hrel;obtain⟨a',c',rfl⟩:=HV.out;have hol:=HO.out.len
  go_wp2_with fail
  obtain⟨wo,rfl⟩:∃wo:World,wo=wr:=⟨_,rfl⟩
  go_loop [6,16] (fun kv i=>kv=.int .i64 (-1)∧∃j:Nat,j≤hs.length∧i=.int .i64 j∧Hid (∀x,x<j→Dr hs out x=false)) (fun _ i=>hs.length-(intOf i).toNat)
  case atStart=>exact⟨rfl,0,nz,rfl,lh fun _ h=>absurd h (Nat.not_lt_zero _)⟩
  case round=>
   obtain⟨rfl,j,hj,rfl,HA⟩:=hrel
   by_cases hlt:j<hs.length
   ·obtain⟨b,off,rfl,hbl,hc⟩:=HN.out (by omega)
    have d0:=hc j hlt;have dj:=AAv HD.out j hlt;have hkj:=HK.out j hlt;have hjw:w1.heap.size<wo.heap.size:=by omega
    clear hc
    have HAN:Hid (Dr hs out j=false→Hid (∀x,x<j+1→Dr hs out x=false)):=lh fun h=>lh fun x hx=>by
     rcases Nat.lt_or_ge x j with l | l
     ·exact HA.out x l
     ·obtain rfl:x=j:=by omega
      exact h
    by_cases hjo:(j:Int)∈out
    ·rw[dT hjo]at dj
     have HAJ:=HAN.out (ADb hjo);clear hjo
     go_wp2_with fail
     go_round
     case rel=>exact⟨rfl,j+1,by omega,by go_num,HAJ⟩
     case measure=>simp[intOf];omega
    ·rw[dF hjo]at dj
     have hst:=HD.out.stored j (.bool true);rw[Zd]at hst;have HST:=lh hst.1;have hfz:=HD.out.frozenAt j;have HNX:Hid (Dr hs out j=true→Iu hs (out++[(j:Int)])∧out.length<hs.length):=lh fun h=>HO.out.next j (AAe j hlt h HA.out);have HRS:=lh (ownsRow_setCell_below HR.out (a:=⟨w1.heap.size,j,none⟩) hw1 (.bool true));have hBs:Below w1.heap.size wo (wo.setCell ⟨w1.heap.size,j,none⟩ (.bool true)):=(br).setCell (show w1.heap.size≤(⟨w1.heap.size,j,none⟩:Addr).block from nr) _;have HBS:=lh hBs;have HHN:=lh hjo;clear hst hBs
     by_cases hneg:ig hs j<0
     ·have HR1:=lh (HNX.out (Zk hjo hneg))
      clear hjo
      go_wp2_with (at_builtin;refine Fe rfl _ _ rfl w2.heap.size _ out rfl (HRS.out.alloc _) _ (j:Int) rfl (AAq _ _ _ _ _) (by omega) (by first | omega | (simp;omega)) ?_;intro v3 w3 hown3 hg3)
      have hBn:Below w1.heap.size wo w3:=Hb (HRS.out.alloc _) hg3 (HBS.out.alloc (by first | omega | (simp;omega)) _) (by first | omega | (simp;omega)) (by omega)
      have HDn:=lh ((HST.out.alloc _).kept hg3 (.inr (by
       intro e;have:w2.heap.size≤w1.heap.size:=(HRS.out.lt _ e.symm).1;omega)))
      go_roundw
      case rel=>exact⟨_,lh HR1.out.1,lh (by obtain⟨a3,c3,e,_⟩:=Be hown3;exact⟨a3,c3,e⟩),lh hown3,HDn,lh (HN.out.below hBn),hB.trans (hBn.mono hbs1),by have:=hBn.size;omega⟩
      case measure=>
       have:=HR1.out.2;obtain⟨a3,c3,e,_⟩:=Be hown3;rw[e]
       simp
       omega
     ·obtain⟨m,hm⟩:∃m:Nat,ig hs j=m:=⟨(ig hs j).toNat,by omega⟩
      have hmb:m<hs.length:=by omega
      have dm:=AAv HD.out m (by omega)
      by_cases hmo:(m:Int)∈out
      ·rw[dT hmo]at dm
       have HR1:=lh (HNX.out (Wx hjo hm hmo));rw[hm]at d0;clear hjo hmo hm hneg
       go_wp2_with (at_builtin;refine Fe rfl _ _ rfl w2.heap.size _ out rfl (HRS.out.alloc _) _ (j:Int) rfl (AAq _ _ _ _ _) (by omega) (by first | omega | (simp;omega)) ?_;intro v3 w3 hown3 hg3)
       have hBn:Below w1.heap.size wo w3:=Hb (HRS.out.alloc _) hg3 (HBS.out.alloc (by first | omega | (simp;omega)) _) (by first | omega | (simp;omega)) (by omega)
       have HDn:=lh ((HST.out.alloc _).kept hg3 (.inr (by
        intro e;have:w2.heap.size≤w1.heap.size:=(HRS.out.lt _ e.symm).1;omega)))
       go_roundw
       case rel=>exact⟨_,lh HR1.out.1,lh (by obtain⟨a3,c3,e,_⟩:=Be hown3;exact⟨a3,c3,e⟩),lh hown3,HDn,lh (HN.out.below hBn),hB.trans (hBn.mono hbs1),by have:=hBn.size;omega⟩
       case measure=>
        have:=HR1.out.2;obtain⟨a3,c3,e,_⟩:=Be hown3;rw[e]
        simp
        omega
      ·rw[dF hmo]at dm
       have HAJ:=HAN.out (ACg hm hmo);rw[hm]at d0;clear hjo hmo hm hneg
       go_wp2_with fail
       go_round
       case rel=>exact⟨rfl,j+1,by omega,by go_num,HAJ⟩
       case measure=>simp[intOf];omega
   ·obtain rfl:j=hs.length:=by omega
    have HE:=lh (HO.out.ends (Za HA.out))
    go_wp2_with fail
    go_ret;rw[HH.out,HE.out];exact lh ⟨_,rfl,Bn HR.out (by omega),HM.out _ hB⟩
def Bw(n:Int):Bool:=!Rr n
def Cc(L:List An):Nat→Nat
 | 0=>0
 | k+1=>Cc L k+if(cg L k).link=1 then 1 else 0
theorem Sf(L:List An)(k:Nat):Cc L k≤k:=by
 induction k with
 | zero=>exact nr
 | succ k ih=>simp only[Cc];split<;>omega
theorem AHw(L:List An)(k n:Nat)(h:k≤n):Cc L k≤Cc L n:=by
 induction n with
 | zero=>
  obtain rfl:k=0:=by omega
  exact nr
 | succ n ih=>
  rcases Nat.eq_or_lt_of_le h with e | l
  ·rw[e];exact nr
  ·have:=ih (by omega)
   simp only[Cc];omega
theorem Ry(L:List An)(k n:Nat)(h:k<n)(hl:(cg L k).link=1):Cc L k<Cc L n:=by
 have:=AHw L (k+1) n h;simp only[Cc]at this;rw[if_pos hl]at this;omega
def Fv(L:List An)(G:List Int)(k:Nat):List Int:=(List.range L.length).map fun i=>if i<k∧(cg L i).link=1 then ig G (Cc L i)+(cg L i).delay else 0
theorem Kr(L:List An)(G:List Int)(k:Nat):(Fv L G k).length=L.length:=by simp[Fv]
theorem Su(L:List An)(G:List Int)(k i:Nat)(h:i<L.length):ig (Fv L G k) i=if i<k∧(cg L i).link=1 then ig G (Cc L i)+(cg L i).delay else 0:=by
 unfold ig Fv;rw[List.getElem?_map,List.getElem?_range h]
 rfl
theorem Jw(s:List Int)(i j:Nat)(x:Int)(hi:i<s.length):ig (s.set i x) j=if i=j then x else ig s j:=by
 unfold ig;rw[List.getElem?_set]
 by_cases h:i=j
 ·rw[if_pos h,if_pos h]
  subst h;rw[if_pos hi];rfl
 ·rw[if_neg h,if_neg h]
theorem Ic(s:List Int)(i:Nat)(x:Int):(Ap s).set i (.int .i64 x)=Ap (s.set i x):=by
 have e:∀l:List Int,Ap l=l.map (Value.int .i64):=fun l=>by
  induction l with
  | nil=>rfl
  | cons x r ih=>rw[List.map_cons,←ih];rfl
 rw[e,e,List.map_set]
theorem AHv(L:List An)(G:List Int)(k:Nat)(hl:(cg L k).link≠1):Fv L G (k+1)=Fv L G k:=by
 unfold Fv;refine List.map_congr_left fun i hi=>?_
 by_cases e:i=k
 ·subst e;rw[if_neg (fun h=>hl h.2),if_neg (fun h=>hl h.2)]
 ·have:(i<k+1∧(cg L i).link=1)↔(i<k∧(cg L i).link=1):=by
   constructor<;>rintro ⟨a,b⟩<;>exact⟨by omega,b⟩
  simp only[this]
theorem ALs(L:List An)(G:List Int)(k:Nat)(hk:k<L.length)(hl:(cg L k).link=1):Fv L G (k+1)=(Fv L G k).set k (ig G (Cc L k)+(cg L k).delay):=by
 refine AFl _ _ (by simp[Fv]) fun j hj=>?_;rw[Kr]at hj;rw[Jw _ _ _ _ (by rw[Kr];exact hk),Su _ _ _ _ hj,Su _ _ _ _ hj]
 by_cases e:k=j
 ·subst e;rw[if_pos ⟨by omega,hl⟩,if_pos rfl]
 ·rw[if_neg e]
  have:(j<k+1∧(cg L j).link=1)↔(j<k∧(cg L j).link=1):=by
   constructor<;>rintro ⟨a,b⟩<;>exact⟨by omega,b⟩
  simp only[this]
theorem AGn(L:List An)(G:List Int):Ap (Fv L G 0)=List.replicate L.length (.int .i64 0):=by
 have e:∀l:List Int,Ap l=l.map (Value.int .i64):=fun l=>by
  induction l with
  | nil=>rfl
  | cons x r ih=>rw[List.map_cons,←ih];rfl
 rw[e];unfold Fv;rw[List.map_map];refine List.ext_getElem? fun i=>?_
 by_cases h:i<L.length
 ·simp[h]
 ·simp[h]

def Oq(L:List An)(N:List Int)(s:List Int)(i:Int):List Int:=
 if(cg L i.toNat).link=1 then s else s.set i.toNat (ig s (Cj L (cg L i.toNat).after).toNat+(cg L i.toNat).delay+if(cg L i.toNat).link=2 then ig N (Cj L (cg L i.toNat).after).toNat else 0)
def Fu(L:List An)(N G:List Int)(k:Nat):List Int:=((Di (Ci L)).take k).foldl (Oq L N) (Fv L G L.length)
theorem Nn(L:List An)(N G:List Int)(k:Nat)(h:k<(Di (Ci L)).length):Fu L N G (k+1)=Oq L N (Fu L N G k) (ig (Di (Ci L)) k):=by
 unfold Fu;rw[List.take_add_one,AMi h,List.foldl_append]
 rfl
theorem AKb(L:List An)(N s:List Int)(i:Int):(Oq L N s i).length=s.length:=by
 unfold Oq;split<;>simp
theorem Dv(L:List An)(N G:List Int)(k:Nat):(Fu L N G k).length=L.length:=by
 have main:∀(l s:List Int),s.length=L.length→(l.foldl (Oq L N) s).length=L.length:=by
  intro l
  induction l with
  | nil=>exact fun s h=>h
  | cons x r ih=>exact fun s h=>ih _ (by rw[AKb];exact h)
 exact main _ _ (Kr _ _ _)
def Kg(L:List An)(N G:List Int):List Int:=Fu L N G (Di (Ci L)).length
def Ca(L:List An)(A:List (ByteArray×ByteArray))(N G:List Int):List Int×Int:=
 if Da L A then(if N.length=L.length∧G.length=Cc L L.length then(if N.any Bw||G.any Bw then([],2)else if(Di (Ci L)).length<L.length then([],23)else(Kg L N G,0))else([],3))else([],1)
theorem Gx{S:List Int}(h:S.any Bw=false)(k:Nat)(hk:k<S.length):0≤ig S k∧ig S k≤2147483648:=by
 rw[List.any_eq_false]at h;have:=h (ig S k) (by rw[Ie S k hk];exact List.getElem_mem hk)
 simp[Bw,Rr]at this
 exact this

/-! ### What a linked sheet gives -/
theorem Dw{L:List An}{A:List (ByteArray×ByteArray)}(h:Da L A=true)(k:Nat)(hk:k<L.length):
  Ao (cg L k).name=true∧Cj L (cg L k).name=k∧(0≤(cg L k).delay∧(cg L k).delay≤2147483648)∧
   (((cg L k).link=1∧(cg L k).after=⟨#[]⟩)∨(((cg L k).link=2∨(cg L k).link=3)∧(cg L k).link≠1∧∃m:Nat,m<L.length∧Cj L (cg L k).after=m∧m≠k)):=by
 unfold Da at h;simp only[Bool.and_eq_true]at h;have h1:=ARc L _ h.1.2 k hk;unfold Lm at h1;simp only[Bool.and_eq_true,beq_iff_eq]at h1;obtain⟨⟨⟨h2,h3⟩,h4⟩,h5⟩:=h1;refine⟨h2,h3,by simpa[Rr]using h4,?_⟩
 by_cases l1:(cg L k).link=1
 ·rw[if_pos l1]at h5
  exact .inl ⟨l1,of_decide_eq_true h5⟩
 ·rw[if_neg l1]at h5
  by_cases l2:(cg L k).link=2∨(cg L k).link=3
  ·rw[if_pos l2]at h5
   simp only[Bool.and_eq_true,decide_eq_true_eq,Bool.not_eq_true',beq_eq_false_iff_ne,ne_eq]at h5;obtain⟨a1,_,a2⟩:=Xj L (cg L k).after h5.1;refine .inr ⟨l2,l1,_,a1,a2,fun e=>h5.2 (by rw[a2,e])⟩
  ·rw[if_neg l2]at h5;cases h5
theorem ACp{L:List An}{k:Nat}(h:(cg L k).link=1):Nz L k=-1:=by unfold Nz;rw[if_pos h]
theorem Xk{L:List An}{k:Nat}(h:(cg L k).link≠1):Nz L k=Cj L (cg L k).after:=by unfold Nz;rw[if_neg h]
theorem AAl(hs:List Int):Iu hs (Di hs)∧Hl hs (Di hs)=none:=by
 have main:∀f out,Iu hs out→hs.length-out.length=f→Iu hs (Di hs)∧Hl hs (Di hs)=none:=by
  intro f
  induction f with
  | zero=>
   intro out h hf
   cases hn:Hl hs out with
   | none=>rw[h.ends hn];exact⟨h,hn⟩
   | some k=>have:=(h.next k hn).2;omega
  | succ f ih=>
   intro out h hf
   cases hn:Hl hs out with
   | none=>rw[h.ends hn];exact⟨h,hn⟩
   | some k=>
    obtain⟨h1,h2⟩:=h.next k hn;exact ih _ h1 (by rw[List.length_append,List.length_singleton];omega)
 exact main _ [] (Iu.start hs) rfl
theorem Qx(L:List An)(k:Nat)(hk:k<(Di (Ci L)).length):∃m:Nat,m<L.length∧ig (Di (Ci L)) k=m:=by
 have h:=(AAl (Ci L)).1.inn (ig (Di (Ci L)) k) (by rw[Ie _ k hk];exact List.getElem_mem hk);rw[Kq]at h;exact⟨(ig (Di (Ci L)) k).toNat,by omega,by omega⟩
theorem AGc(L:List An):(Di (Ci L)).length≤L.length:=by
 have:=(AAl (Ci L)).1.len
 rwa [Kq]at this
def Small(s:List Int)(b:Int):Prop:=∀i,i<s.length→0≤ig s i∧ig s i≤b
theorem Jq{L:List An}{A:List (ByteArray×ByteArray)}(h:Da L A=true){G:List Int}(hG:G.any Bw=false)(hl:G.length=Cc L L.length)(k:Nat):Small (Fv L G k) 4294967296:=by
 intro i hi;rw[Kr]at hi;rw[Su _ _ _ _ hi]
 split
 ·next hh=>
  have a:=Gx hG (Cc L i) (by rw[hl];exact Ry L i _ hi hh.2);have b:=(Dw h i hi).2.2.1;omega
 ·omega
theorem Uq{L:List An}{A:List (ByteArray×ByteArray)}(h:Da L A=true){N G:List Int}(hG:G.any Bw=false)(hl:G.length=Cc L L.length)(hN:N.any Bw=false)(hlN:N.length=L.length)(k:Nat)(hk:k≤(Di (Ci L)).length):Small (Fu L N G k) (4294967296*(k+1)):=by
 induction k with
 | zero=>intro i hi;exact⟨(Jq h hG hl L.length i hi).1,by have:=(Jq h hG hl L.length i hi).2;show ig (Fv L G L.length) i≤_;omega⟩
 | succ k ih=>
  have ih':=ih (by omega);obtain⟨m,hm,e⟩:=Qx L k (by omega);intro i hi;rw[Dv]at hi;rw[Nn L N G k (by omega),e];unfold Oq;rw[Int.toNat_natCast];rcases(Dw h m hm).2.2.2 with ⟨l1,_⟩ | ⟨_,l1,f,hf,ef,_⟩
  ·rw[if_pos l1]
   have:=ih' i (by rw[Dv];exact hi);omega
  ·rw[if_neg l1,ef,Int.toNat_natCast,Jw _ _ _ _ (by rw[Dv];exact hm)]
   have hd:=(Dw h m hm).2.2.1;have a:=ih' f (by rw[Dv];exact hf);have b:=ih' i (by rw[Dv];exact hi);have c:=Gx hN f (by rw[hlN];exact hf)
   split
   ·split<;>omega
   ·omega

theorem Fa(n₀:Nat)(w:World):APs 113 #[] n₀ w Bw:=by
 intro W r hB;show Calls _ _ #[ATh r] _ _;unfold ATh
 go_enter Tryz.func113,Tryz.ntmps113
 go_wp2_with (go_at_call 114;go_fit (Gl _ _);rintro e w' ⟨rfl,rfl⟩)
 all_goals (go_ret;exact⟨rfl,br⟩)
theorem Fr(args:Array Value)(w:World):(callFunc 113 args).run Tryz.prog w=.ok (.enter 113 args) w:=enters_of Tryz.func113 (by kernel_rfl) rfl args w
theorem AAd(L:List An)(G:List Int)(n:Nat)(h:n=L.length):(madeCells (Value.int .i64 0).cells (n*1)).toList=Ap (Fv L G 0):=by
 rw[AGn,Nat.mul_one,←h]
 apply List.ext_getElem?
 intro j
 by_cases hj:j<n
 ·simp[madeCells,Value.cells,hj,Nat.mod_one]
 ·simp[madeCells,Value.cells,hj]

theorem AFv(ca pa na ga:Option Addr)(L:List An)(A:List (ByteArray×ByteArray))(N G:List Int)(cc pc nc gc:Nat)(w:World)(hlen:L.length≤1000)(hlN:N.length≤1000)(hlG:G.length≤1000)(hI:Gs w.heap.size w ca L)(hP:Hp w.heap.size w pa A)(hN:Bl w.heap.size w na N)(hG:Bl w.heap.size w ga G):
  Calls Tryz.prog 78 #[.agg #[.slice ca L.length cc,.slice pa A.length pc],.slice na N.length nc,.slice ga G.length gc] w fun e w'=>Hid (∃v,e=.returned (.tuple #[v,.int .i64 (Ca L A N G).2])∧w'.ownsRow w.heap.size 3 1 v (Ca L A N G).1.length (Ap (Ca L A N G).1)∧Below w.heap.size w w'):=by
 have hb0:Below w.heap.size w (w.alloc (.cells #[.slice ca L.length cc,.slice pa A.length pc] 29)):=Aa w _;have HI:=lh (hI.grow hb0);have HP:=lh (hP.grow hb0);have HN:=lh (hN.grow hb0);have HG:=lh (hG.grow hb0);have HX:Hid (∀wr,Below (w.alloc (.cells #[.slice ca L.length cc,.slice pa A.length pc] 29)).heap.size (w.alloc (.cells #[.slice ca L.length cc,.slice pa A.length pc] 29)) wr→Below w.heap.size w wr∧wr.cell? ⟨w.heap.size,0,none⟩=some (.slice ca L.length cc)∧wr.cell? ⟨w.heap.size,1,none⟩=some (.slice pa A.length pc)):=lh fun wr h=>⟨Dh _ h,On h⟩;have hz0:w.heap.size≤(w.alloc (.cells #[.slice ca L.length cc,.slice pa A.length pc] 29)).heap.size:=hb0.size;clear hb0 hI hP hN hG;obtain⟨i0,hi,hy1,hy2,hy3⟩:=info_parts Mi
 cases hlk:Da L A
 ·have HLK:=lh hlk
  have HP0:Hid (Ca L A N G=([],1)):=lh (by unfold Ca;rw[hlk];rfl);clear hlk
  go_enter Tryz.func78,Tryz.ntmps78
  go_wp2_with (go_at_call 112;go_fit (Xx _ _ L A _ _ _ (by omega) HI.out HP.out);rintro e w1 ⟨rfl,hb1⟩;rw[HLK.out];obtain⟨hB1,z0,z1⟩:=HX.out _ hb1)
  go_ret2
  rw[HP0.out];exact lh ⟨_,rfl,World.ownsRow_nil _ _ _ _,hB1⟩
 ·have HLK:=lh hlk
  obtain⟨hl60,hlA⟩:=Rg hlk;have HC1:Hid (Ca L A N G=if N.length=L.length∧G.length=Cc L L.length then(if N.any Bw||G.any Bw then([],2)else if(Di (Ci L)).length<L.length then([],23)else(Kg L N G,0))else([],3)):=lh (by unfold Ca;rw[hlk,if_pos rfl]);clear hlk
  go_enter Tryz.func78,Tryz.ntmps78
  go_wp2_with (go_at_call 112;go_fit (Xx _ _ L A _ _ _ (by omega) HI.out HP.out);rintro e w1 ⟨rfl,hb1⟩;rw[HLK.out];obtain⟨hB1,z0,z1⟩:=HX.out _ hb1)
  generalize (w.alloc (.cells #[.slice ca L.length cc,.slice pa A.length pc] 29))=W0 at *
  go_loopw [8,27] (fun m i wr=>∃k:Nat,k≤L.length∧i=.int .i64 k∧m=.int .i64 (Cc L k:Nat)∧Below W0.heap.size W0 wr) (fun _ i _=>L.length-(intOf i).toNat)
  case atStart=>exact⟨0,nz,rfl,rfl,hb1⟩
  case round=>
   clear hb1 hB1 z0 z1;obtain⟨k,hk,rfl,rfl,hB⟩:=hrel;obtain⟨hBw,z0,z1⟩:=HX.out _ hB;have hbz:w.heap.size<wr.heap.size:=wl z0;have hbs:=hB.size;have hmle:=Sf L k
   by_cases hlt:k<L.length
   ·obtain⟨b,off,rfl,hbl,hc⟩:=HI.out (by omega)
    obtain⟨c0,c1,c2,c3,c4,c5,c6⟩:=hc k hlt;have d0:=(ct hB c0 hbl);have d1:=(ct hB c1 hbl);have d2:=(ct hB c2 hbl);have d3:=(ct hB c3 hbl);have d4:=(ct hB c4 hbl);have d5:=(ct hB c5 hbl);have d6:=(ct hB c6 hbl);clear hc c0 c1 c2 c3 c4 c5 c6
    by_cases l1:(cg L k).link=1
    ·have m1:((cg L k).link==1)=true:=beq_iff_eq.2 l1
     have HM:Hid (Cc L (k+1)=Cc L k+1):=lh (by simp only[Cc];rw[if_pos l1]);clear l1
     go_wp2_with fail
     go_roundw
     case rel=>exact⟨k+1,by omega,by go_num,by rw[HM.out];go_num,hB.alloc hbs _⟩
     case measure=>simp[intOf];omega
    ·have m1:((cg L k).link==1)=false:=beq_eq_false_iff_ne.2 l1
     have HM:Hid (Cc L (k+1)=Cc L k):=lh (by simp only[Cc];rw[if_neg l1];rfl);clear l1
     go_wp2_with fail
     go_roundw
     case rel=>exact⟨k+1,by omega,by go_num,by rw[HM.out],hB.alloc hbs _⟩
     case measure=>simp[intOf];omega
   ·obtain rfl:k=L.length:=by omega
    clear hlt hk
    by_cases hn1:N.length=L.length
    ·have m1:((N.length:Int)!=(L.length:Int))=false:=by rw[bne_eq_false_iff_eq];omega
     by_cases hg1:G.length=Cc L L.length
     ·have m2:((G.length:Int)!=((Cc L L.length:Nat):Int))=false:=by rw[bne_eq_false_iff_eq];omega
      have HC2:=lh HC1.out;rw[if_pos ⟨hn1,hg1⟩]at HC2;have HNL:=lh hn1;have HGL:=lh hg1;clear hn1 hg1
      cases hwn:N.any Bw
      ·have HWN:=Vq N Bw _ hwn
       have HWN':=lh hwn
       cases hwg:G.any Bw
       ·have HWG:=Vq G Bw _ hwg
        have HWG':=lh hwg;have HC3:=lh HC2.out;rw[hwn,hwg,Bool.or_self,if_neg (by decide)]at HC3;have hole:=AGc L;have HORD:Hid (∀k,k<(Di (Ci L)).length→∃m:Nat,m<L.length∧ig (Di (Ci L)) k=m):=lh fun k hk=>Qx L k hk;have HSM1:Hid (∀k,Small (Fv L G k) 4294967296):=lh fun k=>Jq HLK.out HWG'.out HGL.out k;have HSM2:Hid (∀k,k≤(Di (Ci L)).length→Small (Fu L N G k) (4294967296*(k+1))):=lh fun k hk=>Uq HLK.out HWG'.out HGL.out HWN'.out HNL.out k hk;have HP2S:Hid (∀k,k<(Di (Ci L)).length→Fu L N G (k+1)=Oq L N (Fu L N G k) (ig (Di (Ci L)) k)):=lh fun k hk=>Nn L N G k hk;have HSV:Hid (Kg L N G=Fu L N G (Di (Ci L)).length):=lh rfl;obtain⟨O,HO⟩:∃O,Hid (Di (Ci L)=O):=⟨_,lh rfl⟩;rw[HO.out]at HC3 hole HORD HSM2 HP2S HSV;clear hwn hwg
        by_cases ho:O.length<L.length
        ·have HP0:Hid (Ca L A N G=([],23)):=lh (by rw[HC3.out,if_pos ho])
         go_wp2_with (first
          | (go_at_call 21;go_fit (Dd na N _ _ _ _ Bw _ Fr (by omega) nr (HN.out.grow hB) (Fa _ _));rintro e w2 ⟨rfl,hb2⟩;rw[HWN.out];have hB2:=hB.trans (hb2.mono hB.size);obtain⟨hB2',y0,y1⟩:=HX.out _ hB2)
          | (go_at_call 21;go_fit (Dd ga G _ _ _ _ Bw _ Fr (by omega) nr (HG.out.grow hB2) (Fa _ _));rintro e w3 ⟨rfl,hb3⟩;rw[HWG.out];have hB3:=hB2.trans (hb3.mono hB2.size);obtain⟨hB3',x0,x1⟩:=HX.out _ hB3)
          | (go_at_call 115;go_fit (Ty _ _ L A _ _ _ (by omega) (HI.out.grow hB3));rintro e w4 hx;obtain⟨v4,rfl,hr4,hb4⟩:=hx.out;rw[HO.out]at hr4;have hB4:=hB3.trans (hb4.mono hB3.size);obtain⟨hB4',t0,t1⟩:=HX.out _ hB4;obtain⟨oa,oc,rfl,_,_,_,hno⟩:=Be hr4;have HNO:=lh hno;clear hx hr4 hno))
         go_ret2
         rw[HP0.out];exact lh ⟨_,rfl,World.ownsRow_nil _ _ _ _,hB4'⟩
        ·have HC4:Hid (Ca L A N G=(Kg L N G,0)):=lh (by rw[HC3.out,if_neg ho])
         by_cases h0:O.length=0
         ·have g0:((O.length:Int)==0)=true:=beq_iff_eq.2 (by omega)
          have HP0:Hid (Ca L A N G=([],0)):=lh (by rw[HC4.out,HSV.out,List.eq_nil_of_length_eq_zero (show(Fu L N G O.length).length=0 by rw[Dv];omega)]);clear h0
          go_wp2_with (first
           | (go_at_call 21;go_fit (Dd na N _ _ _ _ Bw _ Fr (by omega) nr (HN.out.grow hB) (Fa _ _));rintro e w2 ⟨rfl,hb2⟩;rw[HWN.out];have hB2:=hB.trans (hb2.mono hB.size);obtain⟨hB2',y0,y1⟩:=HX.out _ hB2)
           | (go_at_call 21;go_fit (Dd ga G _ _ _ _ Bw _ Fr (by omega) nr (HG.out.grow hB2) (Fa _ _));rintro e w3 ⟨rfl,hb3⟩;rw[HWG.out];have hB3:=hB2.trans (hb3.mono hB2.size);obtain⟨hB3',x0,x1⟩:=HX.out _ hB3)
           | (go_at_call 115;go_fit (Ty _ _ L A _ _ _ (by omega) (HI.out.grow hB3));rintro e w4 hx;obtain⟨v4,rfl,hr4,hb4⟩:=hx.out;rw[HO.out]at hr4;have hB4:=hB3.trans (hb4.mono hB3.size);obtain⟨hB4',t0,t1⟩:=HX.out _ hB4;obtain⟨oa,oc,rfl,_,_,_,hno⟩:=Be hr4;have HNO:=lh hno;clear hx hr4 hno))
          go_ret2
          rw[HP0.out];exact lh ⟨_,rfl,World.ownsRow_nil _ _ _ _,hB4'⟩
         ·have g0:((O.length:Int)==0)=false:=beq_eq_false_iff_ne.2 (by omega)
          have HOL:Hid (O.length=L.length):=lh (by omega);have hpos:0<O.length:=by omega
          clear h0
          go_wp2_with (first
           | (go_at_call 21;go_fit (Dd na N _ _ _ _ Bw _ Fr (by omega) nr (HN.out.grow hB) (Fa _ _));rintro e w2 ⟨rfl,hb2⟩;rw[HWN.out];have hB2:=hB.trans (hb2.mono hB.size);obtain⟨hB2',y0,y1⟩:=HX.out _ hB2)
           | (go_at_call 21;go_fit (Dd ga G _ _ _ _ Bw _ Fr (by omega) nr (HG.out.grow hB2) (Fa _ _));rintro e w3 ⟨rfl,hb3⟩;rw[HWG.out];have hB3:=hB2.trans (hb3.mono hB2.size);obtain⟨hB3',x0,x1⟩:=HX.out _ hB3)
           | (go_at_call 115;go_fit (Ty _ _ L A _ _ _ (by omega) (HI.out.grow hB3));rintro e w4 hx;obtain⟨v4,rfl,hr4,hb4⟩:=hx.out;rw[HO.out]at hr4;have hB4:=hB3.trans (hb4.mono hB3.size);obtain⟨hB4',t0,t1⟩:=HX.out _ hB4;obtain⟨oa,oc,rfl,_,_,_,hno⟩:=Be hr4;have HNO:=lh hno;clear hx hr4 hno)
           | (at_make;refine wpList_make_full _ rfl _ _ 30 rfl w4.heap.size 3 i0 (.int .i64 0) 1 Tryz.underlying30 hi hy1 hy2 _ _ _ _ O.length rfl rfl rfl rfl (by rw[hy3];omega) (by unfold maxLen;omega) nr ?_;intro w5 hown5 hg5;have HD5:=lh (show w5.ownsRow w4.heap.size 3 1 (.slice (some ⟨w4.heap.size,0,none⟩) O.length O.length) O.length (Ap (Fv L G 0))by rw[←AAd L G O.length HOL.out];exact hown5);have f0:=hg5.cell t0 (by simp);have f1:=hg5.cell t1 (by simp);clear hown5))
          have hB45:Below w4.heap.size w4 w5:=(br).grown hg5 nr (fun k e=>by cases e);have hs4:=hB4.size;have hw45:w4.heap.size<w5.heap.size:=(HD5.out.lt _ rfl).2;have HI5:=lh ((HI.out.grow hB4).below hB45);have HG5:=lh ((HG.out.grow hB4).below hB45);have HN5:=lh ((HN.out.grow hB4).below hB45);have HO5:=lh (HNO.out.below hB45);have hw4:w.heap.size<w4.heap.size:=wl t0;have HZ0:=lh ((ct hB45 t0 hw4));have HZ1:=lh ((ct hB45 t1 hw4));have HFIN:Hid (∀wr,Below w4.heap.size w5 wr→Below w.heap.size w wr):=lh fun wr h=>(HX.out _ (hB4.trans ((hB45.trans h).mono hs4))).1;clear hB hB2 hB3 hb2 hb3 hb4 hB2' hB3' hB4' y0 y1 x0 x1 t0 t1 f0 f1 hg5 HNO HI HG HN z0 z1 hBw
          go_loopw [14,76] (fun nx i wr=>∃k:Nat,k≤L.length∧i=.int .i64 k∧nx=.int .i64 (Cc L k:Nat)∧Below w4.heap.size w5 wr∧Hid (wr.ownsRow w4.heap.size 3 1 (.slice (some ⟨w4.heap.size,0,none⟩) O.length O.length) O.length (Ap (Fv L G k)))∧w5.heap.size≤wr.heap.size) (fun _ i _=>L.length-(intOf i).toNat)
          case atStart=>exact⟨0,nz,rfl,rfl,br,HD5,nr⟩
          case round=>
           clear HD5 hbz hbs hmle;obtain⟨k,hk,rfl,rfl,hB,HR,hws⟩:=hrel;have z0:=(ct hB HZ0.out hw4);have z1:=(ct hB HZ1.out hw4);have hbz:w.heap.size<wr.heap.size:=by omega
           have hmle:=Sf L k
           by_cases hlt:k<L.length
           ·obtain⟨b,off,rfl,hbl,hc⟩:=HI5.out (by omega)
            obtain⟨c0,c1,c2,c3,c4,c5,c6⟩:=hc k hlt;have d0:=(ct hB c0 hbl);have d1:=(ct hB c1 hbl);have d2:=(ct hB c2 hbl);have d3:=(ct hB c3 hbl);have d4:=(ct hB c4 hbl);have d5:=(ct hB c5 hbl);have d6:=(ct hB c6 hbl);clear hc c0 c1 c2 c3 c4 c5 c6;have hkO:k<O.length:=by have:=HOL.out;omega
            by_cases l1:(cg L k).link=1
            ·have m1:((cg L k).link==1)=true:=beq_iff_eq.2 l1
             have HM:Hid (Cc L (k+1)=Cc L k+1):=lh (by simp only[Cc];rw[if_pos l1]);have hmg:Cc L k<G.length:=by rw[HGL.out];exact Ry L k _ hlt l1
             obtain⟨gb,go,rfl,hgl,hgc⟩:=HG5.out (by omega);have g1:=(hB.cell (p:=⟨gb,go+Cc L k,none⟩) hgl).trans (hgc _ hmg);obtain⟨q1,q2⟩:=Gx HWG'.out _ hmg;obtain⟨q3,q4⟩:=(Dw HLK.out k hlt).2.2.1;have HPP:=lh (ALs L G k hlt l1);have hgw:gb<wr.heap.size:=by omega
             have how:w4.heap.size<wr.heap.size:=by omega
             have o1:wr.cell? ⟨w4.heap.size,k,none⟩=some (.int .i64 (ig (Fv L G k) k)):=by rw[HR.out.cellAt k (by omega),Eb _ _ (by rw[Kr];exact hlt)]
             have o2:=HR.out.frozenAt k;clear hgc l1
             go_wp2_with fail
             have s1:IntKind.i64.wrap (ig G (Cc L k)+(cg L k).delay)=ig G (Cc L k)+(cg L k).delay:=IntWalk.i64_in _ (by omega)
             go_region
             go_wp2_with fail
             have HST:=lh (show(wr.setCell ⟨w4.heap.size,k,none⟩ (.int .i64 (ig G (Cc L k)+(cg L k).delay))).ownsRow w4.heap.size 3 1 (.slice (some ⟨w4.heap.size,0,none⟩) O.length O.length) O.length (Ap (Fv L G (k+1)))by rw[HPP.out,←Ic];exact(HR.out.stored k _).1);go_roundw
             case rel=>exact⟨k+1,by omega,by go_num,by rw[HM.out];go_num,((hB.setCell (show w4.heap.size≤(⟨w4.heap.size,k,none⟩:Addr).block from nr) _).alloc (by simp;omega) _).drew,lh (HST.out.alloc _).drew,by simp;omega⟩
             case measure=>simp[intOf];omega
            ·have m1:((cg L k).link==1)=false:=beq_eq_false_iff_ne.2 l1
             have HM:Hid (Cc L (k+1)=Cc L k):=lh (by simp only[Cc];rw[if_neg l1];rfl);have HPP:=lh (AHv L G k l1);clear l1
             go_wp2_with fail
             go_roundw
             case rel=>exact⟨k+1,by omega,by go_num,by rw[HM.out],hB.alloc (by omega) _,lh (by rw[HPP.out];exact HR.out.alloc _),by simp;omega⟩
             case measure=>simp[intOf];omega
           ·obtain rfl:k=L.length:=by omega
            clear hlt hk hmle
            go_wp2_with fail
            have HR0:Hid (wr.ownsRow w4.heap.size 3 1 (.slice (some ⟨w4.heap.size,0,none⟩) O.length O.length) O.length (Ap (Fu L N G 0))):=lh HR.out
            go_loopw [99] (fun i wr=>∃k:Nat,k≤O.length∧i=.int .i64 k∧Below w4.heap.size w5 wr∧Hid (wr.ownsRow w4.heap.size 3 1 (.slice (some ⟨w4.heap.size,0,none⟩) O.length O.length) O.length (Ap (Fu L N G k)))∧w5.heap.size≤wr.heap.size) (fun i _=>O.length-(intOf i).toNat)
            case atStart=>exact⟨0,nz,rfl,hB,HR0,hws⟩
            case round=>
             clear HR0 HR hB hws z0 z1 hbz;obtain⟨k,hk,rfl,hB,HR,hws⟩:=hrel;have z0:=(ct hB HZ0.out hw4);have z1:=(ct hB HZ1.out hw4);have hbz:w.heap.size<wr.heap.size:=by omega
             by_cases hlt:k<O.length
             ·obtain⟨ob,oo,rfl,hol,hoc⟩:=HO5.out (by omega)
              obtain⟨m,hm,hmo⟩:=HORD.out k hlt;have o0:=(hB.cell (p:=⟨ob,oo+k,none⟩) hol).trans (hoc k hlt);rw[hmo]at o0;have HPS:=lh (HP2S.out k hlt);rw[hmo]at HPS;obtain⟨b,off,rfl,hbl,hc⟩:=HI5.out (by omega);obtain⟨c0,c1,c2,c3,c4,c5,c6⟩:=hc m hm;have d0:=(ct hB c0 hbl);have d1:=(ct hB c1 hbl);have d2:=(ct hB c2 hbl);have d3:=(ct hB c3 hbl);have d4:=(ct hB c4 hbl);have d5:=(ct hB c5 hbl);have d6:=(ct hB c6 hbl);have hmO:m<O.length:=by rw[HOL.out];exact hm
              have HSM:=lh (HSM2.out k (by omega));have how:w4.heap.size<wr.heap.size:=by omega
              clear hc c0 c1 c2 c3 c4 c5 c6 hoc hmo;rcases(Dw HLK.out m hm).2.2.2 with ⟨l1,_⟩ | ⟨l23,l1,f,hf,hfa,hfm⟩
              ·have m1:((cg L m).link==1)=true:=beq_iff_eq.2 l1
               have HSS:Hid (Fu L N G (k+1)=Fu L N G k):=lh (by rw[HPS.out];unfold Oq;rw[Int.toNat_natCast,if_pos l1]);clear l1
               go_wp2_with fail
               go_roundw
               case rel=>exact⟨k+1,by omega,by go_num,hB.alloc (by omega) _,lh (by rw[HSS.out];exact HR.out.alloc _),by simp;omega⟩
               case measure=>simp[intOf];omega
              ·have m1:((cg L m).link==1)=false:=beq_eq_false_iff_ne.2 l1
               have HFA:=lh hfa;have hfO:f<O.length:=by rw[HOL.out];exact hf
               have hfN:f<N.length:=by rw[HNL.out];exact hf
               obtain⟨q1,q2⟩:=(Dw HLK.out m hm).2.2.1;obtain⟨q3,q4⟩:=HSM.out f (by rw[Dv];exact hf);obtain⟨q5,q6⟩:=Gx HWN'.out f hfN;obtain⟨nb,no,rfl,hnl,hnc⟩:=HN5.out (by omega);have hn5:=hnc f hfN;have HWA:=lh (Aa wr (.cells #[.string (cg L m).name,.string (cg L m).after,.int .i64 (cg L m).link,.int .i64 (cg L m).delay,.slice (cg L m).ma (cg L m).moves.length (cg L m).mc,.int .i64 (cg L m).crew,.int .i64 (cg L m).power] 86));have HSTEP:Hid (Fu L N G (k+1)=(Fu L N G k).set m (ig (Fu L N G k) f+(cg L m).delay+if(cg L m).link=2 then ig N f else 0)):=lh (by rw[HPS.out];unfold Oq;rw[Int.toNat_natCast,if_neg l1,hfa,Int.toNat_natCast]);have HHN:=lh hn5;have HFM:=lh hfm;clear hnc hn5 hfa hfm;have hl6:(Fu L N G k).length=O.length:=by rw[Dv,HOL.out]
               have HL6:=lh hl6;clear hl6;generalize Fu L N G k=s at *;rcases l23 with l2 | l3
               ·have m2:((cg L m).link==2)=true:=beq_iff_eq.2 l2
                rw[if_pos l2]at HSTEP;clear l1 l2
                go_wp2_with (go_at_call 116;go_fit (Dc _ L _ _ (cg L m).after _ (by omega) ((HI5.out.below hB).mono (by omega) |>.grow HWA.out));rintro e w6 ⟨rfl,hb6⟩;rw[HFA.out];have hB6:=HWA.out.trans (hb6.mono HWA.out.size);have x2:=(hb6.cell (p:=⟨wr.heap.size,2,none⟩) (by simp)).trans (show _=some (.int .i64 (cg L m).link)by simp);have x3:=(hb6.cell (p:=⟨wr.heap.size,3,none⟩) (by simp)).trans (show _=some (.int .i64 (cg L m).delay)by simp))
                have hs6:=hB6.size;have hs6':wr.heap.size<w6.heap.size:=wl x2;have HR6:=lh (Ac HR.out hB6);have s1:IntKind.i64.wrap (ig s f+(cg L m).delay)=ig s f+(cg L m).delay:=IntWalk.i64_in _ (by omega);have o1:w6.cell? ⟨w4.heap.size,f,none⟩=some (.int .i64 (ig s f)):=by rw[HR6.out.cellAt f (by omega),Eb _ _ (by rw[HL6.out];exact hfO)]
                have o2:w6.cell? ⟨w4.heap.size,m,none⟩=some (.int .i64 (ig s m)):=by rw[HR6.out.cellAt m (by omega),Eb _ _ (by rw[HL6.out];exact hmO)]
                have o3:=HR6.out.frozenAt m;have how6:w4.heap.size<w6.heap.size:=by omega
                go_region
                have HR7:=lh (show((w6.setCell ⟨w4.heap.size,m,none⟩ (.int .i64 (ig s f+(cg L m).delay))).drew).ownsRow w4.heap.size 3 1 (.slice (some ⟨w4.heap.size,0,none⟩) O.length O.length) O.length (Ap (s.set m (ig s f+(cg L m).delay)))by rw[←Ic];exact(HR6.out.stored m _).1.drew);have hB7:Below w4.heap.size w5 (w6.setCell ⟨w4.heap.size,m,none⟩ (.int .i64 (ig s f+(cg L m).delay))).drew:=((hB.trans (hB6.mono (by omega))).setCell (show w4.heap.size≤(⟨w4.heap.size,m,none⟩:Addr).block from nr) _).drew;have hws7:w5.heap.size≤(w6.setCell ⟨w4.heap.size,m,none⟩ (.int .i64 (ig s f+(cg L m).delay))).drew.heap.size:=by simp;omega
                have x27:(w6.setCell ⟨w4.heap.size,m,none⟩ (.int .i64 (ig s f+(cg L m).delay))).drew.cell? ⟨wr.heap.size,2,none⟩=some (.int .i64 (cg L m).link):=(World.cell?_setCell_other _ _ _ _ (by first | (simp;done) | (simp;omega))).trans x2;clear o1 o2 o3 x2 x3 s1;generalize (w6.setCell ⟨w4.heap.size,m,none⟩ (.int .i64 (ig s f+(cg L m).delay))).drew=w7 at *
                go_wp2_with fail
                have s2:IntKind.i64.wrap (ig s f+(cg L m).delay+ig N f)=ig s f+(cg L m).delay+ig N f:=IntWalk.i64_in _ (by omega);have n7:=(ct hB7 HHN.out hnl);have n8:w7.cell? ⟨w4.heap.size,m,none⟩=some (.int .i64 (ig s f+(cg L m).delay)):=by rw[HR7.out.cellAt m (by omega),Eb _ _ (by rw[List.length_set,HL6.out];exact hmO),Jw _ _ _ _ (by rw[HL6.out];exact hmO),if_pos rfl]
                have n9:=HR7.out.frozenAt m
                go_region
                go_wp2_with fail
                have HST:=lh (show(w7.setCell ⟨w4.heap.size,m,none⟩ (.int .i64 (ig s f+(cg L m).delay+ig N f))).ownsRow w4.heap.size 3 1 (.slice (some ⟨w4.heap.size,0,none⟩) O.length O.length) O.length (Ap (Fu L N G (k+1)))by rw[HSTEP.out,←List.set_set (a:=ig s f+(cg L m).delay),←Ic];exact(HR7.out.stored m _).1);go_roundw
                case rel=>exact⟨k+1,by omega,by go_num,(hB7.setCell (show w4.heap.size≤(⟨w4.heap.size,m,none⟩:Addr).block from nr) _).drew,lh HST.out.drew,by simp;omega⟩
                case measure=>simp[intOf];omega
               ·have m2:((cg L m).link==2)=false:=beq_eq_false_iff_ne.2 (by omega)
                rw[if_neg (by omega),Int.add_zero]at HSTEP;clear l1 l3
                go_wp2_with (go_at_call 116;go_fit (Dc _ L _ _ (cg L m).after _ (by omega) ((HI5.out.below hB).mono (by omega) |>.grow HWA.out));rintro e w6 ⟨rfl,hb6⟩;rw[HFA.out];have hB6:=HWA.out.trans (hb6.mono HWA.out.size);have x2:=(hb6.cell (p:=⟨wr.heap.size,2,none⟩) (by simp)).trans (show _=some (.int .i64 (cg L m).link)by simp);have x3:=(hb6.cell (p:=⟨wr.heap.size,3,none⟩) (by simp)).trans (show _=some (.int .i64 (cg L m).delay)by simp))
                have hs6:=hB6.size;have hs6':wr.heap.size<w6.heap.size:=wl x2;have HR6:=lh (Ac HR.out hB6);have s1:IntKind.i64.wrap (ig s f+(cg L m).delay)=ig s f+(cg L m).delay:=IntWalk.i64_in _ (by omega);have o1:w6.cell? ⟨w4.heap.size,f,none⟩=some (.int .i64 (ig s f)):=by rw[HR6.out.cellAt f (by omega),Eb _ _ (by rw[HL6.out];exact hfO)]
                have o2:w6.cell? ⟨w4.heap.size,m,none⟩=some (.int .i64 (ig s m)):=by rw[HR6.out.cellAt m (by omega),Eb _ _ (by rw[HL6.out];exact hmO)]
                have o3:=HR6.out.frozenAt m;have how6:w4.heap.size<w6.heap.size:=by omega
                go_region
                have HR7:=lh (show((w6.setCell ⟨w4.heap.size,m,none⟩ (.int .i64 (ig s f+(cg L m).delay))).drew).ownsRow w4.heap.size 3 1 (.slice (some ⟨w4.heap.size,0,none⟩) O.length O.length) O.length (Ap (s.set m (ig s f+(cg L m).delay)))by rw[←Ic];exact(HR6.out.stored m _).1.drew);have hB7:Below w4.heap.size w5 (w6.setCell ⟨w4.heap.size,m,none⟩ (.int .i64 (ig s f+(cg L m).delay))).drew:=((hB.trans (hB6.mono (by omega))).setCell (show w4.heap.size≤(⟨w4.heap.size,m,none⟩:Addr).block from nr) _).drew;have hws7:w5.heap.size≤(w6.setCell ⟨w4.heap.size,m,none⟩ (.int .i64 (ig s f+(cg L m).delay))).drew.heap.size:=by simp;omega
                have x27:(w6.setCell ⟨w4.heap.size,m,none⟩ (.int .i64 (ig s f+(cg L m).delay))).drew.cell? ⟨wr.heap.size,2,none⟩=some (.int .i64 (cg L m).link):=(World.cell?_setCell_other _ _ _ _ (by first | (simp;done) | (simp;omega))).trans x2;clear o1 o2 o3 x2 x3 s1;generalize (w6.setCell ⟨w4.heap.size,m,none⟩ (.int .i64 (ig s f+(cg L m).delay))).drew=w7 at *
                go_wp2_with fail
                go_roundw
                case rel=>exact⟨k+1,by omega,by go_num,hB7,lh (by rw[HSTEP.out];exact HR7.out),hws7⟩
                case measure=>simp[intOf];omega
             ·obtain rfl:k=O.length:=by omega
              go_wp2_with fail
              go_ret2
              rw[HC4.out,HSV.out];exact lh ⟨_,rfl,by rw[Dv,←HOL.out];exact Bn HR.out (by omega),HFIN.out _ hB⟩
       ·have HWG:=Vq G Bw _ hwg
        have HP0:Hid (Ca L A N G=([],2)):=lh (by rw[HC2.out,hwn,hwg];rfl);clear hwn hwg
        go_wp2_with (first
         | (go_at_call 21;go_fit (Dd na N _ _ _ _ Bw _ Fr (by omega) nr (HN.out.grow hB) (Fa _ _));rintro e w2 ⟨rfl,hb2⟩;rw[HWN.out];have hB2:=hB.trans (hb2.mono hB.size);obtain⟨hB2',y0,y1⟩:=HX.out _ hB2)
         | (go_at_call 21;go_fit (Dd ga G _ _ _ _ Bw _ Fr (by omega) nr (HG.out.grow hB2) (Fa _ _));rintro e w3 ⟨rfl,hb3⟩;rw[HWG.out];have hB3:=hB2.trans (hb3.mono hB2.size);obtain⟨hB3',x0,x1⟩:=HX.out _ hB3))
        go_ret2
        rw[HP0.out];exact lh ⟨_,rfl,World.ownsRow_nil _ _ _ _,hB3'⟩
      ·have HWN:=Vq N Bw _ hwn
       have HP0:Hid (Ca L A N G=([],2)):=lh (by rw[HC2.out,hwn];rfl);clear hwn
       go_wp2_with (first
        | (go_at_call 21;go_fit (Dd na N _ _ _ _ Bw _ Fr (by omega) nr (HN.out.grow hB) (Fa _ _));rintro e w2 ⟨rfl,hb2⟩;rw[HWN.out];have hB2:=hB.trans (hb2.mono hB.size);obtain⟨hB2',y0,y1⟩:=HX.out _ hB2))
       go_ret2
       rw[HP0.out];exact lh ⟨_,rfl,World.ownsRow_nil _ _ _ _,hB2'⟩
     ·have m2:((G.length:Int)!=((Cc L L.length:Nat):Int))=true:=bne_iff_ne.2 (by omega)
      have HP0:Hid (Ca L A N G=([],3)):=lh (by rw[HC1.out,if_neg (fun h=>hg1 h.2)]);clear hn1 hg1
      go_wp2_with fail
      go_ret2
      rw[HP0.out];exact lh ⟨_,rfl,World.ownsRow_nil _ _ _ _,hBw⟩
    ·have m1:((N.length:Int)!=(L.length:Int))=true:=bne_iff_ne.2 (by omega)
     have HP0:Hid (Ca L A N G=([],3)):=lh (by rw[HC1.out,if_neg (fun h=>hn1 h.1)]);clear hn1
     go_wp2_with fail
     go_ret2
     rw[HP0.out];exact lh ⟨_,rfl,World.ownsRow_nil _ _ _ _,hBw⟩
end
section
open Go.RowKit Go.Shelf
attribute [local go_sem] Oper.semAt_some
def PC(w:World)(B:Nat)(a b c:Value):Prop:=w.cell? ⟨B,0,none⟩=some a∧w.cell? ⟨B,1,none⟩=some b∧w.cell? ⟨B,2,none⟩=some c∧w.frozen? ⟨B,0,none⟩=false∧w.frozen? ⟨B,1,none⟩=false∧w.frozen? ⟨B,2,none⟩=false∧B<w.heap.size
theorem PC.carry{W w:World}{B:Nat}{a b c:Value}(f:PC W B a b c)(h:Below W.heap.size W w):PC w B a b c:=by
 obtain⟨f0,f1,f2,f3,f4,f5,f6⟩:=f;exact⟨ct h f0 f6,ct h f1 f6,ct h f2 f6,(h.frozen (p:=⟨B,0,none⟩) f6).trans f3,(h.frozen (p:=⟨B,1,none⟩) f6).trans f4,(h.frozen (p:=⟨B,2,none⟩) f6).trans f5,Nat.lt_of_lt_of_le f6 h.size⟩
theorem PC.grown{W w:World}{B:Nat}{a b c:Value}{row:Option Nat}(f:PC W B a b c)(h:W.grownBy w row)(hne:some B≠row):PC w B a b c:=by
 obtain⟨f0,f1,f2,f3,f4,f5,f6⟩:=f;exact⟨(h.cell_far ⟨B,0,none⟩ f6 hne).trans f0,(h.cell_far ⟨B,1,none⟩ f6 hne).trans f1,(h.cell_far ⟨B,2,none⟩ f6 hne).trans f2,(h.frozen_far ⟨B,0,none⟩ f6 hne).trans f3,(h.frozen_far ⟨B,1,none⟩ f6 hne).trans f4,(h.frozen_far ⟨B,2,none⟩ f6 hne).trans f5,Nat.lt_of_lt_of_le f6 h.size⟩
theorem Na{B i j:Nat}(h:i≠j):(⟨B,i,none⟩:Addr)≠⟨B,j,none⟩:=fun e=>h (congrArg Addr.off e)
theorem PC.set2{w:World}{B:Nat}{a b c:Value}(f:PC w B a b c)(v:Value):PC (w.setCell ⟨B,2,none⟩ v) B a b v:=by
 obtain⟨f0,f1,f2,f3,f4,f5,f6⟩:=f;exact⟨(World.cell?_setCell_other _ _ _ _ (Na (by decide))).trans f0,(World.cell?_setCell_other _ _ _ _ (Na (by decide))).trans f1,World.cell?_setCell_same _ _ _ f2,by simpa using f3,by simpa using f4,by simpa using f5,by simpa using f6⟩
theorem PC.set1{w:World}{B:Nat}{a b c:Value}(f:PC w B a b c)(v:Value):PC (w.setCell ⟨B,1,none⟩ v) B a v c:=by
 obtain⟨f0,f1,f2,f3,f4,f5,f6⟩:=f;exact⟨(World.cell?_setCell_other _ _ _ _ (Na (by decide))).trans f0,World.cell?_setCell_same _ _ _ f1,(World.cell?_setCell_other _ _ _ _ (Na (by decide))).trans f2,by simpa using f3,by simpa using f4,by simpa using f5,by simpa using f6⟩
theorem PC.set0{w:World}{B:Nat}{a b c:Value}(f:PC w B a b c)(v:Value):PC (w.setCell ⟨B,0,none⟩ v) B v b c:=by
 obtain⟨f0,f1,f2,f3,f4,f5,f6⟩:=f;exact⟨World.cell?_setCell_same _ _ _ f0,(World.cell?_setCell_other _ _ _ _ (Na (by decide))).trans f1,(World.cell?_setCell_other _ _ _ _ (Na (by decide))).trans f2,by simpa using f3,by simpa using f4,by simpa using f5,by simpa using f6⟩
theorem PC.put(w:World)(a b c:Value)(t:TypeId):PC (w.alloc (.cells #[a,b,c] t)) w.heap.size a b c:=⟨by simp,by simp,by simp,by simp,by simp,by simp,by simp⟩
theorem PC.other{w:World}{B C:Nat}{a b c:Value}(f:PC w B a b c)(hne:B≠C)(o:Nat)(v:Value):PC (w.setCell ⟨C,o,none⟩ v) B a b c:=by
 obtain⟨f0,f1,f2,f3,f4,f5,f6⟩:=f;have ne:∀k,(⟨C,o,none⟩:Addr)≠⟨B,k,none⟩:=fun k e=>hne (congrArg Addr.block e).symm;exact⟨(World.cell?_setCell_other _ _ _ _ (ne 0)).trans f0,(World.cell?_setCell_other _ _ _ _ (ne 1)).trans f1,(World.cell?_setCell_other _ _ _ _ (ne 2)).trans f2,by simpa using f3,by simpa using f4,by simpa using f5,by simpa using f6⟩
def AUf(n₁:Nat)(w1:World)(a b v:Value)(k:Nat)(X:List Value)(L:Int×Int)(v13 v14:Value)(wx:World):Prop:=
 ∃B13:Nat,v13=.pointer (some ⟨B13,0,none⟩)∧v14=.int .i64 0∧Below n₁ w1 wx∧n₁+1≤wx.heap.size∧n₁+1≤B13∧Hid (FI wx B13 L.1 L.2∧PC wx n₁ a b v∧wx.ownsRow (n₁+1) 3 1 v k X∧v.ownBlock≠some B13)
section
variable {n₁ k:Nat} {w1 W3 y1:World} {a b v:Value} {X:List Value}
theorem Ge{w:World}{base B o:Nat}(h:w.ownsRow base 3 1 v k X)(_:B<w.heap.size)(hne:v.ownBlock≠some B)(u:Value):(w.setCell ⟨B,o,none⟩ u).ownsRow base 3 1 v k X:=by
 refine⟨h.1,?_⟩;rcases h.2 with hn | ⟨g,cap,cur,rfl,hb,hg,rest⟩
 ·exact .inl hn
 ·have ne:B≠g:=fun e=>hne (by subst e;rfl)
  have e:(w.setCell ⟨B,o,none⟩ u).heap[g]? =w.heap[g]?:=by
   unfold World.setCell
   dsimp only
   rw[Array.getElem?_modify]
   simp[ne]
  exact .inr ⟨g,cap,cur,rfl,hb,e.trans hg,rest⟩
theorem ANt{B13:Nat}{x y:Int}(L:Int×Int)(hB:Below n₁ w1 y1)(hs:n₁+1≤y1.heap.size)(hP:PC y1 n₁ a b v)(hO:y1.ownsRow (n₁+1) 3 1 v k X)(hb:n₁+1≤B13)(hv:v.ownBlock≠some B13)(hf:FI y1 B13 x y):
  AUf n₁ w1 a b v k X L (.pointer (some ⟨B13,0,none⟩)) (.int .i64 0) ((y1.setCell ⟨B13,0,none⟩ (.int .i64 L.1)).setCell ⟨B13,1,none⟩ (.int .i64 L.2)):=by
 refine⟨B13,rfl,rfl,((hB.setCell (show n₁≤(⟨B13,0,none⟩:Addr).block from by show n₁≤B13;omega) _).setCell (show n₁≤(⟨B13,1,none⟩:Addr).block from by show n₁≤B13;omega) _),by simp;omega,hb,lh ⟨hf.set _ _,?_,?_,hv⟩⟩
 ·exact(hP.other (by omega) _ _).other (by omega) _ _
 ·exact Ge (Ge hO hf.2.2.2.2 hv _) (by simpa using hf.2.2.2.2) hv _
structure Fp(n₁:Nat)(w1:World)(B:Nat)(q:An)(w:World):Prop where
 old:Below n₁ w1 w
 lo:n₁+1≤w.heap.size
 cu:Cx w B q
theorem Fp.next{B:Nat}{q:An}{w w':World}(h:Fp n₁ w1 B q w)(hb:Below w.heap.size w w'):Fp n₁ w1 B q w':=⟨h.old.trans (hb.mono (by have:=h.lo;omega)),nt h.lo hb.size,h.cu.carry hb⟩
theorem AEa{w:World}{B g o:Nat}{q:An}(h:Cx w B q)(hg:B≠g)(v:Value):Cx (w.setCell ⟨g,o,none⟩ v) B q:=by
 have ne:∀k,(⟨g,o,none⟩:Addr)≠⟨B,k,none⟩:=fun k e=>hg (congrArg Addr.block e).symm;obtain⟨a0,a1,a2,a3,a4,a5,a6⟩:=h;exact⟨(World.cell?_setCell_other _ _ _ _ (ne 0)).trans a0,(World.cell?_setCell_other _ _ _ _ (ne 1)).trans a1,(World.cell?_setCell_other _ _ _ _ (ne 2)).trans a2,(World.cell?_setCell_other _ _ _ _ (ne 3)).trans a3,(World.cell?_setCell_other _ _ _ _ (ne 4)).trans a4,(World.cell?_setCell_other _ _ _ _ (ne 5)).trans a5,(World.cell?_setCell_other _ _ _ _ (ne 6)).trans a6⟩
theorem Fp.put{B g o:Nat}{q:An}{w:World}(h:Fp n₁ w1 B q w)(hg:B≠g)(hl:n₁+1≤g)(v:Value):Fp n₁ w1 B q (w.setCell ⟨g,o,none⟩ v):=⟨h.old.setCell (show n₁≤(⟨g,o,none⟩:Addr).block from by show n₁≤g;omega) _,by simp;exact h.lo,AEa h.cu hg v⟩
structure Uu(n₁:Nat)(w1:World)(w:World):Prop where
 old:Below n₁ w1 w
 lo:n₁+1≤w.heap.size
theorem Uu.next{w w':World}(h:Uu n₁ w1 w)(hb:Below w.heap.size w w'):Uu n₁ w1 w':=⟨h.old.trans (hb.mono (by have:=h.lo;omega)),nt h.lo hb.size⟩
theorem Uu.put{g o:Nat}{w:World}(h:Uu n₁ w1 w)(hl:n₁+1≤g)(v:Value):Uu n₁ w1 (w.setCell ⟨g,o,none⟩ v):=⟨h.old.setCell (show n₁≤(⟨g,o,none⟩:Addr).block from by show n₁≤g;omega) _,by simp;exact h.lo⟩
theorem AEl{w:World}{base B:Nat}{a b c:Value}{x y z:Value}{v:Value}{k:Nat}{X:List Value}(h:w.ownsRow base 3 1 v k X)(f:PC w B a b c)(hne:v.ownBlock≠some B):(((w.setCell ⟨B,0,none⟩ x).setCell ⟨B,1,none⟩ y).setCell ⟨B,2,none⟩ z).ownsRow base 3 1 v k X:=
 Ge (Ge (Ge h f.2.2.2.2.2.2 hne _) (f.set0 _).2.2.2.2.2.2 hne _) ((f.set0 _).set1 _).2.2.2.2.2.2 hne _
theorem Cm(w:World):Below w.heap.size w w.drew:=(br).drew
end
theorem ARh(h:Ae)(s:Aq)(ga:Option Addr)(G:List Int)(gc:Nat)(w:World)(hh:Ax w h)(hs:Bg w s)(hG:Bl w.heap.size w ga G)(hv:Fd h s=false):
  Calls Tryz.prog 44 #[.agg #[.string h.name,.int .i64 h.height,.slice h.sa h.sets.length h.sc,.slice h.ra h.roofs.length h.rc],.agg #[.slice s.ca s.cues.length s.cc,.slice s.pa s.pairs.length s.pc],.slice ga G.length gc] w fun e w'=>e=.returned (.tuple #[.agg #[.slice none 0 0,.slice none 0 0,.slice none 0 0],.int .i64 1])∧Below w.heap.size w w':=by
 have hb0:Below w.heap.size w ((Fo w h s).alloc (.cells #[.slice none 0 0,.slice none 0 0,.slice none 0 0] 109)):=((Aa w _).alloc (by simp) _).alloc (by simp;omega) _
 have HX:Hid (∀w',Below ((Fo w h s).alloc (.cells #[.slice none 0 0,.slice none 0 0,.slice none 0 0] 109)).heap.size ((Fo w h s).alloc (.cells #[.slice none 0 0,.slice none 0 0,.slice none 0 0] 109)) w'→Au w' w.heap.size h∧Bo w' (w.heap.size+1) s∧Ax w' h∧Bg w' s∧Bl w'.heap.size w' ga G):=lh fun w' z=>
  ⟨(((Au.new w h _).carry (Aa _ _)).carry (Aa _ _)).carry z,((show Bo (Fo w h s) (w.heap.size+1) s by unfold Bo;simp).carry (Aa _ _)).carry z,(hh.grow hb0).grow z,(hs.grow hb0).grow z,(hG.grow hb0).grow z⟩
 have HW:Hid (∀w',Below ((Fo w h s).alloc (.cells #[.slice none 0 0,.slice none 0 0,.slice none 0 0] 109)).heap.size ((Fo w h s).alloc (.cells #[.slice none 0 0,.slice none 0 0,.slice none 0 0] 109)) w'→Below w.heap.size w w'):=lh fun w' z=>hb0.trans (z.mono hb0.size);have HV:=lh hv;clear hh hs hG hb0 hv
 go_enter Tryz.func44,Tryz.ntmps44
 go_upto_region 1 with (fail)
 have hN6:PC ((Fo w h s).alloc (.cells #[.slice none 0 0,.slice none 0 0,.slice none 0 0] 109)) (w.heap.size+1+1) (.slice none 0 0) (.slice none 0 0) (.slice none 0 0):=by
  have e:=PC.put (Fo w h s) (.slice none 0 0) (.slice none 0 0) (.slice none 0 0) 109;rw[show(Fo w h s).heap.size=w.heap.size+1+1 by simp]at e;exact e
 obtain⟨W0,hW0⟩:=nm (((Fo w h s).alloc (.cells #[.slice none 0 0,.slice none 0 0,.slice none 0 0] 109)):World);simp only[hW0]at HX HW hN6⊢;clear hW0;obtain⟨B1,hB1⟩:=nm (w.heap.size);obtain⟨B2,hB2⟩:=nm (w.heap.size+1);obtain⟨B3,hB3⟩:=nm (w.heap.size+1+1);rw[hB3]at hN6⊢;rw[hB2]at HX⊢;rw[hB1]at HX⊢;have HB3:Hid (w.heap.size≤B3):=lh (by omega);clear hB1 hB2 hB3;obtain⟨⟨a0,a1,a2,a3⟩,⟨s0,s1⟩,-,-,-⟩:=HX.out _ br;have HTR:=lh (AMy h s _ (HX.out _ br).2.2.1 (HX.out _ br).2.2.2.1 HV.out);have HN:=lh hN6;clear hN6
 go_wp2_with (go_at_call 19;go_fit HTR.out;rintro e w1 ⟨rfl,hb1⟩;obtain⟨n0,n1,n2,n3,n4,n5,n6⟩:=HN.out.carry hb1)
 have r2:=(((HN.out.carry hb1).set0 (.slice none 0 0)).set1 (.slice none 0 0)).set2 (.slice none 0 0);refine bodyPost_ret (v:=.tuple #[.agg #[.slice none 0 0,.slice none 0 0,.slice none 0 0],.int .i64 1]) (by simp[results,Tryz.results44,go_sem,r2.1,r2.2.1,r2.2.2.1]) rfl ⟨rfl,?_⟩;exact(((HW.out _ hb1).setCell (show w.heap.size≤(⟨B3,0,none⟩:Addr).block from HB3.out) _).setCell (show w.heap.size≤(⟨B3,1,none⟩:Addr).block from HB3.out) _).setCell (show w.heap.size≤(⟨B3,2,none⟩:Addr).block from HB3.out) _
theorem Wm{w:World}{B j:Nat}{p:Addr}{v:Value}(h:w.cell? ⟨B,j,none⟩=some (.slice none 0 0))(hp:w.cell? p=some v)(hv:v≠.slice none 0 0)(x:Value):(w.setCell ⟨B,j,none⟩ x).cell? p=some v:=
 (World.cell?_setCell_other _ _ _ _ (fun e=>hv (by rw[e]at h;rw[h]at hp;cases hp;rfl))).trans hp
theorem ALf{w:World}{B:Nat}{a:Option Addr}{h:Ae}{C:List An}{P:List Ew}(t:Fi w a h C P)(hs:0<h.sets.length)(f:PC w B (.slice none 0 0) (.slice none 0 0) (.slice none 0 0))(x y z:Value):Fi (((w.setCell ⟨B,0,none⟩ x).setCell ⟨B,1,none⟩ y).setCell ⟨B,2,none⟩ z) a h C P:=by
 have keep:∀(p:Addr) (v:Value),w.cell? p=some v→v≠.slice none 0 0→(((w.setCell ⟨B,0,none⟩ x).setCell ⟨B,1,none⟩ y).setCell ⟨B,2,none⟩ z).cell? p=some v:=fun p v hp hv=>by
  have a1:(w.setCell ⟨B,0,none⟩ x).cell? ⟨B,1,none⟩=some (.slice none 0 0):=(World.cell?_setCell_other _ _ _ _ (Na (by decide))).trans f.2.1;have a2:((w.setCell ⟨B,0,none⟩ x).setCell ⟨B,1,none⟩ y).cell? ⟨B,2,none⟩=some (.slice none 0 0):=(World.cell?_setCell_other _ _ _ _ (Na (by decide))).trans ((World.cell?_setCell_other _ _ _ _ (Na (by decide))).trans f.2.2.1);exact Wm a2 (Wm a1 (Wm f.1 hp hv x) hv y) hv z
 have hl:∀i,i<P.length→(lg P i).xs.length=h.sets.length:=fun i hi=>by rw[t.rows.eq i (by have:=t.rows.len;omega),Me]
 refine⟨t.rows,fun hp=>?_,fun i hi hp=>?_,t.none⟩
 ·obtain⟨b,off,rfl,hlt,hc⟩:=t.lies hp
  exact⟨b,off,rfl,by simpa[World.setCell]using hlt,fun i hi=>keep _ _ (hc i hi) (fun e=>by injection e with _ e2 _;have:=hl i hi;omega)⟩
 ·obtain⟨b,off,e,hlt,hc⟩:=t.each i hi hp
  exact⟨b,off,e,by simpa[World.setCell]using hlt,fun j hj=>keep _ _ (hc j hj) (fun e=>by cases e)⟩
theorem ACf(h:Ae)(s:Aq)(ga:Option Addr)(G:List Int)(gc:Nat)(w:World)(hh:Ax w h)(hs:Bg w s)(hG:Bl w.heap.size w ga G)(hgl:G.length≤1000)(hv:Fd h s=true):
  Calls Tryz.prog 44 #[.agg #[.string h.name,.int .i64 h.height,.slice h.sa h.sets.length h.sc,.slice h.ra h.roofs.length h.rc],.agg #[.slice s.ca s.cues.length s.cc,.slice s.pa s.pairs.length s.pc],.slice ga G.length gc] w fun e w'=>Hid (∃ta tc na nc sv,e=.returned (.tuple #[.agg #[.slice ta (s.cues.length+1) tc,sv,.slice na s.cues.length nc],.int .i64 (Ca s.cues s.pairs (Dp h s.cues s.cues.length) G).2])∧Bl w'.heap.size w' na (Dp h s.cues s.cues.length)∧w'.ownsRow w.heap.size 3 1 sv (Ca s.cues s.pairs (Dp h s.cues s.cues.length) G).1.length (Ap (Ca s.cues s.pairs (Dp h s.cues s.cues.length) G).1)∧(0<h.sets.length→∃P,Fi w' ta h s.cues P))∧Below w.heap.size w w':=by
 have hb0:Below w.heap.size w ((Fo w h s).alloc (.cells #[.slice none 0 0,.slice none 0 0,.slice none 0 0] 109)):=((Aa w _).alloc (by simp) _).alloc (by simp;omega) _
 have HX:Hid (∀w',Below ((Fo w h s).alloc (.cells #[.slice none 0 0,.slice none 0 0,.slice none 0 0] 109)).heap.size ((Fo w h s).alloc (.cells #[.slice none 0 0,.slice none 0 0,.slice none 0 0] 109)) w'→Au w' w.heap.size h∧Bo w' (w.heap.size+1) s∧Ax w' h∧Bg w' s∧Bl w'.heap.size w' ga G):=lh fun w' z=>
  ⟨(((Au.new w h _).carry (Aa _ _)).carry (Aa _ _)).carry z,((show Bo (Fo w h s) (w.heap.size+1) s by unfold Bo;simp).carry (Aa _ _)).carry z,(hh.grow hb0).grow z,(hs.grow hb0).grow z,(hG.grow hb0).grow z⟩
 have HW:Hid (∀w',Below ((Fo w h s).alloc (.cells #[.slice none 0 0,.slice none 0 0,.slice none 0 0] 109)).heap.size ((Fo w h s).alloc (.cells #[.slice none 0 0,.slice none 0 0,.slice none 0 0] 109)) w'→Below w.heap.size w w'):=lh fun w' z=>hb0.trans (z.mono hb0.size);have HV:=lh hv;have hsl:=hh.slen;have hcl:=hs.clen;have HML:=lh hs.mlen;have HMC:=lh hs.mcap;have HOK:=lh (Em.1 hv);clear hh hs hG hb0 hv
 go_enter Tryz.func44,Tryz.ntmps44
 go_upto_region 1 with (fail)
 have hN6:PC ((Fo w h s).alloc (.cells #[.slice none 0 0,.slice none 0 0,.slice none 0 0] 109)) (w.heap.size+1+1) (.slice none 0 0) (.slice none 0 0) (.slice none 0 0):=by
  have e:=PC.put (Fo w h s) (.slice none 0 0) (.slice none 0 0) (.slice none 0 0) 109;rw[show(Fo w h s).heap.size=w.heap.size+1+1 by simp]at e;exact e
 obtain⟨W0,hW0⟩:=nm (((Fo w h s).alloc (.cells #[.slice none 0 0,.slice none 0 0,.slice none 0 0] 109)):World);simp only[hW0]at HX HW hN6⊢;clear hW0;obtain⟨B1,hB1⟩:=nm (w.heap.size);obtain⟨B2,hB2⟩:=nm (w.heap.size+1);obtain⟨B3,hB3⟩:=nm (w.heap.size+1+1);rw[hB3]at hN6⊢;rw[hB2]at HX⊢;rw[hB1]at HX⊢;have HB3:Hid (w.heap.size≤B3):=lh (by omega);clear hB1 hB2 hB3;obtain⟨⟨a0,a1,a2,a3⟩,⟨s0,s1⟩,-,-,-⟩:=HX.out _ br;have HTR:=lh (AJw h s _ (HX.out _ br).2.2.1 (HX.out _ br).2.2.2.1 HV.out);have HN:=lh hN6;clear hN6;obtain⟨ca,hca⟩:=nm (s.ca);have HCA:=lh hca;rw[hca]at s0 HTR⊢
 go_upto_region 4 with (go_at_call 19;go_fit HTR.out;rintro e w1 ⟨hx1,hb1⟩;obtain⟨ta,tc,P,rfl,ht1⟩:=hx1.out;have HT1:=lh ht1;clear hx1 ht1)
 have hsz0:=hb1.size;obtain⟨n₁,hn1⟩:=nm (w1.heap.size)
 have HXX:Hid (∀w',Below n₁ w1 w'→Au w' B1 h∧Bo w' B2 s∧Ax w' h∧Bg w' s∧Bl w'.heap.size w' ga G∧Fi w' ta h s.cues P):=lh fun w' z=>by
  rw[←hn1]at z;have y:=hb1.trans (z.mono hsz0);obtain⟨x1,x2,x3,x4,x5⟩:=HX.out w' y;exact⟨x1,x2,x3,x4,x5,HT1.out.grow z⟩
 have HWW:Hid (∀w',Below n₁ w1 w'→Below w.heap.size w w'):=lh fun w' z=>by rw[←hn1]at z;exact HW.out w' (hb1.trans (z.mono hsz0))
 have HNN:Hid (∀w',Below n₁ w1 w'→PC w' B3 (.slice none 0 0) (.slice none 0 0) (.slice none 0 0)):=lh fun w' z=>by rw[←hn1]at z;exact HN.out.carry (hb1.trans (z.mono hsz0))
 have HWN:Hid (w.heap.size≤n₁):=lh (by have:=(HW.out _ hb1).size;omega);have HB3n:Hid (B3<n₁):=lh (by have:=(HNN.out w1 (by rw[←hn1];exact br)).2.2.2.2.2.2;omega);have hB1:Below n₁ w1 w1:=by rw[←hn1];exact br
 obtain⟨-,⟨t0,t1⟩,-,-,-,-⟩:=HXX.out _ hB1;rw[HCA.out]at t0;clear a0 a1 a2 a3 s0 s1 HX HW HN HTR hb1 hsz0 HT1 hca;have hb2l:B2<w1.heap.size:=wl t0;have HN1:=lh hn1;clear hn1
 go_upto_region 6 with (fail)
 have hn1:=HN1.out;clear HN1;have hB2:=hB1.alloc (by omega) (.cells #[.slice ta (s.cues.length+1) tc,.slice none 0 0,.slice none 0 0] 109);have hP2:=PC.put w1 (.slice ta (s.cues.length+1) tc) (.slice none 0 0) (.slice none 0 0) 109;have hn2:n₁+1≤(w1.alloc (.cells #[.slice ta (s.cues.length+1) tc,.slice none 0 0,.slice none 0 0] 109)).heap.size:=by simp;omega
 generalize w1.alloc (.cells #[.slice ta (s.cues.length+1) tc,.slice none 0 0,.slice none 0 0] 109)=W2 at *;rw[hn1]at hP2⊢;clear hB1 hb2l t0 t1 hn1
 go_loopw [11,12,13,14,15,31] (fun _ _ _ _ _ iv wr=>∃(k:Nat) (v:Value),iv=.int .i64 k∧k≤s.cues.length∧Below n₁ w1 wr∧n₁+1≤wr.heap.size∧Hid (PC wr n₁ (.slice ta (s.cues.length+1) tc) (.slice none 0 0) v∧wr.ownsRow (n₁+1) 3 1 v k (Ap (Dp h s.cues k)))) (fun _ _ _ _ _ iv _=>s.cues.length-(intOf iv).toNat)
 case atStart=>exact⟨0,_,rfl,nz,hB2,hn2,lh ⟨hP2,World.ownsRow_nil _ _ _ _⟩⟩
 case round=>
  clear hB2 hP2 hn2;obtain⟨k,v,rfl,hk,hB,hnw,HR⟩:=hrel
  by_cases hlt:k<s.cues.length
  ·obtain⟨⟨a0,a1,a2,a3⟩,-,hhi,hsi,-,hti⟩:=HXX.out _ hB
   obtain⟨b,off,ha,hb,hc⟩:=hsi.lies (by omega);rw[HCA.out]at ha;subst ha;obtain⟨d0,d1,d2,d3,d4,d5,d6⟩:=hc k hlt;obtain⟨tb,tf,hta,htb,htx⟩:=hti.lies (by have:=hti.rows.len;omega);subst hta;have hkP:k<P.length:=by have:=hti.rows.len;omega
   have HTK:=lh (hti.rows.eq k hk);have e0:=htx k hkP;obtain⟨q,hq⟩:=nm (cg s.cues k);have HQ:=lh hq;obtain⟨y,hy⟩:=nm (lg P k);have HY:=lh hy;rw[hy]at HTK e0;rw[hq]at d0 d1 d2 d3 d4 d5 d6;have hRG:=(HOK.out.each k hlt).1;rw[hq]at hRG;have HRG:=lh (Ef.2 hRG);have HTO:Hid (Ka h y.xs):=lh (by rw[HTK.out];exact Ro HOK.out.house (fun j hj=>(HOK.out.each j hj).1) k hk);have HLO:Hid (Ux (Gk h y.xs q.moves)):=lh (by have:=Wf HOK.out.house HTO.out hRG.2 q.moves.length nr;rw[List.take_length]at this;exact this);have HSN:Hid (Dp h s.cues (k+1)=Dp h s.cues k++[msF (Gk h y.xs q.moves)]):=lh (by rw[Xz,HTK.out,HQ.out]);clear hhi hsi hti hc htx hq hy hRG
   have HLEN:Hid (∀w',Below n₁ w1 w'→Calls Tryz.prog 74 #[.agg #[.string h.name,.int .i64 h.height,.slice h.sa h.sets.length h.sc,.slice h.ra h.roofs.length h.rc],.slice y.a y.xs.length y.c,.agg #[.string q.name,.string q.after,.int .i64 q.link,.int .i64 q.delay,.slice q.ma q.moves.length q.mc,.int .i64 q.crew,.int .i64 q.power]] w' fun e w2=>e=.returned (.tuple #[.agg #[.int .i64 (Gk h y.xs q.moves).1,.int .i64 (Gk h y.xs q.moves).2],.int .i64 0])∧Below w'.heap.size w' w2):=lh fun w' z=>by
    obtain⟨-,-,z3,z4,-,z6⟩:=HXX.out w' z;have m1:=z4.each k hlt;have m2:=z6.each k hkP;have m3:=HML.out k hlt;have m4:=HMC.out k hlt;rw[HQ.out]at m1 m3 m4;rw[HY.out]at m2;exact ANd h q y.a y.xs y.c w' z3 m1 m3 m4 m2 HOK.out.house HRG.out HTO.out
   obtain⟨L,hL⟩:=nm (Gk h y.xs q.moves);rw[hL]at HLEN HLO HSN;clear hL;have hB3:=hB.alloc (by omega) (Eu q);have hbn:=Aa wr (Eu q);have HC3:=Cx.new wr q 86 _ rfl;have HR3:Hid (PC (wr.alloc (Eu q)) n₁ (.slice (some ⟨tb,tf,none⟩) (s.cues.length+1) tc) (.slice none 0 0) v∧(wr.alloc (Eu q)).ownsRow (n₁+1) 3 1 v k (Ap (Dp h s.cues k))):=lh ⟨HR.out.1.carry hbn,Ac HR.out.2 hbn⟩;have hn3:n₁+1≤(wr.alloc (Eu q)).heap.size:=by simp;omega
   have e0':(wr.alloc (Eu q)).cell? ⟨tb,tf+k,none⟩=some (.slice y.a y.xs.length y.c):=(ct hbn e0 htb);have htb':tb<(wr.alloc (Eu q)).heap.size:=by simp;omega
   go_upto_region 8 with (fail)
   clear d0 d1 d2 d3 d4 d5 d6 a0 a1 a2 a3 HR hbn hB hnw e0 htb hb;generalize wr.alloc (Eu q)=W3 at *;obtain⟨B12,hB12⟩:=nm (wr.heap.size);rw[hB12]at HC3⊢;clear hB12;have hkk:(k:Int)<(s.cues.length:Int)+1:=by omega
   have HHQ:Fp n₁ w1 B12 q W3:=⟨hB3,hn3,HC3⟩;have HPd:=lh (HR3.out.1.carry (Cm W3));have HOd:=lh (Ac HR3.out.2 (Cm W3));clear HR3 e0' htb'
   go_cut [13,14] (fun v13 v14 wx=>AUf n₁ w1 (.slice (some ⟨tb,tf,none⟩) (s.cues.length+1) tc) (.slice none 0 0) v k (Ap (Dp h s.cues k)) L v13 v14 wx)
   case first=>
    have x0:∀w',Fp n₁ w1 B12 q w'→w'.cell? ⟨B1,0,none⟩=some (.string h.name):=fun w' z=>(HXX.out w' z.old).1.1;have x1:∀w',Fp n₁ w1 B12 q w'→w'.cell? ⟨B1,1,none⟩=some (.int .i64 h.height):=fun w' z=>(HXX.out w' z.old).1.2.1;have x2:∀w',Fp n₁ w1 B12 q w'→w'.cell? ⟨B1,2,none⟩=some (.slice h.sa h.sets.length h.sc):=fun w' z=>(HXX.out w' z.old).1.2.2.1;have x3:∀w',Fp n₁ w1 B12 q w'→w'.cell? ⟨B1,3,none⟩=some (.slice h.ra h.roofs.length h.rc):=fun w' z=>(HXX.out w' z.old).1.2.2.2
    have x4:∀w',Fp n₁ w1 B12 q w'→w'.cell? ⟨tb,tf+k,none⟩=some (.slice y.a y.xs.length y.c):=fun w' z=>by
     obtain⟨tb',tf',e,_,ex⟩:=(HXX.out w' z.old).2.2.2.2.2.lies (by omega)
     cases e
     have:=ex k hkP;rw[HY.out]at this;exact this
    have c0:∀w',Fp n₁ w1 B12 q w'→w'.cell? ⟨B12,0,none⟩=some (.string q.name):=fun w' z=>z.cu.1;have c1:∀w',Fp n₁ w1 B12 q w'→w'.cell? ⟨B12,1,none⟩=some (.string q.after):=fun w' z=>z.cu.2.1;have c2:∀w',Fp n₁ w1 B12 q w'→w'.cell? ⟨B12,2,none⟩=some (.int .i64 q.link):=fun w' z=>z.cu.2.2.1;have c3:∀w',Fp n₁ w1 B12 q w'→w'.cell? ⟨B12,3,none⟩=some (.int .i64 q.delay):=fun w' z=>z.cu.2.2.2.1;have c4:∀w',Fp n₁ w1 B12 q w'→w'.cell? ⟨B12,4,none⟩=some (.slice q.ma q.moves.length q.mc):=fun w' z=>z.cu.2.2.2.2.1;have c5:∀w',Fp n₁ w1 B12 q w'→w'.cell? ⟨B12,5,none⟩=some (.int .i64 q.crew):=fun w' z=>z.cu.2.2.2.2.2.1;have c6:∀w',Fp n₁ w1 B12 q w'→w'.cell? ⟨B12,6,none⟩=some (.int .i64 q.power):=fun w' z=>z.cu.2.2.2.2.2.2;refine wp_region_held_drew (S:=(Fp n₁ w1 B12 q)) (by kernel_rfl) (HHQ.next (Cm W3)) (fun hHeld=>?_);obtain⟨W5,hW5⟩:=nm (W3.drew);simp only[hW5]at hHeld HPd HOd⊢;clear hW5;refine tk 0 ?_;refine tk 1 ?_;refine tk 2 ?_;refine tk 3 ?_;refine tk 4 ?_;refine tk 5 ?_;clear x0 x1 x2 x3 x4 c0 c1 c2 c3 c4 c5 c6;refine rq [6,10] ?_;refine AllReadyH.cons (o:=_) rfl (fun K hK=>?_) (AllReadyH.cons (o:=_) rfl (fun K hK=>?_) AllReadyH.nil)
    ·try simp only[Ba,Bc,Az]
     go_simp
     (go_at_call 74;go_split_ands;go_fit (HLEN.out _ hHeld.old);rintro e y1 ⟨rfl,hy1⟩;have hH1:=hHeld.next hy1;have HP1:=lh (HPd.out.carry hy1);have HO1:=lh (Ac HOd.out hy1))
     go_wp2_with fail
     refine hK.out _ _ hH1 (fun hHeld=>?_);clear hK K
     try simp only[Act.put,Co,Cp,Cn,Ba,Bc,Az]
     refine tk 7 ?_;refine tk 8 ?_;refine tk 9 ?_;refine r1 10 (fun K hK=>?_);rw[if_pos (by rfl)];go_split_ands
     go_wp2_with fail
     have hH2:=hH1.next (Aa y1 (.cells #[.int .i64 0,.int .i64 0] 49));have HP2:=lh (HP1.out.carry (Aa y1 (.cells #[.int .i64 0,.int .i64 0] 49)));have HO2:=lh (Ac HO1.out (Aa y1 (.cells #[.int .i64 0,.int .i64 0] 49)));have F2:=FI.new y1 49;have hlo:n₁+1≤y1.heap.size:=hH1.lo;have HNE:Hid (v.ownBlock≠some y1.heap.size):=lh fun e=>by have:=(HO1.out.lt _ e).2;omega
     have HBN:Hid (B12≠y1.heap.size):=lh (Nat.ne_of_lt (wl hH1.cu.1));obtain⟨B13,hB13⟩:=nm (y1.heap.size);rw[hB13]at F2 HNE HBN hlo⊢;clear hB13;generalize y1.alloc (.cells #[.int .i64 0,.int .i64 0] 49)=W4 at *;refine hK.out _ _ hH2 (fun hHeld=>?_);clear hK K
     try simp only[Act.put,Co,Cp,Cn,Ba,Bc,Az]
     refine r1 11 (fun K hK=>?_);rw[if_pos (by rfl)];go_split_ands;obtain⟨f0,f1,f2,f3,f4⟩:=F2
     go_wp2_with fail
     refine hK.out _ _ ((hH2.put HBN.out hlo _).put HBN.out hlo _) (fun hHeld=>?_);clear hK K
     try simp only[Act.put,Co,Cp,Cn,Ba,Bc,Az]
     refine tk 12 ?_;refine wpAnyH_done (by kernel_rfl) ?_ _
     go_wp2_with fail
     go_meet
     exact ANt L hH2.old hH2.lo HP2.out HO2.out hlo HNE.out ⟨f0,f1,f2,f3,f4⟩
    ·rw[if_pos (by rfl)]
     go_split_ands
     go_wp2_with fail
     have hH2:=hHeld.next (Aa W5 (.cells #[.int .i64 0,.int .i64 0] 49));have HP2:=lh (HPd.out.carry (Aa W5 (.cells #[.int .i64 0,.int .i64 0] 49)));have HO2:=lh (Ac HOd.out (Aa W5 (.cells #[.int .i64 0,.int .i64 0] 49)));have F2:=FI.new W5 49;have hlo:n₁+1≤W5.heap.size:=hHeld.lo;have HNE:Hid (v.ownBlock≠some W5.heap.size):=lh fun e=>by have:=(HOd.out.lt _ e).2;omega
     have HBN:Hid (B12≠W5.heap.size):=lh (Nat.ne_of_lt (wl hHeld.cu.1));obtain⟨B13,hB13⟩:=nm (W5.heap.size);rw[hB13]at F2 HNE HBN hlo⊢;clear hB13;generalize W5.alloc (.cells #[.int .i64 0,.int .i64 0] 49)=W4 at *;refine hK.out _ _ hH2 (fun hHeld=>?_);clear hK K
     try simp only[Act.put,Co,Cp,Cn,Ba,Bc,Az]
     refine r1 6 (fun K hK=>?_)
     try simp only[Ba,Bc,Az]
     go_simp
     (go_at_call 74;go_split_ands;go_fit (HLEN.out _ hHeld.old);rintro e y1 ⟨rfl,hy1⟩;have hH1:=hHeld.next hy1;have HP1:=lh (HP2.out.carry hy1);have HO1:=lh (Ac HO2.out hy1);have F3:=F2.carry hy1)
     go_wp2_with fail
     refine hK.out _ _ hH1 (fun hHeld=>?_);clear hK K
     try simp only[Act.put,Co,Cp,Cn,Ba,Bc,Az]
     refine tk 7 ?_;refine tk 8 ?_;refine tk 9 ?_;refine r1 11 (fun K hK=>?_);rw[if_pos (by rfl)];go_split_ands;obtain⟨f0,f1,f2,f3,f4⟩:=F3
     go_wp2_with fail
     refine hK.out _ _ ((hH1.put HBN.out hlo _).put HBN.out hlo _) (fun hHeld=>?_);clear hK K
     try simp only[Act.put,Co,Cp,Cn,Ba,Bc,Az]
     refine tk 12 ?_;refine wpAnyH_done (by kernel_rfl) ?_ _
     go_wp2_with fail
     go_meet
     exact ANt L hH1.old hH1.lo HP1.out HO1.out hlo HNE.out ⟨f0,f1,f2,f3,f4⟩
   case rest=>
    obtain⟨B13,rfl,rfl,hB4,hn4,hlo,hq4⟩:=hcut;clear HPd HOd HHQ HC3 HB3;have F4:=hq4.out.1;have HQ4:=lh hq4.out.2;clear hq4;have HMUL:=lh fun w'=>AAu 1000 1 L.1 L.2 ((Bj _ _).2 ⟨by decide,by decide,by decide,by decide,by decide⟩) HLO.out.ok w';rw[AUh HLO.out]at HMUL;have HMV:=lh (APf HLO.out);have HMB:=lh (AVe HLO.out);obtain⟨N,hN⟩:=nm (Ay (1000*L.1) L.2);obtain⟨D,hD⟩:=nm (Ar (1000*L.1) L.2);have hMS:msF L=Kt N D:=by unfold msF;rw[hN,hD]
    rw[hN,hD]at HMUL HMV;have HMS:=lh hMS;rw[hMS]at HSN;clear hN hD hMS
    go_upto_region 11 with (fail)
    have HNE:Hid (v.ownBlock≠some B13):=lh HQ4.out.2.2
    go_cut [14] (fun v14 wx=>AUf n₁ w1 (.slice (some ⟨tb,tf,none⟩) (s.cues.length+1) tc) (.slice none 0 0) v k (Ap (Dp h s.cues k)) (N,D) (.pointer (some ⟨B13,0,none⟩)) v14 wx)
    case first=>
     have HP0:=lh (HQ4.out.1.carry (Cm _));have HO0:=lh (Ac HQ4.out.2.1 (Cm _));have F0:=F4.carry (Cm _);refine wp_region_held_drew (S:=(Uu n₁ w1)) (by kernel_rfl) ((Uu.mk hB4 hn4).next (Cm _)) (fun hHeld=>?_);refine rq [0,1] ?_;refine AllReadyH.cons (o:=_) rfl (fun K hK=>?_) (AllReadyH.cons (o:=_) rfl (fun K hK=>?_) AllReadyH.nil)
     focus
      try simp only[Ba,Az]
      go_simp
      (go_at_call 76;go_split_ands;go_fit (Gt 1000 _);rintro e y1 ⟨rfl,hy1⟩;have hH1:=hHeld.next hy1;have HP1:=lh (HP0.out.carry hy1);have HO1:=lh (Ac HO0.out hy1);have F1:=F0.carry hy1)
      go_wp2_with fail
      refine hK.out _ _ hH1 (fun hHeld=>?_);clear hK K
      try simp only[Act.put,Co,Cp,Cn,Ba,Bc,Az]
      refine r1 1 (fun K hK=>?_);rw[if_pos (by rfl)];obtain⟨f0,f1,f2,f3,f4⟩:=id F1
      go_wp2_with fail
      refine hK.out _ _ hH1 (fun hHeld=>?_);clear hK K f0 f1 f2 f3 f4
     rotate_left
     focus
      rw[if_pos (by rfl)];obtain⟨f0,f1,f2,f3,f4⟩:=id F0
      go_wp2_with fail
      refine hK.out _ _ hHeld (fun hHeld=>?_);clear hK K f0 f1 f2 f3 f4
      try simp only[Act.put,Co,Cp,Cn,Ba,Bc,Az]
      refine r1 0 (fun K hK=>?_)
      try simp only[Ba,Az]
      go_simp
      (go_at_call 76;go_split_ands;go_fit (Gt 1000 _);rintro e y1 ⟨rfl,hy1⟩;have hH1:=hHeld.next hy1;have HP1:=lh (HP0.out.carry hy1);have HO1:=lh (Ac HO0.out hy1);have F1:=F0.carry hy1)
      go_wp2_with fail
      refine hK.out _ _ hH1 (fun hHeld=>?_);clear hK K
     rotate_left
     all_goals
      try simp only[Act.put,Co,Cp,Cn,Ba,Bc,Az]
      refine r1 2 (fun K hK=>?_)
      try simp only[Ba,Bc,Az]
      go_simp
      (go_at_call 75;go_split_ands;go_fit (HMUL.out _);rintro e y2 ⟨rfl,hy2⟩;have hH2:=hH1.next hy2;have HP2:=lh (HP1.out.carry hy2);have HO2:=lh (Ac HO1.out hy2);have F2:=F1.carry hy2)
      go_wp2_with fail
      refine hK.out _ _ hH2 (fun hHeld=>?_);clear hK K
      try simp only[Act.put,Co,Cp,Cn,Ba,Bc,Az]
      refine tk 3 ?_;refine tk 4 ?_;refine tk 5 ?_;refine r1 6 (fun K hK=>?_);rw[if_pos (by rfl)];obtain⟨f0,f1,f2,f3,f4⟩:=F2
      go_wp2_with fail
      refine hK.out _ _ ((hH2.put hlo _).put hlo _) (fun hHeld=>?_);clear hK K
      try simp only[Act.put,Co,Cp,Cn,Ba,Bc,Az]
      refine tk 7 ?_;refine wpAnyH_done (by kernel_rfl) ?_ _
      go_wp2_with fail
      go_meet
      exact ANt (N,D) hH2.old hH2.lo HP2.out HO2.out hlo HNE.out ⟨f0,f1,f2,f3,f4⟩
    case rest=>
     obtain⟨B13',hb13,rfl,hB6,hn6,-,hq6⟩:=hcut
     cases hb13
     obtain⟨g0,g1,-,-,-⟩:=hq6.out.1;have HP6:=lh hq6.out.2.1;have HO6:=lh hq6.out.2.2.1;clear hq6 HQ4 F4 hB4 hn4 HMUL HLEN;have HCE:=lh fun w'=>AOg N D HMV.out w';obtain⟨C,hC⟩:=nm (Kt N D);rw[hC]at HCE HSN HMS;clear hC
     go_upto_region 17 with (go_at_call 77;go_fit (HCE.out _);rintro e w7 ⟨rfl,hb7⟩;have hB7:=hB6.trans (hb7.mono (by omega));have hn7:=nt hn6 hb7.size;have HP7:=lh (HP6.out.carry hb7);have HO7:=lh (Ac HO6.out hb7))
     clear g0 g1 hB6 hn6 HP6 HO6 hb7;obtain⟨p0,p1,p2,p3,p4,p5,p6⟩:=HP7.out;have hbx:=Aa w7 (.cells #[.int .i64 C] 3);have HKL:Hid ((Dp h s.cues k).length=k):=lh (Mu _ _ _);have HO8:Hid ((w7.alloc (.cells #[.int .i64 C] 3)).ownsRow (n₁+1) 3 1 v (Dp h s.cues k).length (Ap (Dp h s.cues k))):=lh (by rw[HKL.out];exact Ac HO7.out hbx);have HP8:=lh (HP7.out.carry hbx);have HB8:=hB7.alloc (by omega) (.cells #[.int .i64 C] 3);have hn8:n₁+1≤(w7.alloc (.cells #[.int .i64 C] 3)).heap.size:=by simp;omega
     have hkl:(Dp h s.cues k).length≤1000000:=by rw[HKL.out];omega
     have hc8:(w7.alloc (.cells #[.int .i64 C] 3)).cell? ⟨w7.heap.size,0,none⟩=some (.int .i64 C):=by simp
     clear hbx
     go_upto_region 18 with (at_builtin;refine Fe rfl _ _ rfl (n₁+1) _ (Dp h s.cues k) rfl HO8.out _ C rfl hc8 hkl hn8 ?_;intro v2 w8 hown8 hg8;obtain⟨va,vc,hv2,-,-,-,-⟩:=Be hown8;rw[List.length_append,List.length_singleton]at hv2;subst hv2;have HP9:=lh (HP8.out.grown hg8 (fun e=>by have:=(HO8.out.lt _ e.symm).1;omega));have HO9:=lh hown8;have hB9:=HB8.grown hg8 (by omega) (fun j hj=>by have:=(HO8.out.lt _ hj).1;omega);have hn9:=nt hn8 hg8.size;obtain⟨z0,z1,z2,z3,z4,z5,z6⟩:=HP9.out;clear hown8 hg8)
     have HP10:=lh (HP9.out.set2 (.slice va ((Dp h s.cues k).length+1) vc))
     have HO10:Hid ((w8.setCell ⟨n₁,2,none⟩ (.slice va ((Dp h s.cues k).length+1) vc)).ownsRow (n₁+1) 3 1 (.slice va ((Dp h s.cues k).length+1) vc) (k+1) (Ap (Dp h s.cues (k+1)))):=lh (by
      have e:(Dp h s.cues k++[C]).length=k+1:=by rw[List.length_append,HKL.out];rfl
      have z:=HO9.out;rw[e]at z;rw[HKL.out]at z⊢;rw[HSN.out];exact Ge z z6 (fun q=>by have:=(z.lt _ q).1;omega) _)
     have hB10:=hB9.setCell (show n₁≤(⟨n₁,2,none⟩:Addr).block from nr) (.slice va ((Dp h s.cues k).length+1) vc);have hn10:n₁+1≤(w8.setCell ⟨n₁,2,none⟩ (.slice va ((Dp h s.cues k).length+1) vc)).heap.size:=by simp;omega
     clear z0 z1 z2 z3 z4 z5 z6
     go_wp2_with fail
     go_roundw
     case rel=>exact⟨k+1,_,by go_num,by omega,hB10,hn10,lh ⟨HP10.out,HO10.out⟩⟩
     case measure=>simp[intOf];omega
  ·obtain rfl:k=s.cues.length:=by omega
   have hll:(Dp h s.cues s.cues.length).length=s.cues.length:=Mu _ _ _;obtain⟨na,nc,hv,-,-,-,hnm⟩:=Be (L:=Dp h s.cues s.cues.length) (by rw[hll];exact HR.out.2);rw[hll]at hv;subst hv;have HLL:=lh hll;obtain⟨-,⟨s0,s1⟩,-,hsi,hGi,hTi⟩:=HXX.out _ hB;have HST:=lh (AFv s.ca s.pa na ga s.cues s.pairs (Dp h s.cues s.cues.length) G s.cc s.pc nc gc wr hcl (by rw[hll];exact hcl) hgl hsi.lies hsi.plies hnm hGi);have HNM:=lh hnm;have HTI:=lh hTi;rw[hll,HCA.out]at HST;rw[HCA.out]at s0;obtain⟨p0,p1,p2,p3,p4,p5,p6⟩:=HR.out.1;clear hll hsi hGi hTi hnm hlt hk;obtain⟨St,hSt⟩:=nm (Ca s.cues s.pairs (Dp h s.cues s.cues.length) G);rw[hSt]at HST;have HSS:=lh hSt;clear hSt
   go_upto_region 20 with (go_at_call 78;go_fit HST.out;rintro e w9 hx9;obtain⟨sv,rfl,ho9,hb9⟩:=hx9.out;obtain⟨va,vc,hv9,-,-,-,-⟩:=Be ho9;subst hv9;have HO9:=lh ho9;have HP9:=lh (HR.out.1.carry hb9);have hB9:=hB.trans (hb9.mono (by omega));have hn9:=nt hnw hb9.size;obtain⟨z0,z1,z2,z3,z4,z5,z6⟩:=HP9.out;clear hx9 ho9)
   have HP10:=lh (HP9.out.set1 (.slice va St.1.length vc));have HN3:=lh ((HNN.out _ hB9).other (show B3≠n₁ by have:=(HNN.out _ hB9).2.2.2.2.2.2;have:=HB3n.out;omega) 1 (.slice va St.1.length vc));have hB10:=hB9.setCell (show n₁≤(⟨n₁,1,none⟩:Addr).block from nr) (.slice va St.1.length vc);have HOL:=lh (Ge (o:=1) (Ac HR.out.2 hb9) z6 (fun q=>by have:=(HR.out.2.lt _ q).1;omega) (.slice va St.1.length vc));have HOS:=lh (Ge (o:=1) HO9.out z6 (fun q=>by have:=(HO9.out.lt _ q).1;omega) (.slice va St.1.length vc));clear z0 z1 z2 z3 z4 z5 z6 p0 p1 p2 p3 p4 p5 p6 s0 s1 hb9;generalize w9.setCell ⟨n₁,1,none⟩ (.slice va St.1.length vc)=W10 at *;obtain⟨z0,z1,z2,z3,z4,z5,z6⟩:=HP10.out;obtain⟨p0,p1,p2,p3,p4,p5,p6⟩:=HN3.out
   go_wp2_with fail
   have r2:=((HN3.out.set0 (.slice ta (s.cues.length+1) tc)).set1 (.slice va St.1.length vc)).set2 (.slice na s.cues.length nc);have HLN:=AEl (x:=.slice ta (s.cues.length+1) tc) (y:=.slice va St.1.length vc) (z:=.slice na s.cues.length nc) HOL.out HN3.out (fun q=>by have:=(HOL.out.lt _ q).1;have:=HB3n.out;omega);have HSN:=AEl (x:=.slice ta (s.cues.length+1) tc) (y:=.slice va St.1.length vc) (z:=.slice na s.cues.length nc) HOS.out HN3.out (fun q=>by have:=(HOS.out.lt _ q).1;have:=HB3n.out;omega);refine bodyPost_ret (v:=.tuple #[.agg #[.slice ta (s.cues.length+1) tc,.slice va St.1.length vc,.slice na s.cues.length nc],.int .i64 St.2]) (by simp[results,Tryz.results44,go_sem,r2.1,r2.2.1,r2.2.2.1]) rfl ⟨?_,?_⟩
   ·rw[HSS.out]
    refine lh ⟨ta,tc,na,nc,_,rfl,?_,Bn HSN (by have:=HWN.out;omega),fun q=>⟨_,ALf (HXX.out _ hB10).2.2.2.2.2 q HN3.out _ _ _⟩⟩;obtain⟨na',nc',he,-,-,-,hnm⟩:=Be (L:=Dp h s.cues s.cues.length) (by rw[HLL.out];exact HLN);rw[HLL.out]at he
    cases he
    exact hnm
   ·exact(((HWW.out _ hB10).setCell (show w.heap.size≤(⟨B3,0,none⟩:Addr).block from HB3.out) _).setCell (show w.heap.size≤(⟨B3,1,none⟩:Addr).block from HB3.out) _).setCell (show w.heap.size≤(⟨B3,2,none⟩:Addr).block from HB3.out) _
theorem AKr(h:Ae)(s:Aq)(w:World)(hh:Ax w h)(hs:Bg w s)(hv:Fd h s=true):
  Calls Tryz.prog 83 #[.agg #[.string h.name,.int .i64 h.height,.slice h.sa h.sets.length h.sc,.slice h.ra h.roofs.length h.rc],.agg #[.slice s.ca s.cues.length s.cc,.slice s.pa s.pairs.length s.pc]] w fun e w'=>Hid (∃v,e=.returned v∧w'.ownsRow w.heap.size 3 1 v s.cues.length (Ap (Dp h s.cues s.cues.length)))∧Below w.heap.size w w':=by
 obtain⟨hb0,HX,HW⟩:=o2 hh hs;have hsl:=hh.slen;have hcl:=hs.clen;have HML:=lh hs.mlen;have HMC:=lh hs.mcap;have HV:=lh hv;have HOK:=lh (Em.1 hv);clear hh hs hb0 hv
 go_enter Tryz.func83,Tryz.ntmps83
 go_upto_region 1 with (fail)
 obtain⟨W0,hW0⟩:=nm ((Fo w h s):World);simp only[hW0]at HX HW⊢;clear hW0;obtain⟨B1,hB1⟩:=nm (w.heap.size);obtain⟨B2,hB2⟩:=nm (w.heap.size+1);rw[hB2]at HX⊢;rw[hB1]at HX⊢;clear hB1 hB2;obtain⟨⟨a0,a1,a2,a3⟩,⟨s0,s1⟩,hin,sin⟩:=HX.out _ br;have HTR:=lh (AGs h s W0 hin sin HV.out);clear hin sin;obtain⟨sa,hsa⟩:=nm (h.sa);have HSA:=lh hsa;obtain⟨ca,hca⟩:=nm (s.ca);have HCA:=lh hca;rw[hsa]at a2 HTR;rw[hca]at s0 HTR;rw[hsa,hca];clear hsa hca
 go_upto_region 4 with (go_at_call 85;go_fit HTR.out;rintro e w1 ⟨hx1,hb1⟩;obtain⟨ta,tc,P,rfl,ht1⟩:=hx1.out;have HT1:=lh ht1;clear hx1 ht1)
 clear a0 a1 a2 a3 s0 s1 HTR;obtain⟨n₀,hn0⟩:=nm (w1.heap.size);have hB0:Below n₀ w1 w1:=by rw[←hn0];exact br
 have hs0:n₀≤w1.heap.size:=by omega
 have HXX:Hid (∀w',Below n₀ w1 w'→Au w' B1 h∧Bo w' B2 s∧Ax w' h∧Bg w' s∧Fi w' ta h s.cues P):=lh fun w' z=>by
  rw[←hn0]at z;obtain⟨q1,q2,q3,q4⟩:=HX.out w' (hb1.trans (z.mono hb1.size));exact⟨q1,q2,q3,q4,HT1.out.grow z⟩
 have HWW:Hid (∀w',Below n₀ w1 w'→Below w.heap.size w w'):=lh fun w' z=>by rw[←hn0]at z;exact HW.out w' (hb1.trans (z.mono hb1.size))
 have HSB:Hid (w.heap.size≤n₀):=lh (by have:=(HW.out _ hb1).size;omega);have HTL:=lh HT1.out.rows;clear HX HW HT1 hb1 hn0
 go_loopw [6,7,8,9,10] (fun v6 iv _ _ _ wr=>∃k:Nat,iv=.int .i64 k∧k≤s.cues.length∧Below n₀ w1 wr∧n₀≤wr.heap.size∧Hid (wr.ownsRow n₀ 3 1 v6 k (Ap (Dp h s.cues k)))) (fun _ iv _ _ _ _=>s.cues.length-(intOf iv).toNat)
 case atStart=>exact⟨0,rfl,nz,hB0,hs0,lh (World.ownsRow_nil _ _ _ _)⟩
 case round=>
  clear hB0 hs0;obtain⟨v6,hv6⟩:=nm (u6:Value);obtain⟨k,rfl,hk,hB,hnw,HR⟩:=hrel;rw[hv6]at HR⊢;clear hv6;obtain⟨-,⟨s0,s1⟩,-,-,-⟩:=HXX.out _ hB;rw[HCA.out]at s0
  by_cases hlt:k<s.cues.length
  ·obtain⟨cb,co,ha,-,-⟩:=(HXX.out _ hB).2.2.2.1.lies (by omega)
   rw[HCA.out]at ha;subst ha;obtain⟨tb,tf,hta,-,-⟩:=(HXX.out _ hB).2.2.2.2.lies (by rw[HTL.out.len];omega);subst hta;have hkP:k<P.length:=by rw[HTL.out.len];omega
   have HYT:=lh (HTL.out.eq k (by omega));have HTO:Hid (Ka h (Ez h s.cues k)):=lh (Ro HOK.out.house (fun j hj=>(HOK.out.each j hj).1) k (by omega));have HRT:=lh (Ef.2 (HOK.out.each k hlt).1);have HMK:=lh (HML.out k hlt);have HMCK:=lh (HMC.out k hlt);have HLS:=lh (Xz h s.cues k);have HLL:=lh (Mu h s.cues k);obtain⟨q,hq⟩:=nm (cg s.cues k);have HQ:=lh hq;obtain⟨y,hy⟩:=nm (lg P k);have HYG:=lh hy;rw[hq]at HRT HMK HMCK HLS;rw[hy]at HYT;rw[←HYT.out]at HTO HLS;have HTMK:Hid (Ux (Gk h y.xs q.moves)):=lh (by have:=Wf HOK.out.house HTO.out (Ef.1 HRT.out).2 q.moves.length nr;rw[List.take_length]at this;exact this)
   have HLEN:Hid (∀w',Below n₀ w1 w'→Calls Tryz.prog 128 #[.agg #[.string h.name,.int .i64 h.height,.slice h.sa h.sets.length h.sc,.slice h.ra h.roofs.length h.rc],.slice y.a y.xs.length y.c,.agg #[.string q.name,.string q.after,.int .i64 q.link,.int .i64 q.delay,.slice q.ma q.moves.length q.mc,.int .i64 q.crew,.int .i64 q.power]] w' fun e w2=>e=.returned (.agg #[.int .i64 (Gk h y.xs q.moves).1,.int .i64 (Gk h y.xs q.moves).2])∧Below w'.heap.size w' w2):=lh fun w' z=>
    AMo h q y.a y.xs y.c w' (HXX.out w' z).2.2.1 (by have:=(HXX.out w' z).2.2.2.1.each k hlt;rw[HQ.out]at this;exact this) HMK.out HMCK.out (by have:=(HXX.out w' z).2.2.2.2.each k hkP;rw[HYG.out]at this;exact this) HOK.out.house HRT.out HTO.out
   rw[HSA.out]at HLEN;obtain⟨p,hp⟩:=nm (Gk h y.xs q.moves);rw[hp]at HLEN HLS HTMK;obtain⟨L,hL⟩:=nm (Dp h s.cues k);rw[hL]at HR HLL HLS;clear hq hy hp hL
   go_upto_region 6 with (fail)
   clear s0 s1
   go_cut [8] (fun v8 wx=>∃(B8:Nat) (W6:World),W6=wx∧v8=.pointer (some ⟨B8,0,none⟩)∧Below n₀ w1 wx∧n₀≤wx.heap.size∧Hid (FI wx B8 p.1 p.2∧wx.ownsRow n₀ 3 1 v6 k (Ap L)))
   case first=>
    have x0:∀w',Cs n₀ w1 w'→w'.cell? ⟨B1,0,none⟩=some (.string h.name):=fun w' z=>(HXX.out w' z.old).1.1;have x1:∀w',Cs n₀ w1 w'→w'.cell? ⟨B1,1,none⟩=some (.int .i64 h.height):=fun w' z=>(HXX.out w' z.old).1.2.1;have x2:∀w',Cs n₀ w1 w'→w'.cell? ⟨B1,2,none⟩=some (.slice sa h.sets.length h.sc):=fun w' z=>by rw[←HSA.out];exact(HXX.out w' z.old).1.2.2.1
    have x3:∀w',Cs n₀ w1 w'→w'.cell? ⟨B1,3,none⟩=some (.slice h.ra h.roofs.length h.rc):=fun w' z=>(HXX.out w' z.old).1.2.2.2;have xs:∀w',Cs n₀ w1 w'→w'.cell? ⟨B2,0,none⟩=some (.slice (some ⟨cb,co,none⟩) s.cues.length s.cc):=fun w' z=>by rw[←HCA.out];exact(HXX.out w' z.old).2.1.1
    have xt:∀w',Cs n₀ w1 w'→w'.cell? ⟨tb,tf+k,none⟩=some (.slice y.a y.xs.length y.c):=fun w' z=>by
     obtain⟨tb',tf',e,-,ex⟩:=(HXX.out w' z.old).2.2.2.2.lies (by rw[HTL.out.len];omega)
     cases e
     have:=ex k hkP;rw[HYG.out]at this;exact this
    have hcq:∀w',Cs n₀ w1 w'→w'.cell? ⟨cb,co+k*7,none⟩=some (.string q.name)∧w'.cell? ⟨cb,co+k*7+1,none⟩=some (.string q.after)∧w'.cell? ⟨cb,co+k*7+2,none⟩=some (.int .i64 q.link)∧w'.cell? ⟨cb,co+k*7+3,none⟩=some (.int .i64 q.delay)∧w'.cell? ⟨cb,co+k*7+4,none⟩=some (.slice q.ma q.moves.length q.mc)∧w'.cell? ⟨cb,co+k*7+5,none⟩=some (.int .i64 q.crew)∧w'.cell? ⟨cb,co+k*7+6,none⟩=some (.int .i64 q.power):=fun w' z=>by
     obtain⟨cb',co',e,-,ex⟩:=(HXX.out w' z.old).2.2.2.1.lies (by omega);rw[HCA.out]at e
     cases e
     have:=ex k hlt;rw[HQ.out]at this;exact this
    have y0:=fun w' z=>(hcq w' z).1;have y1:=fun w' z=>(hcq w' z).2.1;have y2:=fun w' z=>(hcq w' z).2.2.1;have y3:=fun w' z=>(hcq w' z).2.2.2.1;have y4:=fun w' z=>(hcq w' z).2.2.2.2.1;have y5:=fun w' z=>(hcq w' z).2.2.2.2.2.1;have y6:=fun w' z=>(hcq w' z).2.2.2.2.2.2;clear hcq;have j0:(0:Int)≤(k:Int):=by omega
    have j1:(k:Int)<(s.cues.length:Int)+1:=by omega
    have j2:(k:Int)<(s.cues.length:Int):=by omega
    have H0:Cs n₀ w1 wr.drew:=(Cs.mk hB hnw).next (br).drew
    have R0:=lh (show wr.drew.ownsRow n₀ 3 1 v6 k (Ap L)from HR.out);refine wp_region_held_drew (S:=(Cs n₀ w1)) (by kernel_rfl) H0 (fun hHeld=>?_);obtain⟨W5,hW5⟩:=nm (wr.drew);simp only[hW5]at hHeld H0 R0⊢;clear hW5;refine tk 0 ?_;refine tk 1 ?_;refine tk 2 ?_;refine tk 3 ?_;refine tk 4 ?_;refine tk 5 ?_;refine tk 6 ?_;refine tk 7 ?_;refine tk 8 ?_;refine tk 9 ?_;clear x0 x1 x2 x3 xs xt y0 y1 y2 y3 y4 y5 y6;refine rq [10,11] ?_;refine AllReadyH.cons (o:=_) rfl (fun K hK=>?_) (AllReadyH.cons (o:=_) rfl (fun K hK=>?_) AllReadyH.nil)
    focus
     try simp only[Ba,Bc,Az]
     go_simp
     (go_at_call 128;go_split_ands;go_fit (HLEN.out _ H0.old);rintro e y1 ⟨rfl,hy1⟩)
     go_wp2_with fail
     have H1:=H0.next hy1;have R1:=lh (Ac R0.out hy1);refine hK.out _ _ H1 (fun hHeld=>?_);clear hK K
     try simp only[Act.put,Co,Cp,Cn,Ba,Bc,Az]
     refine r1 11 (fun K hK=>?_);rw[if_pos (by rfl)];go_split_ands
     go_wp2_with fail
     have H2:=H1.next (Aa y1 (.cells #[.int .i64 0,.int .i64 0] 49));have R2:=lh (Ac R1.out (Aa y1 (.cells #[.int .i64 0,.int .i64 0] 49)));have F9_2:=FI.new y1 49;have hlo:n₀≤y1.heap.size:=H1.lo;have hne:Value.ownBlock v6≠some y1.heap.size:=fun e=>Nat.lt_irrefl _ (R1.out.lt _ e).2;obtain⟨B9,hB9⟩:=nm (y1.heap.size);rw[hB9]at F9_2 hlo hne⊢;clear hB9;generalize y1.alloc (.cells #[.int .i64 0,.int .i64 0] 49)=y2 at *
    rotate_left
    focus
     rw[if_pos (by rfl)];go_split_ands
     go_wp2_with fail
     have H1:=H0.next (Aa W5 (.cells #[.int .i64 0,.int .i64 0] 49));have R1:=lh (Ac R0.out (Aa W5 (.cells #[.int .i64 0,.int .i64 0] 49)));have F9_1:=FI.new W5 49;have hlo:n₀≤W5.heap.size:=H0.lo;have hne:Value.ownBlock v6≠some W5.heap.size:=fun e=>Nat.lt_irrefl _ (R0.out.lt _ e).2;obtain⟨B9,hB9⟩:=nm (W5.heap.size);rw[hB9]at F9_1 hlo hne⊢;clear hB9;generalize W5.alloc (.cells #[.int .i64 0,.int .i64 0] 49)=y1 at *;refine hK.out _ _ H1 (fun hHeld=>?_);clear hK K
     try simp only[Act.put,Co,Cp,Cn,Ba,Bc,Az]
     refine r1 10 (fun K hK=>?_)
     try simp only[Ba,Bc,Az]
     go_simp
     (go_at_call 128;go_split_ands;go_fit (HLEN.out _ H1.old);rintro e y2 ⟨rfl,hy2⟩)
     go_wp2_with fail
     have H2:=H1.next hy2;have R2:=lh (Ac R1.out hy2);have F9_2:=F9_1.carry hy2
    rotate_left
    all_goals
     refine hK.out _ _ H2 (fun hHeld=>?_);clear hK K
     try simp only[Act.put,Co,Cp,Cn,Ba,Bc,Az]
     refine r1 12 (fun K hK=>?_);rw[if_pos (by rfl)];go_split_ands;obtain⟨f0,f1,f2,f3,f4⟩:=F9_2
     go_wp2_with fail
     refine hK.out _ _ ((H2.put hlo _).put hlo _) (fun hHeld=>?_);clear hK K
     try simp only[Act.put,Co,Cp,Cn,Ba,Bc,Az]
     refine wpAnyH_done (by kernel_rfl) ?_ _
     go_wp2_with fail
     go_meet
     exact⟨B9,_,rfl,rfl,((H2.put hlo _).put hlo _).old,((H2.put hlo _).put hlo _).lo,lh ⟨FI.set ⟨f0,f1,f2,f3,f4⟩ _ _,Ge (Ge R2.out f4 hne _) (by simp;exact f4) hne _⟩⟩
   case rest=>
    obtain⟨B8,W6,rfl,rfl,hB8,hn8,hq8⟩:=hcut;clear HR hB hnw HLEN;have HQ8:=lh hq8.out;clear hq8;obtain⟨n₁,hn1⟩:=nm (W6.heap.size);have HX7:Hid (∀w',Below n₁ W6 w'→Below n₀ w1 w'∧FI w' B8 p.1 p.2):=lh fun w' z=>by rw[←hn1]at z;exact⟨hB8.trans (z.mono hn8),HQ8.out.1.carry z⟩
    have hH6:Below n₁ W6 W6:=by rw[←hn1];exact br
    have hn6:n₁≤W6.heap.size:=by omega
    have HN1:Hid (n₀≤n₁):=lh (by omega);have HTIMES:=lh fun (w':World)=>AHa p HTMK.out w';have HMS:=lh (ABb HTMK.out);have HMF:Hid (msF p=Kt (Ay (1000*p.1) p.2) (Ar (1000*p.1) p.2)):=lh rfl;obtain⟨N,hN⟩:=nm (Ay (1000*p.1) p.2);obtain⟨d,hd⟩:=nm (Ar (1000*p.1) p.2);rw[hN,hd]at HTIMES HMS HMF;clear hn1 hN hd hB8 hn8
    go_upto_region 7 with (fail)
    go_cut [9,10] (fun v9 v10 wx=>∃(B9:Nat) (W7:World),W7=wx∧v9=.pointer (some ⟨B9,0,none⟩)∧v10=.int .i64 0∧Below n₁ W6 wx∧n₁≤wx.heap.size∧Hid (FI wx B9 N d∧wx.ownsRow n₀ 3 1 v6 k (Ap L)))
    case first=>
     have z0:∀w',Cs n₁ W6 w'→w'.cell? ⟨B8,0,none⟩=some (.int .i64 p.1):=fun w' z=>(HX7.out w' z.old).2.1;have z1:∀w',Cs n₁ W6 w'→w'.cell? ⟨B8,1,none⟩=some (.int .i64 p.2):=fun w' z=>(HX7.out w' z.old).2.2.1;have H0:Cs n₁ W6 W6.drew:=(Cs.mk hH6 hn6).next (br).drew
     have R0:=lh (show W6.drew.ownsRow n₀ 3 1 v6 k (Ap L)from HQ8.out.2);refine wp_region_held_drew (S:=(Cs n₁ W6)) (by kernel_rfl) H0 (fun hHeld=>?_);obtain⟨W5,hW5⟩:=nm (W6.drew);simp only[hW5]at hHeld H0 R0⊢;clear hW5;refine tk 0 ?_;clear z0 z1;refine rq [1,6] ?_;refine AllReadyH.cons (o:=_) rfl (fun K hK=>?_) (AllReadyH.cons (o:=_) rfl (fun K hK=>?_) AllReadyH.nil)
     ·try simp only[Ba,Bc,Az]
      go_simp
      (go_at_call 20;go_split_ands;go_fit (Ve 1000 _);rintro e y1 ⟨rfl,hy1⟩)
      go_wp2_with fail
      have H1:=H0.next hy1;have R1:=lh (Ac R0.out hy1);refine hK.out _ _ H1 (fun hHeld=>?_);clear hK K
      try simp only[Act.put,Co,Cp,Cn,Ba,Bc,Az]
      refine rq [2,6] ?_;refine AllReadyH.cons (o:=_) rfl (fun K hK=>?_) (AllReadyH.cons (o:=_) rfl (fun K hK=>?_) AllReadyH.nil)
      focus
       try simp only[Ba,Bc,Az]
       go_simp
       (go_at_call 129;go_split_ands;go_fit (HTIMES.out _);rintro e y2 ⟨rfl,hy2⟩)
       go_wp2_with fail
       have H2:=H1.next hy2;have R2:=lh (Ac R1.out hy2);refine hK.out _ _ H2 (fun hHeld=>?_);clear hK K
       try simp only[Act.put,Co,Cp,Cn,Ba,Bc,Az]
       refine tk 3 ?_;refine tk 4 ?_;refine tk 5 ?_;refine r1 6 (fun K hK=>?_);rw[if_pos (by rfl)];go_split_ands
       go_wp2_with fail
       have H3:=H2.next (Aa y2 (.cells #[.int .i64 0,.int .i64 0] 49));have R3:=lh (Ac R2.out (Aa y2 (.cells #[.int .i64 0,.int .i64 0] 49)));have F9_3:=FI.new y2 49;have hlo:n₁≤y2.heap.size:=H2.lo;have hne:Value.ownBlock v6≠some y2.heap.size:=fun e=>Nat.lt_irrefl _ (R2.out.lt _ e).2;obtain⟨B9,hB9⟩:=nm (y2.heap.size);rw[hB9]at F9_3 hlo hne⊢;clear hB9;generalize y2.alloc (.cells #[.int .i64 0,.int .i64 0] 49)=y3 at *;refine hK.out _ _ H3 (fun hHeld=>?_);clear hK K
       try simp only[Act.put,Co,Cp,Cn,Ba,Bc,Az]
      rotate_left
      focus
       rw[if_pos (by rfl)];go_split_ands
       go_wp2_with fail
       have H2:=H1.next (Aa y1 (.cells #[.int .i64 0,.int .i64 0] 49));have R2:=lh (Ac R1.out (Aa y1 (.cells #[.int .i64 0,.int .i64 0] 49)));have F9_2:=FI.new y1 49;have hlo:n₁≤y1.heap.size:=H1.lo;have hne:Value.ownBlock v6≠some y1.heap.size:=fun e=>Nat.lt_irrefl _ (R1.out.lt _ e).2;obtain⟨B9,hB9⟩:=nm (y1.heap.size);rw[hB9]at F9_2 hlo hne⊢;clear hB9;generalize y1.alloc (.cells #[.int .i64 0,.int .i64 0] 49)=y2 at *;refine hK.out _ _ H2 (fun hHeld=>?_);clear hK K
       try simp only[Act.put,Co,Cp,Cn,Ba,Bc,Az]
       refine r1 2 (fun K hK=>?_)
       try simp only[Ba,Bc,Az]
       go_simp
       (go_at_call 129;go_split_ands;go_fit (HTIMES.out _);rintro e y3 ⟨rfl,hy3⟩)
       go_wp2_with fail
       have H3:=H2.next hy3;have R3:=lh (Ac R2.out hy3);have F9_3:=F9_2.carry hy3;refine hK.out _ _ H3 (fun hHeld=>?_);clear hK K
       try simp only[Act.put,Co,Cp,Cn,Ba,Bc,Az]
       refine tk 3 ?_;refine tk 4 ?_;refine tk 5 ?_
      rotate_left
      all_goals
       refine r1 7 (fun K hK=>?_);rw[if_pos (by rfl)];go_split_ands;obtain⟨f0,f1,f2,f3,f4⟩:=F9_3
       go_wp2_with fail
       refine hK.out _ _ ((H3.put hlo _).put hlo _) (fun hHeld=>?_);clear hK K
       try simp only[Act.put,Co,Cp,Cn,Ba,Bc,Az]
       refine tk 8 ?_;refine wpAnyH_done (by kernel_rfl) ?_ _
       go_wp2_with fail
       go_meet
       exact⟨B9,_,rfl,rfl,rfl,((H3.put hlo _).put hlo _).old,((H3.put hlo _).put hlo _).lo,lh ⟨FI.set ⟨f0,f1,f2,f3,f4⟩ _ _,Ge (Ge R3.out f4 hne _) (by simp;exact f4) hne _⟩⟩
     ·rw[if_pos (by rfl)]
      go_split_ands
      go_wp2_with fail
      have H1:=H0.next (Aa W5 (.cells #[.int .i64 0,.int .i64 0] 49));have R1:=lh (Ac R0.out (Aa W5 (.cells #[.int .i64 0,.int .i64 0] 49)));have F9_1:=FI.new W5 49;have hlo:n₁≤W5.heap.size:=H0.lo;have hne:Value.ownBlock v6≠some W5.heap.size:=fun e=>Nat.lt_irrefl _ (R0.out.lt _ e).2;obtain⟨B9,hB9⟩:=nm (W5.heap.size);rw[hB9]at F9_1 hlo hne⊢;clear hB9;generalize W5.alloc (.cells #[.int .i64 0,.int .i64 0] 49)=y1 at *;refine hK.out _ _ H1 (fun hHeld=>?_);clear hK K
      try simp only[Act.put,Co,Cp,Cn,Ba,Bc,Az]
      refine r1 1 (fun K hK=>?_)
      try simp only[Ba,Bc,Az]
      go_simp
      (go_at_call 20;go_split_ands;go_fit (Ve 1000 _);rintro e y2 ⟨rfl,hy2⟩)
      go_wp2_with fail
      have H2:=H1.next hy2;have R2:=lh (Ac R1.out hy2);have F9_2:=F9_1.carry hy2;refine hK.out _ _ H2 (fun hHeld=>?_);clear hK K
      try simp only[Act.put,Co,Cp,Cn,Ba,Bc,Az]
      refine r1 2 (fun K hK=>?_)
      try simp only[Ba,Bc,Az]
      go_simp
      (go_at_call 129;go_split_ands;go_fit (HTIMES.out _);rintro e y3 ⟨rfl,hy3⟩)
      go_wp2_with fail
      have H3:=H2.next hy3;have R3:=lh (Ac R2.out hy3);have F9_3:=F9_2.carry hy3;refine hK.out _ _ H3 (fun hHeld=>?_);clear hK K
      try simp only[Act.put,Co,Cp,Cn,Ba,Bc,Az]
      refine tk 3 ?_;refine tk 4 ?_;refine tk 5 ?_;refine r1 7 (fun K hK=>?_);rw[if_pos (by rfl)];go_split_ands;obtain⟨f0,f1,f2,f3,f4⟩:=F9_3
      go_wp2_with fail
      refine hK.out _ _ ((H3.put hlo _).put hlo _) (fun hHeld=>?_);clear hK K
      try simp only[Act.put,Co,Cp,Cn,Ba,Bc,Az]
      refine tk 8 ?_;refine wpAnyH_done (by kernel_rfl) ?_ _
      go_wp2_with fail
      go_meet
      exact⟨B9,_,rfl,rfl,rfl,((H3.put hlo _).put hlo _).old,((H3.put hlo _).put hlo _).lo,lh ⟨FI.set ⟨f0,f1,f2,f3,f4⟩ _ _,Ge (Ge R3.out f4 hne _) (by simp;exact f4) hne _⟩⟩
    case rest=>
     obtain⟨B9,W7,rfl,rfl,rfl,hB9,hn9,hq9⟩:=hcut;have HQ9:=lh hq9.out;obtain⟨q0,q1,q2,q3,q4⟩:=hq9.out.1;clear hq9;have HBZ:=lh (HX7.out _ hB9).1;have hn7:n₀≤W7.heap.size:=by have:=HN1.out;omega
     have HCEIL:=lh (AJi N d ((Bj _ _).2 (by have:=HMS.out;have:=this.2.2.2.2;refine⟨by omega,by omega,by omega,by omega,this⟩)) W7);rw[←HMF.out]at HCEIL;have hll:L.length≤1000000:=by rw[HLL.out];omega
     clear hB9 hn9 HX7
     go_wp2_with (first
      | (go_at_call 130;go_fit HCEIL.out;rintro e w8 ⟨rfl,hb8⟩;have hB8:=HBZ.out.trans (hb8.mono hn7);have hn8:=nt hn7 hb8.size;have HR8:=lh ((Ac HQ9.out.2 hb8).alloc (.cells #[.int .i64 (msF p)] 3));have hB9:=hB8.alloc hn8 (.cells #[.int .i64 (msF p)] 3);have hn9:n₀≤(w8.alloc (.cells #[.int .i64 (msF p)] 3)).heap.size:=by simp;omega)
      | (at_builtin;refine Fe rfl _ _ rfl n₀ _ L rfl (by rw[HLL.out];exact HR8.out) _ (msF p) rfl (by simp) hll hn9 ?_;intro v2 w2 hown2 hg2;have hB2:=Hb HR8.out hg2 hB9 hn9 nr;rw[←HLS.out]at hown2;have HO2:=lh hown2;have hs2:=nt hn9 hg2.size;clear hown2 hg2))
     go_roundw
     case rel=>exact⟨k+1,by go_num,by omega,hB2,hs2,lh (by have:=HO2.out;rw[Mu]at this;exact this)⟩
     case measure=>simp[intOf];omega
  ·obtain rfl:k=s.cues.length:=by omega
   go_wp2_with fail
   go_ret;exact⟨lh ⟨_,rfl,Bn HR.out HSB.out⟩,HWW.out _ hB⟩
theorem AHc(h:Ae)(q:An)(w:World)(hh:HouseIn0 w h)(hl:h.sets.length≤1000)(hm:Ei w.heap.size w q.ma q.moves)(hml:q.moves.length≤1000):
  Calls Tryz.prog 127 #[.agg #[.string h.name,.int .i64 h.height,.slice h.sa h.sets.length h.sc,.slice h.ra h.roofs.length h.rc],.agg #[.string q.name,.string q.after,.int .i64 q.link,.int .i64 q.delay,.slice q.ma q.moves.length q.mc,.int .i64 q.crew,.int .i64 q.power]] w fun e w'=>e=.returned (.bool (Ix h q))∧Below w.heap.size w w':=by
 have hb0:Below w.heap.size w ((w.alloc (Ex h)).alloc (Eu q)):=(Aa w _).alloc (by simp) _
 have HX:Hid (∀w',Below ((w.alloc (Ex h)).alloc (Eu q)).heap.size ((w.alloc (Ex h)).alloc (Eu q)) w'→Au w' w.heap.size h∧Cx w' (w.heap.size+1) q∧HouseIn0 w' h∧Ei w'.heap.size w' q.ma q.moves):=lh fun w' z=>
  ⟨((Au.new w h _).carry (Aa _ _)).carry z,(Cx.new (w.alloc _) q _ _ (by simp)).carry z,(hh.grow hb0).grow z,(hm.grow hb0).grow z⟩
 have HW:Hid (∀w',Below ((w.alloc (Ex h)).alloc (Eu q)).heap.size ((w.alloc (Ex h)).alloc (Eu q)) w'→Below w.heap.size w w'):=lh fun w' z=>hb0.trans (z.mono hb0.size);clear hh hm hb0
 go_enter Tryz.func127,Tryz.ntmps127
 go_upto_region 1 with (fail)
 obtain⟨W0,hW0⟩:=nm (((w.alloc (Ex h)).alloc (Eu q)):World);simp only[hW0]at HX HW⊢;clear hW0;obtain⟨B1,hB1⟩:=nm (w.heap.size);obtain⟨B2,hB2⟩:=nm (w.heap.size+1);rw[hB2]at HX⊢;rw[hB1]at HX⊢;clear hB1 hB2;obtain⟨sa,hsa⟩:=nm (h.sa);obtain⟨qa,hqa⟩:=nm (q.ma);have HSA:=lh hsa;have HQA:=lh hqa;obtain⟨⟨a0,a1,a2,a3⟩,⟨c0,c1,c2,c3,c4,c5,c6⟩,-,-⟩:=HX.out _ br;rw[hsa]at a2;rw[hqa]at c4;rw[hsa,hqa];clear hsa hqa
 cases t1:Ao q.name
 case false=>
  have HZ:=lh (Fy (h:=h) (q:=q) fun z=>by have:=z.1.name;rw[this]at t1;cases t1);have T1:=lh t1;clear t1
  go_wp2_with (go_at_call 167;go_fit (Af q.name _);rintro e w1 ⟨rfl,rfl⟩;rw[T1.out])
  go_ret;exact⟨Ab HZ.out.symm,HW.out _ br⟩
 have T1:=lh t1;clear t1
 cases t2:decide (q.link<1)
 case true=>
  have HZ:=lh (Fy (h:=h) (q:=q) fun z=>by have:=z.1.link;have:=of_decide_eq_true t2;omega)
  go_wp2_with (go_at_call 167;go_fit (Af q.name _);rintro e w1 ⟨rfl,rfl⟩;rw[T1.out])
  go_ret;exact⟨Ab HZ.out.symm,HW.out _ br⟩
 cases t3:decide (3<q.link)
 case true=>
  have HZ:=lh (Fy (h:=h) (q:=q) fun z=>by have:=z.1.link;have:=of_decide_eq_true t3;omega)
  go_wp2_with (go_at_call 167;go_fit (Af q.name _);rintro e w1 ⟨rfl,rfl⟩;rw[T1.out])
  go_ret;exact⟨Ab HZ.out.symm,HW.out _ br⟩
 cases t4:decide (q.delay<0)
 case true=>
  have HZ:=lh (Fy (h:=h) (q:=q) fun z=>by have:=z.1.delay;have:=of_decide_eq_true t4;omega)
  go_wp2_with (go_at_call 167;go_fit (Af q.name _);rintro e w1 ⟨rfl,rfl⟩;rw[T1.out])
  go_ret;exact⟨Ab HZ.out.symm,HW.out _ br⟩
 cases t5:decide (2147483648<q.delay)
 case true=>
  have HZ:=lh (Fy (h:=h) (q:=q) fun z=>by have:=z.1.delay;have:=of_decide_eq_true t5;omega)
  go_wp2_with (go_at_call 167;go_fit (Af q.name _);rintro e w1 ⟨rfl,rfl⟩;rw[T1.out])
  go_ret;exact⟨Ab HZ.out.symm,HW.out _ br⟩
 cases t6:decide (q.crew<0)
 case true=>
  have HZ:=lh (Fy (h:=h) (q:=q) fun z=>by have:=z.1.crew;have:=of_decide_eq_true t6;omega)
  go_wp2_with (go_at_call 167;go_fit (Af q.name _);rintro e w1 ⟨rfl,rfl⟩;rw[T1.out])
  go_ret;exact⟨Ab HZ.out.symm,HW.out _ br⟩
 cases t7:decide (100<q.crew)
 case true=>
  have HZ:=lh (Fy (h:=h) (q:=q) fun z=>by have:=z.1.crew;have:=of_decide_eq_true t7;omega)
  go_wp2_with (go_at_call 167;go_fit (Af q.name _);rintro e w1 ⟨rfl,rfl⟩;rw[T1.out])
  go_ret;exact⟨Ab HZ.out.symm,HW.out _ br⟩
 cases t8:decide (q.power<0)
 case true=>
  have HZ:=lh (Fy (h:=h) (q:=q) fun z=>by have:=z.1.power;have:=of_decide_eq_true t8;omega)
  go_wp2_with (go_at_call 167;go_fit (Af q.name _);rintro e w1 ⟨rfl,rfl⟩;rw[T1.out])
  go_ret;exact⟨Ab HZ.out.symm,HW.out _ br⟩
 cases t9:decide (100<q.power)
 case true=>
  have HZ:=lh (Fy (h:=h) (q:=q) fun z=>by have:=z.1.power;have:=of_decide_eq_true t9;omega)
  go_wp2_with (go_at_call 167;go_fit (Af q.name _);rintro e w1 ⟨rfl,rfl⟩;rw[T1.out])
  go_ret;exact⟨Ab HZ.out.symm,HW.out _ br⟩
 have HHD:Hid (Rd q):=lh ⟨T1.out,by have:=of_decide_eq_false t2;have:=of_decide_eq_false t3;omega,by have:=of_decide_eq_false t4;have:=of_decide_eq_false t5;omega,by have:=of_decide_eq_false t6;have:=of_decide_eq_false t7;omega,by have:=of_decide_eq_false t8;have:=of_decide_eq_false t9;omega⟩
 go_upto_region 6 with (go_at_call 167;go_fit (Af q.name _);rintro e w1 ⟨rfl,rfl⟩;rw[T1.out])
 clear a0 a1 a2 a3 c0 c1 c2 c3 c4 c5 c6 t2 t3 t4 t5 t6 t7 t8 t9;have hB0:Below W0.heap.size W0 W0:=br;obtain⟨n₀,hn0⟩:=nm (W0.heap.size);rw[hn0]at HX HW hB0;have hn1:n₀≤W0.heap.size:=by omega
 clear hn0
 go_loopw [5,6,7,8] (fun iv _ _ _ wr=>∃k:Nat,iv=.int .i64 k∧k≤q.moves.length∧Below n₀ W0 wr∧n₀≤wr.heap.size∧Hid (∀i,i<k→Hf h q.moves i)) (fun iv _ _ _ _=>q.moves.length-(intOf iv).toNat)
 case atStart=>exact⟨0,rfl,nz,hB0,hn1,lh (fun _ h=>absurd h (Nat.not_lt_zero _))⟩
 case round=>
  clear hB0 hn1;obtain⟨k,rfl,hk,hB,hnw,HO⟩:=hrel;obtain⟨-,⟨c0,c1,c2,c3,c4,c5,c6⟩,-,hmv⟩:=HX.out _ hB;rw[HQA.out]at c4
  by_cases hlt:k<q.moves.length
  ·obtain⟨mb,mo,hma,hmb,hmc⟩:=hmv (by omega)
   rw[HQA.out]at hma;subst hma;obtain⟨e0,e1,e2,e3,e4⟩:=hmc k hlt;have HNO:Hid (¬Hf h q.moves k→Ix h q=false):=lh fun z=>Fy fun y=>z (y.2 k hlt)
   have HYES:Hid (Hf h q.moves k→∀i,i<k+1→Hf h q.moves i):=lh fun z i hi=>by
    rcases Nat.lt_or_eq_of_le (Nat.le_of_lt_succ hi)with l | l
    ·exact HO.out i l
    ·subst l;exact z
   obtain⟨x,hx⟩:=nm (mg q.moves k);have HMK:=lh hx;rw[hx]at e0 e1 e2 e3 e4;clear hmc hx HO hmv;have hB3:=hB.alloc hnw (.cells #[.string x.name,.int .i64 x.to,.int .i64 x.spd,.int .i64 x.rise,.int .i64 x.fall] 94);have HM3:=Jx.new wr x 94;have hn3:n₀≤(wr.alloc (.cells #[.string x.name,.int .i64 x.to,.int .i64 x.spd,.int .i64 x.rise,.int .i64 x.fall] 94)).heap.size:=by simp;omega
   have hlo:n₀≤wr.heap.size:=hnw
   go_upto_region 9 with (fail)
   clear c0 c1 c2 c3 c4 c5 c6 e0 e1 e2 e3 e4 hB hnw hmb;generalize wr.alloc (.cells #[.string x.name,.int .i64 x.to,.int .i64 x.spd,.int .i64 x.rise,.int .i64 x.fall] 94)=W3 at *;obtain⟨B6,hB6⟩:=nm (wr.heap.size);rw[hB6]at HM3 hlo⊢;clear hB6;have HM:=lh HM3;obtain⟨⟨a0,a1,a2,a3⟩,-,-,-⟩:=HX.out _ hB3;rw[HSA.out]at a2;obtain⟨m0,m1,m2,m3,m4⟩:=HM3;have HSETC:=lh (Px h x.name W3 (HX.out _ hB3).2.2.1 hl);rw[HSA.out]at HSETC;obtain⟨f,hf⟩:=nm (Cv h.sets x.name);have HF:=lh hf;clear hf
   go_upto_region 10 with (go_at_call 50;go_fit (HSETC.out);rintro e w4 ⟨rfl,hb4⟩;rw[HF.out])
   clear a0 a1 a2 a3 m0 m1 m2 m3 m4 HSETC;have HB4:=lh (hB3.trans (hb4.mono hn3));have HM4:=lh (HM.out.carry hb4);have hn4:n₀≤w4.heap.size:=nt hn3 hb4.size;clear hB3 hn3 hb4 HM;obtain⟨W3,hW3⟩:=nm (w4);rw[hW3]at HB4 HM4 hn4⊢;clear hW3;obtain⟨n₁,hn1⟩:=nm (W3.heap.size);have hH0:Below n₁ W3 W3:=by rw[←hn1];exact br
   have HY:Hid (∀w',Below n₁ W3 w'→Below n₀ W0 w'∧Au w' B1 h∧Cx w' B2 q∧HouseIn0 w' h∧Ei w'.heap.size w' q.ma q.moves∧Jx w' B6 x):=lh fun w' z=>by
    rw[←hn1]at z;have y:=HB4.out.trans (z.mono hn4);obtain⟨y1,y2,y3,y4⟩:=HX.out w' y;exact⟨y,y1,y2,y3,y4,HM4.out.carry z⟩
   have hnn:n₁≤W3.heap.size:=by omega
   have HN1:Hid (n₀≤n₁):=lh (by omega);clear hn1 hn4 HM4 HB4;have hHeld0:Below n₁ W3 W3.drew:=hH0.drew;have x0:∀w',Below n₁ W3 w'→w'.cell? ⟨B6,0,none⟩=some (.string x.name):=fun w' z=>(HY.out w' z).2.2.2.2.2.1;have x1:∀w',Below n₁ W3 w'→w'.cell? ⟨B6,1,none⟩=some (.int .i64 x.to):=fun w' z=>(HY.out w' z).2.2.2.2.2.2.1;have x2:∀w',Below n₁ W3 w'→w'.cell? ⟨B6,2,none⟩=some (.int .i64 x.spd):=fun w' z=>(HY.out w' z).2.2.2.2.2.2.2.1;have x3:∀w',Below n₁ W3 w'→w'.cell? ⟨B6,3,none⟩=some (.int .i64 x.rise):=fun w' z=>(HY.out w' z).2.2.2.2.2.2.2.2.1;have x4:∀w',Below n₁ W3 w'→w'.cell? ⟨B6,4,none⟩=some (.int .i64 x.fall):=fun w' z=>(HY.out w' z).2.2.2.2.2.2.2.2.2;have xs:∀w',Below n₁ W3 w'→w'.cell? ⟨B1,2,none⟩=some (.slice sa h.sets.length h.sc):=fun w' z=>by rw[←HSA.out];exact(HY.out w' z).2.1.2.2.1
   cases hv:Ct x
   case false=>
    have HZ:=lh (HNO.out fun z=>by have:=z.1;rw[HMK.out,hv]at this;cases this);have HV:=lh hv;clear hv;refine wp_region_held_drew (S:=(Below n₁ W3)) (by kernel_rfl) (hHeld0) (fun hHeld=>?_);refine tk 0 ?_;refine r1 1 (fun K hK=>?_)
    try simp only[Ba,Bc,Az]
    go_simp
    (go_at_call 170;go_split_ands;go_fit (Hq x _);rintro e w5 ⟨rfl,hb5⟩;rw[HV.out];have hH5:=hHeld.trans (hb5.mono (by have:=hHeld.size;omega)))
    go_wp2_with fail
    refine hK.out _ _ (hH5) (fun hHeld=>?_);clear hK K
    try simp only[Act.put,Co,Cp,Cn,Ba,Bc,Az]
    refine tk 2 ?_;refine tk 3 ?_;refine sk 4 ?_;refine sk 5 ?_;refine tk 6 ?_;refine tk 7 ?_;refine sk 8 ?_;refine sk 9 ?_;refine sk 10 ?_;refine sk 11 ?_;refine sk 12 ?_;refine sk 13 ?_;refine sk 14 ?_;refine sk 15 ?_;refine sk 16 ?_;refine tk 17 ?_;refine tk 18 ?_;refine sk 19 ?_;refine sk 20 ?_;refine sk 21 ?_;refine sk 22 ?_;refine sk 23 ?_;refine sk 24 ?_;refine sk 25 ?_;refine sk 26 ?_;refine sk 27 ?_;refine tk 28 ?_;refine wpAnyH_done (by kernel_rfl) ?_ _
    go_wp2_with fail
    go_ret;exact⟨Ab HZ.out.symm,HW.out _ (HY.out _ hH5).1⟩
   have HV:=lh hv;clear hv
   by_cases hf0:f<0
   ·have HZ:=lh (HNO.out fun z=>by have:=z.2.1;rw[HMK.out,HF.out]at this;omega)
    have g1:decide (f<0)=true:=dT hf0;clear hf0;refine wp_region_held_drew (S:=(Below n₁ W3)) (by kernel_rfl) (hHeld0) (fun hHeld=>?_);refine tk 0 ?_;refine r1 1 (fun K hK=>?_)
    try simp only[Ba,Bc,Az]
    go_simp
    (go_at_call 170;go_split_ands;go_fit (Hq x _);rintro e w5 ⟨rfl,hb5⟩;rw[HV.out];have hH5:=hHeld.trans (hb5.mono (by have:=hHeld.size;omega)))
    go_wp2_with fail
    refine hK.out _ _ (hH5) (fun hHeld=>?_);clear hK K
    try simp only[Act.put,Co,Cp,Cn,Ba,Bc,Az]
    refine tk 2 ?_;refine tk 3 ?_;refine tk 4 ?_;refine tk 5 ?_;refine tk 6 ?_;refine tk 7 ?_;refine sk 8 ?_;refine sk 9 ?_;refine sk 10 ?_;refine sk 11 ?_;refine sk 12 ?_;refine sk 13 ?_;refine sk 14 ?_;refine sk 15 ?_;refine sk 16 ?_;refine tk 17 ?_;refine tk 18 ?_;refine sk 19 ?_;refine sk 20 ?_;refine sk 21 ?_;refine sk 22 ?_;refine sk 23 ?_;refine sk 24 ?_;refine sk 25 ?_;refine sk 26 ?_;refine sk 27 ?_;refine tk 28 ?_;refine wpAnyH_done (by kernel_rfl) ?_ _
    go_wp2_with fail
    go_ret;exact⟨Ab HZ.out.symm,HW.out _ (HY.out _ hH5).1⟩
   have hfl:f.toNat<h.sets.length:=by have:=(Jb (h:=h) (s:=x.name) (by rw[HF.out];omega)).1;rw[HF.out]at this;exact this
   obtain⟨fn,hfn⟩:∃n:Nat,f=n:=⟨f.toNat,by omega⟩;rw[hfn]at HF⊢;have g1:decide ((fn:Int)<0)=false:=dF (by omega);have hfl:fn<h.sets.length:=by omega
   clear hf0 hfn;obtain⟨sb,so,hs1,-,-⟩:=(HY.out _ hH0).2.2.2.1.sets (by omega);rw[HSA.out]at hs1;subst hs1;obtain⟨y,hy⟩:=nm (hg h.sets fn);have HGY:=lh hy
   have xy:∀w',Below n₁ W3 w'→w'.cell? ⟨sb,so+fn*13+2,none⟩=some (.int .i64 y.low)∧w'.cell? ⟨sb,so+fn*13+3,none⟩=some (.int .i64 y.high):=fun w' z=>by
    obtain⟨sb',so',e,-,ex⟩:=(HY.out w' z).2.2.2.1.sets (by omega);rw[HSA.out]at e
    cases e
    have:=ex fn hfl;rw[HGY.out]at this;exact⟨this.2.2.1,this.2.2.2.1⟩
   have y1:=fun w' z=>(xy w' z).1;have y2:=fun w' z=>(xy w' z).2;have HSM:Hid (AAn h x=y):=lh (by unfold AAn;rw[HF.out];exact HGY.out);have g6:(fn:Int)<(h.sets.length:Int):=by omega
   have g7:0≤(fn:Int):=by omega
   clear xy hy
   by_cases hlw:x.to<y.low
   ·have HZ:=lh (HNO.out fun z=>by have:=z.2.2.1;rw[HMK.out,HSM.out]at this;omega)
    have g2:decide (x.to<y.low)=true:=dT hlw;clear hlw;refine wp_region_held_drew (S:=(Below n₁ W3)) (by kernel_rfl) (hHeld0) (fun hHeld=>?_);refine tk 0 ?_;refine r1 1 (fun K hK=>?_)
    try simp only[Ba,Bc,Az]
    go_simp
    (go_at_call 170;go_split_ands;go_fit (Hq x _);rintro e w5 ⟨rfl,hb5⟩;rw[HV.out];have hH5:=hHeld.trans (hb5.mono (by have:=hHeld.size;omega)))
    go_wp2_with fail
    refine hK.out _ _ (hH5) (fun hHeld=>?_);clear hK K
    try simp only[Act.put,Co,Cp,Cn,Ba,Bc,Az]
    refine tk 2 ?_;refine tk 3 ?_;refine tk 4 ?_;refine tk 5 ?_;refine tk 6 ?_;refine tk 7 ?_;refine tk 8 ?_;refine tk 9 ?_;refine tk 10 ?_;refine tk 11 ?_;refine tk 12 ?_;refine tk 13 ?_;refine tk 14 ?_;refine tk 15 ?_;refine tk 16 ?_;refine tk 17 ?_;refine tk 18 ?_;refine sk 19 ?_;refine sk 20 ?_;refine sk 21 ?_;refine sk 22 ?_;refine sk 23 ?_;refine sk 24 ?_;refine sk 25 ?_;refine sk 26 ?_;refine sk 27 ?_;refine tk 28 ?_;refine wpAnyH_done (by kernel_rfl) ?_ _
    go_wp2_with fail
    go_ret;exact⟨Ab HZ.out.symm,HW.out _ (HY.out _ hH5).1⟩
   have g2:decide (x.to<y.low)=false:=dF hlw
   by_cases hhg:y.high<x.to
   ·have HZ:=lh (HNO.out fun z=>by have:=z.2.2.2.1;rw[HMK.out,HSM.out]at this;omega)
    have g3:decide (y.high<x.to)=true:=dT hhg;clear hlw hhg;refine wp_region_held_drew (S:=(Below n₁ W3)) (by kernel_rfl) (hHeld0) (fun hHeld=>?_);refine tk 0 ?_;refine r1 1 (fun K hK=>?_)
    try simp only[Ba,Bc,Az]
    go_simp
    (go_at_call 170;go_split_ands;go_fit (Hq x _);rintro e w5 ⟨rfl,hb5⟩;rw[HV.out];have hH5:=hHeld.trans (hb5.mono (by have:=hHeld.size;omega)))
    go_wp2_with fail
    refine hK.out _ _ (hH5) (fun hHeld=>?_);clear hK K
    try simp only[Act.put,Co,Cp,Cn,Ba,Bc,Az]
    refine tk 2 ?_;refine tk 3 ?_;refine tk 4 ?_;refine tk 5 ?_;refine tk 6 ?_;refine tk 7 ?_;refine tk 8 ?_;refine tk 9 ?_;refine tk 10 ?_;refine tk 11 ?_;refine tk 12 ?_;refine tk 13 ?_;refine tk 14 ?_;refine tk 15 ?_;refine tk 16 ?_;refine tk 17 ?_;refine tk 18 ?_;refine tk 19 ?_;refine tk 20 ?_;refine tk 21 ?_;refine tk 22 ?_;refine tk 23 ?_;refine tk 24 ?_;refine tk 25 ?_;refine tk 26 ?_;refine tk 27 ?_;refine tk 28 ?_;refine wpAnyH_done (by kernel_rfl) ?_ _
    go_wp2_with fail
    go_ret;exact⟨Ab HZ.out.symm,HW.out _ (HY.out _ hH5).1⟩
   have g3:decide (y.high<x.to)=false:=dF hhg;have HIN:Hid (Ct (mg q.moves k)=true∧0≤Cv h.sets (mg q.moves k).name∧(AAn h (mg q.moves k)).low≤(mg q.moves k).to∧(mg q.moves k).to≤(AAn h (mg q.moves k)).high):=lh (by rw[HMK.out,HSM.out,HF.out];exact⟨HV.out,by omega,by omega,by omega⟩);clear hlw hhg;refine wp_region_held_drew (S:=(Below n₁ W3)) (by kernel_rfl) (hHeld0) (fun hHeld=>?_);refine tk 0 ?_;refine r1 1 (fun K hK=>?_)
   try simp only[Ba,Bc,Az]
   go_simp
   (go_at_call 170;go_split_ands;go_fit (Hq x _);rintro e w5 ⟨rfl,hb5⟩;rw[HV.out];have hH5:=hHeld.trans (hb5.mono (by have:=hHeld.size;omega)))
   go_wp2_with fail
   refine hK.out _ _ (hH5) (fun hHeld=>?_);clear hK K
   try simp only[Act.put,Co,Cp,Cn,Ba,Bc,Az]
   refine tk 2 ?_;refine tk 3 ?_;refine tk 4 ?_;refine tk 5 ?_;refine tk 6 ?_;refine tk 7 ?_;refine tk 8 ?_;refine tk 9 ?_;refine tk 10 ?_;refine tk 11 ?_;refine tk 12 ?_;refine tk 13 ?_;refine tk 14 ?_;refine tk 15 ?_;refine tk 16 ?_;refine tk 17 ?_;refine tk 18 ?_;refine tk 19 ?_;refine tk 20 ?_;refine tk 21 ?_;refine tk 22 ?_;refine tk 23 ?_;refine tk 24 ?_;refine tk 25 ?_;refine tk 26 ?_;refine tk 27 ?_;refine tk 28 ?_;refine wpAnyH_done (by kernel_rfl) ?_ _
   go_upto_region 13 with (fail)
   clear x0 x1 x2 x3 x4 xs y1 y2 g1 g2 g3 g6 g7 hHeld hHeld0
   go_loopw [8] (fun jv wx=>∃j:Nat,jv=.int .i64 j∧j≤k∧Below n₁ W3 wx∧Hid (∀i,i<j→(mg q.moves i).name≠x.name)) (fun jv _=>k-(intOf jv).toNat)
   case atStart=>exact⟨0,rfl,nz,hH5,lh (fun _ h=>absurd h (Nat.not_lt_zero _))⟩
   case round=>
    clear hH5;obtain⟨j,rfl,hj,hBx,HJ⟩:=hrel
    by_cases hjt:j<k
    ·obtain⟨-,-,⟨c0,c1,c2,c3,c4,c5,c6⟩,-,hmv,⟨m0,-,-,-,-⟩⟩:=HY.out _ hBx
     rw[HQA.out]at c4 hmv;obtain⟨mb',mo',e,-,hmc⟩:=hmv (by omega)
     cases e
     obtain⟨e0,-,-,-,-⟩:=hmc j (by omega);have hse:=Dj (mg q.moves j).name x.name;have j0:0≤(j:Int):=by omega
     have j1:(j:Int)<(q.moves.length:Int):=by omega
     clear hmc hmv
     by_cases he:(mg q.moves j).name=x.name
     ·have HZ:=lh (HNO.out fun z=>z.2.2.2.2 j hjt (by rw[HMK.out];exact he))
      rw[dT he]at hse;clear he
      go_wp2_with (go_quiet (fail))
      go_ret;exact⟨Ab HZ.out.symm,HW.out _ (HY.out _ (Aj hBx _)).1⟩
     ·have HJ2:Hid (∀i,i<j+1→(mg q.moves i).name≠x.name):=lh fun i hi=>by
       rcases Nat.lt_or_eq_of_le (Nat.le_of_lt_succ hi)with l | l
       ·exact HJ.out i l
       ·subst l;exact he
      rw[dF he]at hse;clear he
      go_wp2_with (go_quiet (fail))
      go_roundw
      case rel=>exact⟨j+1,by go_num,by omega,Aj hBx _,HJ2⟩
      case measure=>simp[intOf];omega
    ·obtain rfl:j=k:=by omega
     have HALL:=lh (HYES.out ⟨HIN.out.1,HIN.out.2.1,HIN.out.2.2.1,HIN.out.2.2.2,by rw[HMK.out];exact HJ.out⟩);have hBR:=(HY.out _ hBx).1;have hnR:n₀≤wr.heap.size:=by have:=hBx.size;have:=HN1.out;omega
     go_wp2_with fail
     go_roundw
     case rel=>exact⟨j+1,by go_num,by omega,hBR,hnR,HALL⟩
     case measure=>simp[intOf];omega
  ·obtain rfl:k=q.moves.length:=by omega
   have HZ:=lh (Ef.2 ⟨HHD.out,HO.out⟩);clear hmv
   go_wp2_with fail
   go_ret;exact⟨Ab HZ.out.symm,HW.out _ hB⟩
end
end Go.Proofs.YtebofaenlhhkaaaGreat
