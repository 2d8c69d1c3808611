/-
  PLAIN: the order of a sheet as it is made, the chain of a cue as it is made.
-/
import Derived.Test.YtebofaenlhhkaaaGreatU25
namespace Go.Proofs.YtebofaenlhhkaaaGreat
set_option maxRecDepth 100000
set_option maxHeartbeats 80000000
set_option linter.unusedSimpArgs false
section
theorem pigeon(n:Nat):∀l:List Int,l.Nodup→(∀x∈l,0≤x∧x<n)→l.length≤n:=by
 induction n with
 | zero=>
  intro l _ h
  cases l with
  | nil=>exact Nat.le_refl _
  | cons x r=>have:=h x List.mem_cons_self;omega
 | succ n ih=>
  intro l hn h
  have h1:=ih (l.erase (n:Int)) (hn.erase _) fun x hx=>by
   have hm:=(List.Nodup.mem_erase_iff hn).1 hx;have:=h x hm.2;have hne:=hm.1;omega
  have h2:l.length≤(l.erase (n:Int)).length+1:=by
   rw[List.length_erase]
   split<;>omega
  omega

def HangOK(hs:List Int):Prop:=∀k,k<hs.length→-1≤ig hs k∧ig hs k<hs.length

/-! ### The chain -/
def chainF(hs:List Int):Nat→List Int→Int→List Int×Bool
 | 0,out,_=>(out,false)
 | f+1,out,i=>if i<0 then(out,true)else if i∈out then(out,false)else chainF hs f (out++[i]) (ig hs i.toNat)
def chainP(hs:List Int)(i:Int):List Int×Bool:=chainF hs (hs.length+1) [] i
theorem snoc_nodup{out:List Int}{i:Int}(h:out.Nodup)(hi:i∉out):(out++[i]).Nodup:=by
 rw[List.nodup_append];refine⟨h,List.pairwise_singleton _ _,fun a ha b hb=>?_⟩;obtain rfl:b=i:=by simpa using hb
 exact fun e=>hi (e▸ha)
theorem snoc_in{n:Nat}{out:List Int}{i:Int}(h:∀x∈out,0≤x∧x<(n:Int))(h0:0≤i)(h1:i<n):∀x∈out++[i],0≤x∧x<(n:Int):=by
 intro x hx;rcases List.mem_append.1 hx with h' | h'
 ·exact h x h'
 ·obtain rfl:x=i:=by simpa using h'
  exact⟨h0,h1⟩
structure ChainAt(hs:List Int)(i0:Int)(out:List Int)(i:Int):Prop where
 nd:out.Nodup
 inn:∀x∈out,0≤x∧x<(hs.length:Int)
 lo:-1≤i
 hi:i<hs.length
 eq:chainF hs (hs.length+1-out.length) out i=chainP hs i0
namespace ChainAt
variable {hs out:List Int} {i0 i:Int}
theorem start(h0:-1≤i0)(h1:i0<hs.length):ChainAt hs i0 [] i0:=⟨List.Pairwise.nil,(fun _ h=>by cases h),h0,h1,rfl⟩
theorem len(h:ChainAt hs i0 out i):out.length≤hs.length:=pigeon _ _ h.nd h.inn
theorem fuel(h:ChainAt hs i0 out i):∃f,hs.length+1-out.length=f+1∧hs.length-out.length=f:=by
 have:=h.len;exact⟨hs.length-out.length,by omega,rfl⟩
theorem ends(h:ChainAt hs i0 out i)(hi:i<0):chainP hs i0=(out,true):=by
 obtain⟨f,e,_⟩:=h.fuel;rw[←h.eq,e];simp only[chainF];rw[if_pos hi]
theorem back(h:ChainAt hs i0 out i)(h0:¬i<0)(hi:i∈out):chainP hs i0=(out,false):=by
 obtain⟨f,e,_⟩:=h.fuel;rw[←h.eq,e];simp only[chainF];rw[if_neg h0,if_pos hi]
theorem next(h:ChainAt hs i0 out i)(hk:HangOK hs)(h0:¬i<0)(hi:i∉out):ChainAt hs i0 (out++[i]) (ig hs i.toNat):=by
 obtain⟨f,e,e2⟩:=h.fuel;have hb:=hk i.toNat (by have:=h.hi;omega);refine⟨snoc_nodup h.nd hi,snoc_in h.inn (by omega) h.hi,hb.1,hb.2,?_⟩;rw[←h.eq,e];simp only[chainF];rw[if_neg h0,if_neg hi,List.length_append,List.length_singleton,show hs.length+1-(out.length+1)=f by omega]
end ChainAt
/-! ### The order -/
def readyB(hs:List Int)(out:List Int)(i:Nat):Bool:=!decide ((i:Int)∈out)&&(decide (ig hs i<0)||decide (ig hs i∈out))
def nextO(hs out:List Int):Option Nat:=(List.range hs.length).find? (readyB hs out)
def ordF(hs:List Int):Nat→List Int→List Int
 | 0,out=>out
 | f+1,out=>match nextO hs out with
  | none=>out
  | some k=>ordF hs f (out++[(k:Int)])
def ordP(hs:List Int):List Int:=ordF hs hs.length []
theorem next_none{hs out:List Int}(h:∀i,i<hs.length→readyB hs out i=false):nextO hs out=none:=by
 unfold nextO;rw[List.find?_eq_none];intro x hx
 simpa using h x (by simpa using hx)
theorem next_some{hs out:List Int}(k:Nat)(hk:k<hs.length)(h:readyB hs out k=true)(hn:∀i,i<k→readyB hs out i=false):nextO hs out=some k:=by
 unfold nextO;rw[List.find?_eq_some_iff_getElem];refine⟨by simpa using h,k,by simpa using hk,by simp,fun j hj=>?_⟩
 simpa using hn j hj
theorem next_of{hs out:List Int}{k:Nat}(h:nextO hs out=some k):k<hs.length∧readyB hs out k=true∧∀i,i<k→readyB hs out i=false:=by
 unfold nextO at h;rw[List.find?_eq_some_iff_getElem]at h;obtain⟨h1,i,hi,e,h2⟩:=h;have hi':i<hs.length:=by simpa using hi
 obtain rfl:i=k:=by simpa using e
 exact⟨hi',by simpa using h1,fun j hj=>by simpa using h2 j hj⟩
theorem ordF_none{hs out:List Int}(h:nextO hs out=none)(f:Nat):ordF hs f out=out:=by
 cases f with
 | zero=>rfl
 | succ f=>simp only[ordF];rw[h]
structure OrdAt(hs out:List Int):Prop where
 nd:out.Nodup
 inn:∀x∈out,0≤x∧x<(hs.length:Int)
 eq:ordF hs (hs.length-out.length) out=ordP hs
namespace OrdAt
variable {hs out:List Int}
theorem start(hs:List Int):OrdAt hs []:=⟨List.Pairwise.nil,(fun _ h=>by cases h),rfl⟩
theorem len(h:OrdAt hs out):out.length≤hs.length:=pigeon _ _ h.nd h.inn
theorem ready_not{k:Nat}(h:readyB hs out k=true):(k:Int)∉out:=by
 unfold readyB at h;simp only[Bool.and_eq_true,Bool.not_eq_true',decide_eq_false_iff_not]at h;exact h.1
theorem ends(h:OrdAt hs out)(hn:nextO hs out=none):ordP hs=out:=by rw[←h.eq];exact ordF_none hn _
theorem next(h:OrdAt hs out)(k:Nat)(hn:nextO hs out=some k):OrdAt hs (out++[(k:Int)])∧out.length<hs.length:=by
 obtain⟨hk,hr,_⟩:=next_of hn;have h1:=snoc_nodup h.nd (ready_not hr);have h2:=snoc_in h.inn (Int.natCast_nonneg k) (by omega);have h3:=pigeon _ _ h1 h2;rw[List.length_append,List.length_singleton]at h3;refine⟨⟨h1,h2,?_⟩,by omega⟩;rw[←h.eq,List.length_append,List.length_singleton,show hs.length-out.length=(hs.length-(out.length+1))+1 by omega];simp only[ordF];rw[hn]
end OrdAt
def doneL(n:Nat)(out:List Int):List Bool:=(List.range n).map fun i:Nat=>decide ((i:Int)∈out)
theorem doneL_len(n:Nat)(out:List Int):(doneL n out).length=n:=by simp[doneL]
theorem doneL_at(n:Nat)(out:List Int)(i:Nat)(h:i<n):btg (doneL n out) i=decide ((i:Int)∈out):=by
 unfold btg doneL;rw[List.getElem?_map,List.getElem?_range h]
 rfl
theorem doneL_set(n:Nat)(out:List Int)(k:Nat):(bflat (doneL n out)).set k (.bool true)=bflat (doneL n (out++[(k:Int)])):=by
 have e:∀l:List Bool,bflat l=l.map Value.bool:=fun l=>by
  induction l with
  | nil=>rfl
  | cons x r ih=>rw[List.map_cons,←ih];rfl
 rw[e,e];unfold doneL;refine List.ext_getElem? fun i=>?_;rw[List.getElem?_set];simp only[List.length_map,List.length_range,List.getElem?_map]
 by_cases h:k=i
 ·subst h
  by_cases hk:k<n
  ·simp[hk]
  ·simp[hk]
 ·rw[if_neg h]
  by_cases hi:i<n
  ·rw[List.getElem?_range hi]
   have:¬((i:Int)=(k:Int)):=by omega
   simp[this]
  ·rw[List.getElem?_eq_none (by simpa using hi)];rfl
theorem doneL_nil(n:Nat):bflat (doneL n [])=List.replicate n (.bool false):=by
 induction n with
 | zero=>rfl
 | succ n ih=>
  have e:doneL (n+1) []=doneL n []++[false]:=by unfold doneL;rw[List.range_succ,List.map_append];rfl
  rw[e,bflat_snoc,ih,List.replicate_succ']
theorem hang_ok(L:List CueR):HangOK (hangs L):=by
 intro k hk;rw[hangs_len]at hk⊢
 have e:ig (hangs L) k=hangI L k:=by
  unfold ig hangs hangsTo;rw[List.getElem?_map,List.getElem?_range hk]
  rfl
 rw[e];unfold hangI
 split
 ·omega
 ·rcases cue_first_cases L (fun r=>decide (r.name=(cg L k).after))with ⟨e1,_⟩ | ⟨j,hj,e1,_⟩
  ·have e1':findI L (cg L k).after=-1:=e1
   omega
  ·have e1':findI L (cg L k).after=j:=e1
   omega
theorem hangs_at(L:List CueR)(k:Nat)(hk:k<L.length):ig (hangs L) k=hangI L k:=by
 unfold ig hangs hangsTo;rw[List.getElem?_map,List.getElem?_range hk]
 rfl
end
section
open Go.RowKit Go.Shelf
theorem bit_info:(Tryz.prog.info? 4).map (fun i=>(i.zero,i.size,i.bytes))=some (some (.bool false),1,1):=by kernel_rfl
theorem made_false(n:Nat):(madeCells (Value.bool false).cells (n*1)).toList=bflat (doneL n []):=by
 rw[doneL_nil,Nat.mul_one]
 apply List.ext_getElem?
 intro j
 by_cases hj:j<n
 ·simp[madeCells,Value.cells,hj,Nat.mod_one]
 ·simp[madeCells,Value.cells,hj]
theorem bit_at{w:World}{base g n cap:Nat}{out:List Int}(h:w.ownsRow base 4 1 (.slice (some ⟨g,0,none⟩) n cap) n (bflat (doneL n out)))(i:Nat)(hi:i<n):w.cell? ⟨g,i,none⟩=some (.bool (decide ((i:Int)∈out))):=by
 rw[h.cellAt i (by omega),bflat_at _ _ (by rw[doneL_len];exact hi),doneL_at n out i hi]
theorem ready_in{hs out:List Int}{j:Nat}(h:(j:Int)∈out):readyB hs out j=false:=by unfold readyB;rw[decide_eq_true h];rfl
theorem ready_neg{hs out:List Int}{j:Nat}(h:(j:Int)∉out)(h2:ig hs j<0):readyB hs out j=true:=by unfold readyB;rw[decide_eq_false h,decide_eq_true h2];rfl
theorem ready_done{hs out:List Int}{j m:Nat}(h:(j:Int)∉out)(h2:ig hs j=m)(h3:(m:Int)∈out):readyB hs out j=true:=by unfold readyB;rw[decide_eq_false h,h2,decide_eq_true h3,Bool.or_true];rfl
theorem ready_no{hs out:List Int}{j m:Nat}(h2:ig hs j=m)(h3:(m:Int)∉out):readyB hs out j=false:=by unfold readyB;rw[h2,decide_eq_false h3,dF (show ¬(m:Int)<0 by omega)];simp

theorem order_any(ca pa:Option Addr)(L:List CueR)(A:List (ByteArray×ByteArray))(cc pc:Nat)(w:World)(hlen:L.length≤1000)(hI:Cues w.heap.size w ca L):
  Calls Tryz.prog 115 #[.agg #[.slice ca L.length cc,.slice pa A.length pc]] w fun e w'=>Hid (∃v,e=.returned v∧w'.ownsRow w.heap.size 3 1 v (ordP (hangs L)).length (nflat (ordP (hangs L)))∧Below w.heap.size w w'):=by
 have hb0:Below w.heap.size w (w.alloc (.cells #[.slice ca L.length cc,.slice pa A.length pc] 29)):=below_new w _;have HI:=lh (hI.grow hb0);clear hI;have HM:Hid (∀wr,Below (w.alloc (.cells #[.slice ca L.length cc,.slice pa A.length pc] 29)).heap.size (w.alloc (.cells #[.slice ca L.length cc,.slice pa A.length pc] 29)) wr→Below w.heap.size w wr):=lh fun wr h=>mono_in _ h;have hz0:w.heap.size≤(w.alloc (.cells #[.slice ca L.length cc,.slice pa A.length pc] 29)).heap.size:=hb0.size;obtain⟨i0,hi,hz1,hz2,hz3⟩:=info_parts bit_info;obtain⟨hs,HH⟩:∃hs,Hid (hangs L=hs):=⟨_,lh rfl⟩;have HK:Hid (HangOK hs):=lh (by rw[←HH.out];exact hang_ok L);have hhl:hs.length≤1000:=by rw[←HH.out,hangs_len];exact hlen
 clear hb0
 go_enter Tryz.func115,Tryz.ntmps115
 go_wp2_with (first
  | (go_at_call 161;(with_reducible refine(before_any _ _ L A _ _ _ (by omega) HI.out).mono ?_);rintro e w1 hx;obtain⟨v1,rfl,hr1,hb1⟩:=hx.out;rw[HH.out]at hr1;obtain⟨a1,c1,rfl,_,_,_,hn1⟩:=num_of_row hr1;have HN1:=lh hn1;clear hx hr1 hn1)
  | (at_make;refine wpList_make_full _ rfl _ _ 217 rfl w1.heap.size 4 i0 (.bool false) 1 Tryz.underlying217 hi hz1 hz2 _ _ _ _ (hs).length rfl rfl rfl rfl (by rw[hz3];omega) (by unfold maxLen;omega) (Nat.le_refl _) ?_;intro w2 hown2 hg2;have HD2:=lh (show w2.ownsRow w1.heap.size 4 1 (.slice (some ⟨w1.heap.size,0,none⟩) (hs).length (hs).length) (hs).length (bflat (doneL (hs).length []))by rw[←made_false];exact hown2);clear hown2))
 generalize w.alloc (.cells #[.slice ca L.length cc,.slice pa A.length pc] 29)=W0 at *;have hB2:Below W0.heap.size W0 w2:=hb1.grown hg2 hb1.size (fun k e=>by cases e);have hbs1:=hb1.size;have hw1:w1.heap.size<w2.heap.size:=(HD2.out.lt _ rfl).2;have HN2:Hid (Nums w1.heap.size w2 a1 hs):=lh (HN1.out.below ((br).grown hg2 (Nat.le_refl _) (fun k e=>by cases e)));clear HN1 hg2 HI hb1
 go_loopw [5] (fun v wr=>∃out:List Int,Hid (OrdAt hs out)∧Hid (∃a' c',v=.slice a' out.length c')∧Hid (wr.ownsRow w2.heap.size 3 1 v out.length (nflat out))∧Hid (wr.ownsRow w1.heap.size 4 1 (.slice (some ⟨w1.heap.size,0,none⟩) hs.length hs.length) hs.length (bflat (doneL hs.length out)))∧Hid (Nums w1.heap.size wr a1 hs)∧Below W0.heap.size W0 wr∧w2.heap.size≤wr.heap.size) (fun v _=>(match v with | .slice _ n _=>hs.length+1-n | _=>0))
 case atStart=>exact⟨[],lh (OrdAt.start hs),lh ⟨_,_,rfl⟩,lh (World.ownsRow_nil _ _ _ _),HD2,HN2,hB2,Nat.le_refl _⟩
 case round=>
  clear HD2 HN2 hB2;obtain⟨out,HO,HV,HR,HD,HN,hB,hws⟩:=hrel;obtain⟨a',c',rfl⟩:=HV.out;have hol:=HO.out.len
  go_wp2_with fail
  obtain⟨wo,rfl⟩:∃wo:World,wo=wr:=⟨_,rfl⟩
  go_loop [6,16] (fun kv i=>kv=.int .i64 (-1)∧∃j:Nat,j≤hs.length∧i=.int .i64 j∧Hid (∀x,x<j→readyB hs out x=false)) (fun _ i=>hs.length-(intOf i).toNat)
  case atStart=>exact⟨rfl,0,Nat.zero_le _,rfl,lh fun _ h=>absurd h (Nat.not_lt_zero _)⟩
  case round=>
   obtain⟨rfl,j,hj,rfl,HA⟩:=hrel
   by_cases hlt:j<hs.length
   ·obtain⟨b,off,rfl,hbl,hc⟩:=HN.out (by omega)
    have d0:=hc j hlt;have dj:=bit_at HD.out j hlt;have hkj:=HK.out j hlt;have hjw:w1.heap.size<wo.heap.size:=by omega
    clear hc
    have HAN:Hid (readyB hs out j=false→Hid (∀x,x<j+1→readyB hs out x=false)):=lh fun h=>lh fun x hx=>by
     rcases Nat.lt_or_ge x j with l | l
     ·exact HA.out x l
     ·obtain rfl:x=j:=by omega
      exact h
    by_cases hjo:(j:Int)∈out
    ·rw[decide_eq_true hjo]at dj
     have HAJ:=HAN.out (ready_in hjo);clear hjo
     go_wp2_with fail
     go_round
     case rel=>exact⟨rfl,j+1,by omega,by go_num,HAJ⟩
     case measure=>simp[intOf];omega
    ·rw[decide_eq_false hjo]at dj
     have hst:=HD.out.stored j (.bool true);rw[doneL_set]at hst;have HST:=lh hst.1;have hfz:=HD.out.frozenAt j;have HNX:Hid (readyB hs out j=true→OrdAt hs (out++[(j:Int)])∧out.length<hs.length):=lh fun h=>HO.out.next j (next_some j hlt h HA.out);have HRS:=lh (ownsRow_setCell_below HR.out (a:=⟨w1.heap.size,j,none⟩) hw1 (.bool true));have hBs:Below w1.heap.size wo (wo.setCell ⟨w1.heap.size,j,none⟩ (.bool true)):=(br).setCell (show w1.heap.size≤(⟨w1.heap.size,j,none⟩:Addr).block from Nat.le_refl _) _;have HBS:=lh hBs;have HHN:=lh hjo;clear hst hBs
     by_cases hneg:ig hs j<0
     ·have HR1:=lh (HNX.out (ready_neg hjo hneg))
      clear hjo
      go_wp2_with (at_builtin;refine num_append rfl _ _ rfl w2.heap.size _ out rfl (HRS.out.alloc _) _ (j:Int) rfl (new_set _ _ _ _ _) (by omega) (by first | omega | (simp;omega)) ?_;intro v3 w3 hown3 hg3)
      have hBn:Below w1.heap.size wo w3:=grown_own (HRS.out.alloc _) hg3 (HBS.out.alloc (by first | omega | (simp;omega)) _) (by first | omega | (simp;omega)) (by omega)
      have HDn:=lh ((HST.out.alloc _).kept hg3 (.inr (by
       intro e;have:w2.heap.size≤w1.heap.size:=(HRS.out.lt _ e.symm).1;omega)))
      go_roundw
      case rel=>exact⟨_,lh HR1.out.1,lh (by obtain⟨a3,c3,e,_⟩:=num_of_row hown3;exact⟨a3,c3,e⟩),lh hown3,HDn,lh (HN.out.below hBn),hB.trans (hBn.mono hbs1),by have:=hBn.size;omega⟩
      case measure=>
       have:=HR1.out.2;obtain⟨a3,c3,e,_⟩:=num_of_row hown3;rw[e]
       simp
       omega
     ·obtain⟨m,hm⟩:∃m:Nat,ig hs j=m:=⟨(ig hs j).toNat,by omega⟩
      have hmb:m<hs.length:=by omega
      have dm:=bit_at HD.out m (by omega)
      by_cases hmo:(m:Int)∈out
      ·rw[decide_eq_true hmo]at dm
       have HR1:=lh (HNX.out (ready_done hjo hm hmo));rw[hm]at d0;clear hjo hmo hm hneg
       go_wp2_with (at_builtin;refine num_append rfl _ _ rfl w2.heap.size _ out rfl (HRS.out.alloc _) _ (j:Int) rfl (new_set _ _ _ _ _) (by omega) (by first | omega | (simp;omega)) ?_;intro v3 w3 hown3 hg3)
       have hBn:Below w1.heap.size wo w3:=grown_own (HRS.out.alloc _) hg3 (HBS.out.alloc (by first | omega | (simp;omega)) _) (by first | omega | (simp;omega)) (by omega)
       have HDn:=lh ((HST.out.alloc _).kept hg3 (.inr (by
        intro e;have:w2.heap.size≤w1.heap.size:=(HRS.out.lt _ e.symm).1;omega)))
       go_roundw
       case rel=>exact⟨_,lh HR1.out.1,lh (by obtain⟨a3,c3,e,_⟩:=num_of_row hown3;exact⟨a3,c3,e⟩),lh hown3,HDn,lh (HN.out.below hBn),hB.trans (hBn.mono hbs1),by have:=hBn.size;omega⟩
       case measure=>
        have:=HR1.out.2;obtain⟨a3,c3,e,_⟩:=num_of_row hown3;rw[e]
        simp
        omega
      ·rw[decide_eq_false hmo]at dm
       have HAJ:=HAN.out (ready_no hm hmo);rw[hm]at d0;clear hjo hmo hm hneg
       go_wp2_with fail
       go_round
       case rel=>exact⟨rfl,j+1,by omega,by go_num,HAJ⟩
       case measure=>simp[intOf];omega
   ·obtain rfl:j=hs.length:=by omega
    have HE:=lh (HO.out.ends (next_none HA.out))
    go_wp2_with fail
    go_ret;rw[HH.out,HE.out];exact lh ⟨_,rfl,ownsRow_base HR.out (by omega),HM.out _ hB⟩
def wrongT(n:Int):Bool:=!timeB n
def manTo(L:List CueR):Nat→Nat
 | 0=>0
 | k+1=>manTo L k+if(cg L k).link=1 then 1 else 0
theorem manTo_le(L:List CueR)(k:Nat):manTo L k≤k:=by
 induction k with
 | zero=>exact Nat.le_refl _
 | succ k ih=>simp only[manTo];split<;>omega
theorem manTo_mono(L:List CueR)(k n:Nat)(h:k≤n):manTo L k≤manTo L n:=by
 induction n with
 | zero=>
  obtain rfl:k=0:=by omega
  exact Nat.le_refl _
 | succ n ih=>
  rcases Nat.eq_or_lt_of_le h with e | l
  ·rw[e];exact Nat.le_refl _
  ·have:=ih (by omega)
   simp only[manTo];omega
theorem manTo_lt(L:List CueR)(k n:Nat)(h:k<n)(hl:(cg L k).link=1):manTo L k<manTo L n:=by
 have:=manTo_mono L (k+1) n h;simp only[manTo]at this;rw[if_pos hl]at this;omega
def pass1(L:List CueR)(G:List Int)(k:Nat):List Int:=(List.range L.length).map fun i=>if i<k∧(cg L i).link=1 then ig G (manTo L i)+(cg L i).delay else 0
theorem pass1_len(L:List CueR)(G:List Int)(k:Nat):(pass1 L G k).length=L.length:=by simp[pass1]
theorem pass1_at(L:List CueR)(G:List Int)(k i:Nat)(h:i<L.length):ig (pass1 L G k) i=if i<k∧(cg L i).link=1 then ig G (manTo L i)+(cg L i).delay else 0:=by
 unfold ig pass1;rw[List.getElem?_map,List.getElem?_range h]
 rfl
theorem ig_set(s:List Int)(i j:Nat)(x:Int)(hi:i<s.length):ig (s.set i x) j=if i=j then x else ig s j:=by
 unfold ig;rw[List.getElem?_set]
 by_cases h:i=j
 ·rw[if_pos h,if_pos h]
  subst h;rw[if_pos hi];rfl
 ·rw[if_neg h,if_neg h]
theorem nflat_set(s:List Int)(i:Nat)(x:Int):(nflat s).set i (.int .i64 x)=nflat (s.set i x):=by
 have e:∀l:List Int,nflat l=l.map (Value.int .i64):=fun l=>by
  induction l with
  | nil=>rfl
  | cons x r ih=>rw[List.map_cons,←ih];rfl
 rw[e,e,List.map_set]
theorem pass1_skip(L:List CueR)(G:List Int)(k:Nat)(hl:(cg L k).link≠1):pass1 L G (k+1)=pass1 L G k:=by
 unfold pass1;refine List.map_congr_left fun i hi=>?_
 by_cases e:i=k
 ·subst e;rw[if_neg (fun h=>hl h.2),if_neg (fun h=>hl h.2)]
 ·have:(i<k+1∧(cg L i).link=1)↔(i<k∧(cg L i).link=1):=by
   constructor<;>rintro ⟨a,b⟩<;>exact⟨by omega,b⟩
  simp only[this]
theorem pass1_put(L:List CueR)(G:List Int)(k:Nat)(hk:k<L.length)(hl:(cg L k).link=1):pass1 L G (k+1)=(pass1 L G k).set k (ig G (manTo L k)+(cg L k).delay):=by
 refine ig_ext _ _ (by simp[pass1]) fun j hj=>?_;rw[pass1_len]at hj;rw[ig_set _ _ _ _ (by rw[pass1_len];exact hk),pass1_at _ _ _ _ hj,pass1_at _ _ _ _ hj]
 by_cases e:k=j
 ·subst e;rw[if_pos ⟨by omega,hl⟩,if_pos rfl]
 ·rw[if_neg e]
  have:(j<k+1∧(cg L j).link=1)↔(j<k∧(cg L j).link=1):=by
   constructor<;>rintro ⟨a,b⟩<;>exact⟨by omega,b⟩
  simp only[this]
theorem pass1_zero(L:List CueR)(G:List Int):nflat (pass1 L G 0)=List.replicate L.length (.int .i64 0):=by
 have e:∀l:List Int,nflat l=l.map (Value.int .i64):=fun l=>by
  induction l with
  | nil=>rfl
  | cons x r ih=>rw[List.map_cons,←ih];rfl
 rw[e];unfold pass1;rw[List.map_map];refine List.ext_getElem? fun i=>?_
 by_cases h:i<L.length
 ·simp[h]
 ·simp[h]

def stepS(L:List CueR)(N:List Int)(s:List Int)(i:Int):List Int:=
 if(cg L i.toNat).link=1 then s else s.set i.toNat (ig s (findI L (cg L i.toNat).after).toNat+(cg L i.toNat).delay+if(cg L i.toNat).link=2 then ig N (findI L (cg L i.toNat).after).toNat else 0)
def pass2(L:List CueR)(N G:List Int)(k:Nat):List Int:=((ordP (hangs L)).take k).foldl (stepS L N) (pass1 L G L.length)
theorem pass2_succ(L:List CueR)(N G:List Int)(k:Nat)(h:k<(ordP (hangs L)).length):pass2 L N G (k+1)=stepS L N (pass2 L N G k) (ig (ordP (hangs L)) k):=by
 unfold pass2;rw[List.take_add_one,ig_get h,List.foldl_append]
 rfl
theorem stepS_len(L:List CueR)(N s:List Int)(i:Int):(stepS L N s i).length=s.length:=by
 unfold stepS;split<;>simp
theorem pass2_len(L:List CueR)(N G:List Int)(k:Nat):(pass2 L N G k).length=L.length:=by
 have main:∀(l s:List Int),s.length=L.length→(l.foldl (stepS L N) s).length=L.length:=by
  intro l
  induction l with
  | nil=>exact fun s h=>h
  | cons x r ih=>exact fun s h=>ih _ (by rw[stepS_len];exact h)
 exact main _ _ (pass1_len _ _ _)
def startsV(L:List CueR)(N G:List Int):List Int:=pass2 L N G (ordP (hangs L)).length
def startsP(L:List CueR)(A:List (ByteArray×ByteArray))(N G:List Int):List Int×Int:=
 if linkedB L A then(if N.length=L.length∧G.length=manTo L L.length then(if N.any wrongT||G.any wrongT then([],2)else if(ordP (hangs L)).length<L.length then([],23)else(startsV L N G,0))else([],3))else([],1)
theorem wrongT_no{S:List Int}(h:S.any wrongT=false)(k:Nat)(hk:k<S.length):0≤ig S k∧ig S k≤2147483648:=by
 rw[List.any_eq_false]at h;have:=h (ig S k) (by rw[ig_eq S k hk];exact List.getElem_mem hk)
 simp[wrongT,timeB]at this
 exact this

/-! ### What a linked sheet gives -/
theorem linked_cue{L:List CueR}{A:List (ByteArray×ByteArray)}(h:linkedB L A=true)(k:Nat)(hk:k<L.length):
  isNameB (cg L k).name=true∧findI L (cg L k).name=k∧(0≤(cg L k).delay∧(cg L k).delay≤2147483648)∧
   (((cg L k).link=1∧(cg L k).after=⟨#[]⟩)∨(((cg L k).link=2∨(cg L k).link=3)∧(cg L k).link≠1∧∃m:Nat,m<L.length∧findI L (cg L k).after=m∧m≠k)):=by
 unfold linkedB at h;simp only[Bool.and_eq_true]at h;have h1:=ckTo_at L _ h.1.2 k hk;unfold cueOK at h1;simp only[Bool.and_eq_true,beq_iff_eq]at h1;obtain⟨⟨⟨h2,h3⟩,h4⟩,h5⟩:=h1;refine⟨h2,h3,by simpa[timeB]using h4,?_⟩
 by_cases l1:(cg L k).link=1
 ·rw[if_pos l1]at h5
  exact .inl ⟨l1,of_decide_eq_true h5⟩
 ·rw[if_neg l1]at h5
  by_cases l2:(cg L k).link=2∨(cg L k).link=3
  ·rw[if_pos l2]at h5
   simp only[Bool.and_eq_true,decide_eq_true_eq,Bool.not_eq_true',beq_eq_false_iff_ne,ne_eq]at h5;obtain⟨a1,_,a2⟩:=findI_name L (cg L k).after h5.1;refine .inr ⟨l2,l1,_,a1,a2,fun e=>h5.2 (by rw[a2,e])⟩
  ·rw[if_neg l2]at h5;cases h5
theorem hang_other{L:List CueR}{k:Nat}(h:(cg L k).link≠1):hangI L k=findI L (cg L k).after:=by unfold hangI;rw[if_neg h]
theorem ord_at(hs:List Int):OrdAt hs (ordP hs)∧nextO hs (ordP hs)=none:=by
 have main:∀f out,OrdAt hs out→hs.length-out.length=f→OrdAt hs (ordP hs)∧nextO hs (ordP hs)=none:=by
  intro f
  induction f with
  | zero=>
   intro out h hf
   cases hn:nextO hs out with
   | none=>rw[h.ends hn];exact⟨h,hn⟩
   | some k=>have:=(h.next k hn).2;omega
  | succ f ih=>
   intro out h hf
   cases hn:nextO hs out with
   | none=>rw[h.ends hn];exact⟨h,hn⟩
   | some k=>
    obtain⟨h1,h2⟩:=h.next k hn;exact ih _ h1 (by rw[List.length_append,List.length_singleton];omega)
 exact main _ [] (OrdAt.start hs) rfl
theorem ord_in(L:List CueR)(k:Nat)(hk:k<(ordP (hangs L)).length):∃m:Nat,m<L.length∧ig (ordP (hangs L)) k=m:=by
 have h:=(ord_at (hangs L)).1.inn (ig (ordP (hangs L)) k) (by rw[ig_eq _ k hk];exact List.getElem_mem hk);rw[hangs_len]at h;exact⟨(ig (ordP (hangs L)) k).toNat,by omega,by omega⟩
theorem ord_le(L:List CueR):(ordP (hangs L)).length≤L.length:=by
 have:=(ord_at (hangs L)).1.len
 rwa [hangs_len]at this
def Small(s:List Int)(b:Int):Prop:=∀i,i<s.length→0≤ig s i∧ig s i≤b
theorem pass1_small{L:List CueR}{A:List (ByteArray×ByteArray)}(h:linkedB L A=true){G:List Int}(hG:G.any wrongT=false)(hl:G.length=manTo L L.length)(k:Nat):Small (pass1 L G k) 4294967296:=by
 intro i hi;rw[pass1_len]at hi;rw[pass1_at _ _ _ _ hi]
 split
 ·next hh=>
  have a:=wrongT_no hG (manTo L i) (by rw[hl];exact manTo_lt L i _ hi hh.2);have b:=(linked_cue h i hi).2.2.1;omega
 ·omega
theorem pass2_small{L:List CueR}{A:List (ByteArray×ByteArray)}(h:linkedB L A=true){N G:List Int}(hG:G.any wrongT=false)(hl:G.length=manTo L L.length)(hN:N.any wrongT=false)(hlN:N.length=L.length)(k:Nat)(hk:k≤(ordP (hangs L)).length):Small (pass2 L N G k) (4294967296*(k+1)):=by
 induction k with
 | zero=>intro i hi;exact⟨(pass1_small h hG hl L.length i hi).1,by have:=(pass1_small h hG hl L.length i hi).2;show ig (pass1 L G L.length) i≤_;omega⟩
 | succ k ih=>
  have ih':=ih (by omega);obtain⟨m,hm,e⟩:=ord_in L k (by omega);intro i hi;rw[pass2_len]at hi;rw[pass2_succ L N G k (by omega),e];unfold stepS;rw[Int.toNat_natCast];rcases(linked_cue h m hm).2.2.2 with ⟨l1,_⟩ | ⟨_,l1,f,hf,ef,_⟩
  ·rw[if_pos l1]
   have:=ih' i (by rw[pass2_len];exact hi);omega
  ·rw[if_neg l1,ef,Int.toNat_natCast,ig_set _ _ _ _ (by rw[pass2_len];exact hm)]
   have hd:=(linked_cue h m hm).2.2.1;have a:=ih' f (by rw[pass2_len];exact hf);have b:=ih' i (by rw[pass2_len];exact hi);have c:=wrongT_no hN f (by rw[hlN];exact hf)
   split
   ·split<;>omega
   ·omega

theorem asks_wrongT(n₀:Nat)(w:World):AsksN 113 #[] n₀ w wrongT:=by
 intro W r hB;show Calls _ _ #[numV r] _ _;unfold numV
 go_enter Tryz.func113,Tryz.ntmps113
 go_wp2_with (go_at_call 114;(with_reducible refine(time_any _ _).mono ?_);rintro e w' ⟨rfl,rfl⟩)
 all_goals (go_ret;exact⟨rfl,br⟩)
theorem ent_wrongT(args:Array Value)(w:World):(callFunc 113 args).run Tryz.prog w=.ok (.enter 113 args) w:=enters_of Tryz.func113 (by kernel_rfl) rfl args w
theorem made_zero(L:List CueR)(G:List Int)(n:Nat)(h:n=L.length):(madeCells (Value.int .i64 0).cells (n*1)).toList=nflat (pass1 L G 0):=by
 rw[pass1_zero,Nat.mul_one,←h]
 apply List.ext_getElem?
 intro j
 by_cases hj:j<n
 ·simp[madeCells,Value.cells,hj,Nat.mod_one]
 ·simp[madeCells,Value.cells,hj]

theorem starts_any(ca pa na ga:Option Addr)(L:List CueR)(A:List (ByteArray×ByteArray))(N G:List Int)(cc pc nc gc:Nat)(w:World)(hlen:L.length≤1000)(hlN:N.length≤1000)(hlG:G.length≤1000)(hI:Cues w.heap.size w ca L)(hP:Pairs w.heap.size w pa A)(hN:Nums w.heap.size w na N)(hG:Nums w.heap.size w ga G):
  Calls Tryz.prog 78 #[.agg #[.slice ca L.length cc,.slice pa A.length pc],.slice na N.length nc,.slice ga G.length gc] w fun e w'=>Hid (∃v,e=.returned (.tuple #[v,.int .i64 (startsP L A N G).2])∧w'.ownsRow w.heap.size 3 1 v (startsP L A N G).1.length (nflat (startsP L A N G).1)∧Below w.heap.size w w'):=by
 have hb0:Below w.heap.size w (w.alloc (.cells #[.slice ca L.length cc,.slice pa A.length pc] 29)):=below_new w _;have HI:=lh (hI.grow hb0);have HP:=lh (hP.grow hb0);have HN:=lh (hN.grow hb0);have HG:=lh (hG.grow hb0);have HX:Hid (∀wr,Below (w.alloc (.cells #[.slice ca L.length cc,.slice pa A.length pc] 29)).heap.size (w.alloc (.cells #[.slice ca L.length cc,.slice pa A.length pc] 29)) wr→Below w.heap.size w wr∧wr.cell? ⟨w.heap.size,0,none⟩=some (.slice ca L.length cc)∧wr.cell? ⟨w.heap.size,1,none⟩=some (.slice pa A.length pc)):=lh fun wr h=>⟨mono_in _ h,box2 h⟩;have hz0:w.heap.size≤(w.alloc (.cells #[.slice ca L.length cc,.slice pa A.length pc] 29)).heap.size:=hb0.size;clear hb0 hI hP hN hG;obtain⟨i0,hi,hy1,hy2,hy3⟩:=info_parts num_info
 cases hlk:linkedB L A
 ·have HLK:=lh hlk
  have HP0:Hid (startsP L A N G=([],1)):=lh (by unfold startsP;rw[hlk];rfl);clear hlk
  go_enter Tryz.func78,Tryz.ntmps78
  go_wp2_with (go_at_call 112;(with_reducible refine(linked_any _ _ L A _ _ _ (by omega) HI.out HP.out).mono ?_);rintro e w1 ⟨rfl,hb1⟩;rw[HLK.out];obtain⟨hB1,z0,z1⟩:=HX.out _ hb1)
  go_ret2
  rw[HP0.out];exact lh ⟨_,rfl,World.ownsRow_nil _ _ _ _,hB1⟩
 ·have HLK:=lh hlk
  obtain⟨hl60,hlA⟩:=linked_len hlk;have HC1:Hid (startsP L A N G=if N.length=L.length∧G.length=manTo L L.length then(if N.any wrongT||G.any wrongT then([],2)else if(ordP (hangs L)).length<L.length then([],23)else(startsV L N G,0))else([],3)):=lh (by unfold startsP;rw[hlk,if_pos rfl]);clear hlk
  go_enter Tryz.func78,Tryz.ntmps78
  go_wp2_with (go_at_call 112;(with_reducible refine(linked_any _ _ L A _ _ _ (by omega) HI.out HP.out).mono ?_);rintro e w1 ⟨rfl,hb1⟩;rw[HLK.out];obtain⟨hB1,z0,z1⟩:=HX.out _ hb1)
  generalize (w.alloc (.cells #[.slice ca L.length cc,.slice pa A.length pc] 29))=W0 at *
  go_loopw [8,27] (fun m i wr=>∃k:Nat,k≤L.length∧i=.int .i64 k∧m=.int .i64 (manTo L k:Nat)∧Below W0.heap.size W0 wr) (fun _ i _=>L.length-(intOf i).toNat)
  case atStart=>exact⟨0,Nat.zero_le _,rfl,rfl,hb1⟩
  case round=>
   clear hb1 hB1 z0 z1;obtain⟨k,hk,rfl,rfl,hB⟩:=hrel;obtain⟨hBw,z0,z1⟩:=HX.out _ hB;have hbz:w.heap.size<wr.heap.size:=wl z0;have hbs:=hB.size;have hmle:=manTo_le L k
   by_cases hlt:k<L.length
   ·obtain⟨b,off,rfl,hbl,hc⟩:=HI.out (by omega)
    obtain⟨c0,c1,c2,c3,c4,c5,c6⟩:=hc k hlt;have d0:=(hB.cell (p:=⟨b,off+k*7,none⟩) hbl).trans c0;have d1:=(hB.cell (p:=⟨b,off+k*7+1,none⟩) hbl).trans c1;have d2:=(hB.cell (p:=⟨b,off+k*7+2,none⟩) hbl).trans c2;have d3:=(hB.cell (p:=⟨b,off+k*7+3,none⟩) hbl).trans c3;have d4:=(hB.cell (p:=⟨b,off+k*7+4,none⟩) hbl).trans c4;have d5:=(hB.cell (p:=⟨b,off+k*7+5,none⟩) hbl).trans c5;have d6:=(hB.cell (p:=⟨b,off+k*7+6,none⟩) hbl).trans c6;clear hc c0 c1 c2 c3 c4 c5 c6
    by_cases l1:(cg L k).link=1
    ·have m1:((cg L k).link==1)=true:=beq_iff_eq.2 l1
     have HM:Hid (manTo L (k+1)=manTo L k+1):=lh (by simp only[manTo];rw[if_pos l1]);clear l1
     go_wp2_with fail
     go_roundw
     case rel=>exact⟨k+1,by omega,by go_num,by rw[HM.out];go_num,hB.alloc hbs _⟩
     case measure=>simp[intOf];omega
    ·have m1:((cg L k).link==1)=false:=beq_eq_false_iff_ne.2 l1
     have HM:Hid (manTo L (k+1)=manTo L k):=lh (by simp only[manTo];rw[if_neg l1];rfl);clear l1
     go_wp2_with fail
     go_roundw
     case rel=>exact⟨k+1,by omega,by go_num,by rw[HM.out],hB.alloc hbs _⟩
     case measure=>simp[intOf];omega
   ·obtain rfl:k=L.length:=by omega
    clear hlt hk
    by_cases hn1:N.length=L.length
    ·have m1:((N.length:Int)!=(L.length:Int))=false:=by rw[bne_eq_false_iff_eq];omega
     by_cases hg1:G.length=manTo L L.length
     ·have m2:((G.length:Int)!=((manTo L L.length:Nat):Int))=false:=by rw[bne_eq_false_iff_eq];omega
      have HC2:=lh HC1.out;rw[if_pos ⟨hn1,hg1⟩]at HC2;have HNL:=lh hn1;have HGL:=lh hg1;clear hn1 hg1
      cases hwn:N.any wrongT
      ·have HWN:=any_num N wrongT _ hwn
       have HWN':=lh hwn
       cases hwg:G.any wrongT
       ·have HWG:=any_num G wrongT _ hwg
        have HWG':=lh hwg;have HC3:=lh HC2.out;rw[hwn,hwg,Bool.or_self,if_neg (by decide)]at HC3;have hole:=ord_le L;have HORD:Hid (∀k,k<(ordP (hangs L)).length→∃m:Nat,m<L.length∧ig (ordP (hangs L)) k=m):=lh fun k hk=>ord_in L k hk;have HSM1:Hid (∀k,Small (pass1 L G k) 4294967296):=lh fun k=>pass1_small HLK.out HWG'.out HGL.out k;have HSM2:Hid (∀k,k≤(ordP (hangs L)).length→Small (pass2 L N G k) (4294967296*(k+1))):=lh fun k hk=>pass2_small HLK.out HWG'.out HGL.out HWN'.out HNL.out k hk;have HP2S:Hid (∀k,k<(ordP (hangs L)).length→pass2 L N G (k+1)=stepS L N (pass2 L N G k) (ig (ordP (hangs L)) k)):=lh fun k hk=>pass2_succ L N G k hk;have HSV:Hid (startsV L N G=pass2 L N G (ordP (hangs L)).length):=lh rfl;obtain⟨O,HO⟩:∃O,Hid (ordP (hangs L)=O):=⟨_,lh rfl⟩;rw[HO.out]at HC3 hole HORD HSM2 HP2S HSV;clear hwn hwg
        by_cases ho:O.length<L.length
        ·have HP0:Hid (startsP L A N G=([],23)):=lh (by rw[HC3.out,if_pos ho])
         go_wp2_with (first
          | (go_at_call 21;(with_reducible refine(num_containsFunc na N _ _ _ _ wrongT _ ent_wrongT (by omega) (Nat.le_refl _) (HN.out.grow hB) (asks_wrongT _ _)).mono ?_);rintro e w2 ⟨rfl,hb2⟩;rw[HWN.out];have hB2:=hB.trans (hb2.mono hB.size);obtain⟨hB2',y0,y1⟩:=HX.out _ hB2)
          | (go_at_call 21;(with_reducible refine(num_containsFunc ga G _ _ _ _ wrongT _ ent_wrongT (by omega) (Nat.le_refl _) (HG.out.grow hB2) (asks_wrongT _ _)).mono ?_);rintro e w3 ⟨rfl,hb3⟩;rw[HWG.out];have hB3:=hB2.trans (hb3.mono hB2.size);obtain⟨hB3',x0,x1⟩:=HX.out _ hB3)
          | (go_at_call 115;(with_reducible refine(order_any _ _ L A _ _ _ (by omega) (HI.out.grow hB3)).mono ?_);rintro e w4 hx;obtain⟨v4,rfl,hr4,hb4⟩:=hx.out;rw[HO.out]at hr4;have hB4:=hB3.trans (hb4.mono hB3.size);obtain⟨hB4',t0,t1⟩:=HX.out _ hB4;obtain⟨oa,oc,rfl,_,_,_,hno⟩:=num_of_row hr4;have HNO:=lh hno;clear hx hr4 hno))
         go_ret2
         rw[HP0.out];exact lh ⟨_,rfl,World.ownsRow_nil _ _ _ _,hB4'⟩
        ·have HC4:Hid (startsP L A N G=(startsV L N G,0)):=lh (by rw[HC3.out,if_neg ho])
         by_cases h0:O.length=0
         ·have g0:((O.length:Int)==0)=true:=beq_iff_eq.2 (by omega)
          have HP0:Hid (startsP L A N G=([],0)):=lh (by rw[HC4.out,HSV.out,List.eq_nil_of_length_eq_zero (show(pass2 L N G O.length).length=0 by rw[pass2_len];omega)]);clear h0
          go_wp2_with (first
           | (go_at_call 21;(with_reducible refine(num_containsFunc na N _ _ _ _ wrongT _ ent_wrongT (by omega) (Nat.le_refl _) (HN.out.grow hB) (asks_wrongT _ _)).mono ?_);rintro e w2 ⟨rfl,hb2⟩;rw[HWN.out];have hB2:=hB.trans (hb2.mono hB.size);obtain⟨hB2',y0,y1⟩:=HX.out _ hB2)
           | (go_at_call 21;(with_reducible refine(num_containsFunc ga G _ _ _ _ wrongT _ ent_wrongT (by omega) (Nat.le_refl _) (HG.out.grow hB2) (asks_wrongT _ _)).mono ?_);rintro e w3 ⟨rfl,hb3⟩;rw[HWG.out];have hB3:=hB2.trans (hb3.mono hB2.size);obtain⟨hB3',x0,x1⟩:=HX.out _ hB3)
           | (go_at_call 115;(with_reducible refine(order_any _ _ L A _ _ _ (by omega) (HI.out.grow hB3)).mono ?_);rintro e w4 hx;obtain⟨v4,rfl,hr4,hb4⟩:=hx.out;rw[HO.out]at hr4;have hB4:=hB3.trans (hb4.mono hB3.size);obtain⟨hB4',t0,t1⟩:=HX.out _ hB4;obtain⟨oa,oc,rfl,_,_,_,hno⟩:=num_of_row hr4;have HNO:=lh hno;clear hx hr4 hno))
          go_ret2
          rw[HP0.out];exact lh ⟨_,rfl,World.ownsRow_nil _ _ _ _,hB4'⟩
         ·have g0:((O.length:Int)==0)=false:=beq_eq_false_iff_ne.2 (by omega)
          have HOL:Hid (O.length=L.length):=lh (by omega);have hpos:0<O.length:=by omega
          clear h0
          go_wp2_with (first
           | (go_at_call 21;(with_reducible refine(num_containsFunc na N _ _ _ _ wrongT _ ent_wrongT (by omega) (Nat.le_refl _) (HN.out.grow hB) (asks_wrongT _ _)).mono ?_);rintro e w2 ⟨rfl,hb2⟩;rw[HWN.out];have hB2:=hB.trans (hb2.mono hB.size);obtain⟨hB2',y0,y1⟩:=HX.out _ hB2)
           | (go_at_call 21;(with_reducible refine(num_containsFunc ga G _ _ _ _ wrongT _ ent_wrongT (by omega) (Nat.le_refl _) (HG.out.grow hB2) (asks_wrongT _ _)).mono ?_);rintro e w3 ⟨rfl,hb3⟩;rw[HWG.out];have hB3:=hB2.trans (hb3.mono hB2.size);obtain⟨hB3',x0,x1⟩:=HX.out _ hB3)
           | (go_at_call 115;(with_reducible refine(order_any _ _ L A _ _ _ (by omega) (HI.out.grow hB3)).mono ?_);rintro e w4 hx;obtain⟨v4,rfl,hr4,hb4⟩:=hx.out;rw[HO.out]at hr4;have hB4:=hB3.trans (hb4.mono hB3.size);obtain⟨hB4',t0,t1⟩:=HX.out _ hB4;obtain⟨oa,oc,rfl,_,_,_,hno⟩:=num_of_row hr4;have HNO:=lh hno;clear hx hr4 hno)
           | (at_make;refine wpList_make_full _ rfl _ _ 30 rfl w4.heap.size 3 i0 (.int .i64 0) 1 Tryz.underlying30 hi hy1 hy2 _ _ _ _ O.length rfl rfl rfl rfl (by rw[hy3];omega) (by unfold maxLen;omega) (Nat.le_refl _) ?_;intro w5 hown5 hg5;have HD5:=lh (show w5.ownsRow w4.heap.size 3 1 (.slice (some ⟨w4.heap.size,0,none⟩) O.length O.length) O.length (nflat (pass1 L G 0))by rw[←made_zero L G O.length HOL.out];exact hown5);have f0:=hg5.cell t0 (by simp);have f1:=hg5.cell t1 (by simp);clear hown5))
          have hB45:Below w4.heap.size w4 w5:=(br).grown hg5 (Nat.le_refl _) (fun k e=>by cases e);have hs4:=hB4.size;have hw45:w4.heap.size<w5.heap.size:=(HD5.out.lt _ rfl).2;have HI5:=lh ((HI.out.grow hB4).below hB45);have HG5:=lh ((HG.out.grow hB4).below hB45);have HN5:=lh ((HN.out.grow hB4).below hB45);have HO5:=lh (HNO.out.below hB45);have hw4:w.heap.size<w4.heap.size:=wl t0;have HZ0:=lh ((hB45.cell (p:=⟨w.heap.size,0,none⟩) hw4).trans t0);have HZ1:=lh ((hB45.cell (p:=⟨w.heap.size,1,none⟩) hw4).trans t1);have HFIN:Hid (∀wr,Below w4.heap.size w5 wr→Below w.heap.size w wr):=lh fun wr h=>(HX.out _ (hB4.trans ((hB45.trans h).mono hs4))).1;clear hB hB2 hB3 hb2 hb3 hb4 hB2' hB3' hB4' y0 y1 x0 x1 t0 t1 f0 f1 hg5 HNO HI HG HN z0 z1 hBw
          go_loopw [14,76] (fun nx i wr=>∃k:Nat,k≤L.length∧i=.int .i64 k∧nx=.int .i64 (manTo L k:Nat)∧Below w4.heap.size w5 wr∧Hid (wr.ownsRow w4.heap.size 3 1 (.slice (some ⟨w4.heap.size,0,none⟩) O.length O.length) O.length (nflat (pass1 L G k)))∧w5.heap.size≤wr.heap.size) (fun _ i _=>L.length-(intOf i).toNat)
          case atStart=>exact⟨0,Nat.zero_le _,rfl,rfl,br,HD5,Nat.le_refl _⟩
          case round=>
           clear HD5 hbz hbs hmle;obtain⟨k,hk,rfl,rfl,hB,HR,hws⟩:=hrel;have z0:=(hB.cell (p:=⟨w.heap.size,0,none⟩) hw4).trans HZ0.out;have z1:=(hB.cell (p:=⟨w.heap.size,1,none⟩) hw4).trans HZ1.out;have hbz:w.heap.size<wr.heap.size:=by omega
           have hmle:=manTo_le L k
           by_cases hlt:k<L.length
           ·obtain⟨b,off,rfl,hbl,hc⟩:=HI5.out (by omega)
            obtain⟨c0,c1,c2,c3,c4,c5,c6⟩:=hc k hlt;have d0:=(hB.cell (p:=⟨b,off+k*7,none⟩) hbl).trans c0;have d1:=(hB.cell (p:=⟨b,off+k*7+1,none⟩) hbl).trans c1;have d2:=(hB.cell (p:=⟨b,off+k*7+2,none⟩) hbl).trans c2;have d3:=(hB.cell (p:=⟨b,off+k*7+3,none⟩) hbl).trans c3;have d4:=(hB.cell (p:=⟨b,off+k*7+4,none⟩) hbl).trans c4;have d5:=(hB.cell (p:=⟨b,off+k*7+5,none⟩) hbl).trans c5;have d6:=(hB.cell (p:=⟨b,off+k*7+6,none⟩) hbl).trans c6;clear hc c0 c1 c2 c3 c4 c5 c6;have hkO:k<O.length:=by have:=HOL.out;omega
            by_cases l1:(cg L k).link=1
            ·have m1:((cg L k).link==1)=true:=beq_iff_eq.2 l1
             have HM:Hid (manTo L (k+1)=manTo L k+1):=lh (by simp only[manTo];rw[if_pos l1]);have hmg:manTo L k<G.length:=by rw[HGL.out];exact manTo_lt L k _ hlt l1
             obtain⟨gb,go,rfl,hgl,hgc⟩:=HG5.out (by omega);have g1:=(hB.cell (p:=⟨gb,go+manTo L k,none⟩) hgl).trans (hgc _ hmg);obtain⟨q1,q2⟩:=wrongT_no HWG'.out _ hmg;obtain⟨q3,q4⟩:=(linked_cue HLK.out k hlt).2.2.1;have HPP:=lh (pass1_put L G k hlt l1);have hgw:gb<wr.heap.size:=by omega
             have how:w4.heap.size<wr.heap.size:=by omega
             have o1:wr.cell? ⟨w4.heap.size,k,none⟩=some (.int .i64 (ig (pass1 L G k) k)):=by rw[HR.out.cellAt k (by omega),nflat_at _ _ (by rw[pass1_len];exact hlt)]
             have o2:=HR.out.frozenAt k;clear hgc l1
             go_wp2_with fail
             have s1:IntKind.i64.wrap (ig G (manTo L k)+(cg L k).delay)=ig G (manTo L k)+(cg L k).delay:=IntWalk.i64_in _ (by omega)
             go_region
             go_wp2_with fail
             have HST:=lh (show(wr.setCell ⟨w4.heap.size,k,none⟩ (.int .i64 (ig G (manTo L k)+(cg L k).delay))).ownsRow w4.heap.size 3 1 (.slice (some ⟨w4.heap.size,0,none⟩) O.length O.length) O.length (nflat (pass1 L G (k+1)))by rw[HPP.out,←nflat_set];exact(HR.out.stored k _).1);go_roundw
             case rel=>exact⟨k+1,by omega,by go_num,by rw[HM.out];go_num,((hB.setCell (show w4.heap.size≤(⟨w4.heap.size,k,none⟩:Addr).block from Nat.le_refl _) _).alloc (by simp;omega) _).drew,lh (HST.out.alloc _).drew,by simp;omega⟩
             case measure=>simp[intOf];omega
            ·have m1:((cg L k).link==1)=false:=beq_eq_false_iff_ne.2 l1
             have HM:Hid (manTo L (k+1)=manTo L k):=lh (by simp only[manTo];rw[if_neg l1];rfl);have HPP:=lh (pass1_skip L G k l1);clear l1
             go_wp2_with fail
             go_roundw
             case rel=>exact⟨k+1,by omega,by go_num,by rw[HM.out],hB.alloc (by omega) _,lh (by rw[HPP.out];exact HR.out.alloc _),by simp;omega⟩
             case measure=>simp[intOf];omega
           ·obtain rfl:k=L.length:=by omega
            clear hlt hk hmle
            go_wp2_with fail
            have HR0:Hid (wr.ownsRow w4.heap.size 3 1 (.slice (some ⟨w4.heap.size,0,none⟩) O.length O.length) O.length (nflat (pass2 L N G 0))):=lh HR.out
            go_loopw [99] (fun i wr=>∃k:Nat,k≤O.length∧i=.int .i64 k∧Below w4.heap.size w5 wr∧Hid (wr.ownsRow w4.heap.size 3 1 (.slice (some ⟨w4.heap.size,0,none⟩) O.length O.length) O.length (nflat (pass2 L N G k)))∧w5.heap.size≤wr.heap.size) (fun i _=>O.length-(intOf i).toNat)
            case atStart=>exact⟨0,Nat.zero_le _,rfl,hB,HR0,hws⟩
            case round=>
             clear HR0 HR hB hws z0 z1 hbz;obtain⟨k,hk,rfl,hB,HR,hws⟩:=hrel;have z0:=(hB.cell (p:=⟨w.heap.size,0,none⟩) hw4).trans HZ0.out;have z1:=(hB.cell (p:=⟨w.heap.size,1,none⟩) hw4).trans HZ1.out;have hbz:w.heap.size<wr.heap.size:=by omega
             by_cases hlt:k<O.length
             ·obtain⟨ob,oo,rfl,hol,hoc⟩:=HO5.out (by omega)
              obtain⟨m,hm,hmo⟩:=HORD.out k hlt;have o0:=(hB.cell (p:=⟨ob,oo+k,none⟩) hol).trans (hoc k hlt);rw[hmo]at o0;have HPS:=lh (HP2S.out k hlt);rw[hmo]at HPS;obtain⟨b,off,rfl,hbl,hc⟩:=HI5.out (by omega);obtain⟨c0,c1,c2,c3,c4,c5,c6⟩:=hc m hm;have d0:=(hB.cell (p:=⟨b,off+m*7,none⟩) hbl).trans c0;have d1:=(hB.cell (p:=⟨b,off+m*7+1,none⟩) hbl).trans c1;have d2:=(hB.cell (p:=⟨b,off+m*7+2,none⟩) hbl).trans c2;have d3:=(hB.cell (p:=⟨b,off+m*7+3,none⟩) hbl).trans c3;have d4:=(hB.cell (p:=⟨b,off+m*7+4,none⟩) hbl).trans c4;have d5:=(hB.cell (p:=⟨b,off+m*7+5,none⟩) hbl).trans c5;have d6:=(hB.cell (p:=⟨b,off+m*7+6,none⟩) hbl).trans c6;have hmO:m<O.length:=by rw[HOL.out];exact hm
              have HSM:=lh (HSM2.out k (by omega));have how:w4.heap.size<wr.heap.size:=by omega
              clear hc c0 c1 c2 c3 c4 c5 c6 hoc hmo;rcases(linked_cue HLK.out m hm).2.2.2 with ⟨l1,_⟩ | ⟨l23,l1,f,hf,hfa,hfm⟩
              ·have m1:((cg L m).link==1)=true:=beq_iff_eq.2 l1
               have HSS:Hid (pass2 L N G (k+1)=pass2 L N G k):=lh (by rw[HPS.out];unfold stepS;rw[Int.toNat_natCast,if_pos l1]);clear l1
               go_wp2_with fail
               go_roundw
               case rel=>exact⟨k+1,by omega,by go_num,hB.alloc (by omega) _,lh (by rw[HSS.out];exact HR.out.alloc _),by simp;omega⟩
               case measure=>simp[intOf];omega
              ·have m1:((cg L m).link==1)=false:=beq_eq_false_iff_ne.2 l1
               have HFA:=lh hfa;have hfO:f<O.length:=by rw[HOL.out];exact hf
               have hfN:f<N.length:=by rw[HNL.out];exact hf
               obtain⟨q1,q2⟩:=(linked_cue HLK.out m hm).2.2.1;obtain⟨q3,q4⟩:=HSM.out f (by rw[pass2_len];exact hf);obtain⟨q5,q6⟩:=wrongT_no HWN'.out f hfN;obtain⟨nb,no,rfl,hnl,hnc⟩:=HN5.out (by omega);have hn5:=hnc f hfN;have HWA:=lh (below_new wr (.cells #[.string (cg L m).name,.string (cg L m).after,.int .i64 (cg L m).link,.int .i64 (cg L m).delay,.slice (cg L m).ma (cg L m).moves.length (cg L m).mc,.int .i64 (cg L m).crew,.int .i64 (cg L m).power] 86));have HSTEP:Hid (pass2 L N G (k+1)=(pass2 L N G k).set m (ig (pass2 L N G k) f+(cg L m).delay+if(cg L m).link=2 then ig N f else 0)):=lh (by rw[HPS.out];unfold stepS;rw[Int.toNat_natCast,if_neg l1,hfa,Int.toNat_natCast]);have HHN:=lh hn5;have HFM:=lh hfm;clear hnc hn5 hfa hfm;have hl6:(pass2 L N G k).length=O.length:=by rw[pass2_len,HOL.out]
               have HL6:=lh hl6;clear hl6;generalize pass2 L N G k=s at *;rcases l23 with l2 | l3
               ·have m2:((cg L m).link==2)=true:=beq_iff_eq.2 l2
                rw[if_pos l2]at HSTEP;clear l1 l2
                go_wp2_with (go_at_call 116;(with_reducible refine(find_any _ L _ _ (cg L m).after _ (by omega) ((HI5.out.below hB).mono (by omega) |>.grow HWA.out)).mono ?_);rintro e w6 ⟨rfl,hb6⟩;rw[HFA.out];have hB6:=HWA.out.trans (hb6.mono HWA.out.size);have x2:=(hb6.cell (p:=⟨wr.heap.size,2,none⟩) (by simp)).trans (show _=some (.int .i64 (cg L m).link)by simp);have x3:=(hb6.cell (p:=⟨wr.heap.size,3,none⟩) (by simp)).trans (show _=some (.int .i64 (cg L m).delay)by simp))
                have hs6:=hB6.size;have hs6':wr.heap.size<w6.heap.size:=wl x2;have HR6:=lh (ownsRow_below HR.out hB6);have s1:IntKind.i64.wrap (ig s f+(cg L m).delay)=ig s f+(cg L m).delay:=IntWalk.i64_in _ (by omega);have o1:w6.cell? ⟨w4.heap.size,f,none⟩=some (.int .i64 (ig s f)):=by rw[HR6.out.cellAt f (by omega),nflat_at _ _ (by rw[HL6.out];exact hfO)]
                have o2:w6.cell? ⟨w4.heap.size,m,none⟩=some (.int .i64 (ig s m)):=by rw[HR6.out.cellAt m (by omega),nflat_at _ _ (by rw[HL6.out];exact hmO)]
                have o3:=HR6.out.frozenAt m;have how6:w4.heap.size<w6.heap.size:=by omega
                go_region
                have HR7:=lh (show((w6.setCell ⟨w4.heap.size,m,none⟩ (.int .i64 (ig s f+(cg L m).delay))).drew).ownsRow w4.heap.size 3 1 (.slice (some ⟨w4.heap.size,0,none⟩) O.length O.length) O.length (nflat (s.set m (ig s f+(cg L m).delay)))by rw[←nflat_set];exact(HR6.out.stored m _).1.drew);have hB7:Below w4.heap.size w5 (w6.setCell ⟨w4.heap.size,m,none⟩ (.int .i64 (ig s f+(cg L m).delay))).drew:=((hB.trans (hB6.mono (by omega))).setCell (show w4.heap.size≤(⟨w4.heap.size,m,none⟩:Addr).block from Nat.le_refl _) _).drew;have hws7:w5.heap.size≤(w6.setCell ⟨w4.heap.size,m,none⟩ (.int .i64 (ig s f+(cg L m).delay))).drew.heap.size:=by simp;omega
                have x27:(w6.setCell ⟨w4.heap.size,m,none⟩ (.int .i64 (ig s f+(cg L m).delay))).drew.cell? ⟨wr.heap.size,2,none⟩=some (.int .i64 (cg L m).link):=(World.cell?_setCell_other _ _ _ _ (by first | (simp;done) | (simp;omega))).trans x2;clear o1 o2 o3 x2 x3 s1;generalize (w6.setCell ⟨w4.heap.size,m,none⟩ (.int .i64 (ig s f+(cg L m).delay))).drew=w7 at *
                go_wp2_with fail
                have s2:IntKind.i64.wrap (ig s f+(cg L m).delay+ig N f)=ig s f+(cg L m).delay+ig N f:=IntWalk.i64_in _ (by omega);have n7:=(hB7.cell (p:=⟨nb,no+f,none⟩) hnl).trans HHN.out;have n8:w7.cell? ⟨w4.heap.size,m,none⟩=some (.int .i64 (ig s f+(cg L m).delay)):=by rw[HR7.out.cellAt m (by omega),nflat_at _ _ (by rw[List.length_set,HL6.out];exact hmO),ig_set _ _ _ _ (by rw[HL6.out];exact hmO),if_pos rfl]
                have n9:=HR7.out.frozenAt m
                go_region
                go_wp2_with fail
                have HST:=lh (show(w7.setCell ⟨w4.heap.size,m,none⟩ (.int .i64 (ig s f+(cg L m).delay+ig N f))).ownsRow w4.heap.size 3 1 (.slice (some ⟨w4.heap.size,0,none⟩) O.length O.length) O.length (nflat (pass2 L N G (k+1)))by rw[HSTEP.out,←List.set_set (a:=ig s f+(cg L m).delay),←nflat_set];exact(HR7.out.stored m _).1);go_roundw
                case rel=>exact⟨k+1,by omega,by go_num,(hB7.setCell (show w4.heap.size≤(⟨w4.heap.size,m,none⟩:Addr).block from Nat.le_refl _) _).drew,lh HST.out.drew,by simp;omega⟩
                case measure=>simp[intOf];omega
               ·have m2:((cg L m).link==2)=false:=beq_eq_false_iff_ne.2 (by omega)
                rw[if_neg (by omega),Int.add_zero]at HSTEP;clear l1 l3
                go_wp2_with (go_at_call 116;(with_reducible refine(find_any _ L _ _ (cg L m).after _ (by omega) ((HI5.out.below hB).mono (by omega) |>.grow HWA.out)).mono ?_);rintro e w6 ⟨rfl,hb6⟩;rw[HFA.out];have hB6:=HWA.out.trans (hb6.mono HWA.out.size);have x2:=(hb6.cell (p:=⟨wr.heap.size,2,none⟩) (by simp)).trans (show _=some (.int .i64 (cg L m).link)by simp);have x3:=(hb6.cell (p:=⟨wr.heap.size,3,none⟩) (by simp)).trans (show _=some (.int .i64 (cg L m).delay)by simp))
                have hs6:=hB6.size;have hs6':wr.heap.size<w6.heap.size:=wl x2;have HR6:=lh (ownsRow_below HR.out hB6);have s1:IntKind.i64.wrap (ig s f+(cg L m).delay)=ig s f+(cg L m).delay:=IntWalk.i64_in _ (by omega);have o1:w6.cell? ⟨w4.heap.size,f,none⟩=some (.int .i64 (ig s f)):=by rw[HR6.out.cellAt f (by omega),nflat_at _ _ (by rw[HL6.out];exact hfO)]
                have o2:w6.cell? ⟨w4.heap.size,m,none⟩=some (.int .i64 (ig s m)):=by rw[HR6.out.cellAt m (by omega),nflat_at _ _ (by rw[HL6.out];exact hmO)]
                have o3:=HR6.out.frozenAt m;have how6:w4.heap.size<w6.heap.size:=by omega
                go_region
                have HR7:=lh (show((w6.setCell ⟨w4.heap.size,m,none⟩ (.int .i64 (ig s f+(cg L m).delay))).drew).ownsRow w4.heap.size 3 1 (.slice (some ⟨w4.heap.size,0,none⟩) O.length O.length) O.length (nflat (s.set m (ig s f+(cg L m).delay)))by rw[←nflat_set];exact(HR6.out.stored m _).1.drew);have hB7:Below w4.heap.size w5 (w6.setCell ⟨w4.heap.size,m,none⟩ (.int .i64 (ig s f+(cg L m).delay))).drew:=((hB.trans (hB6.mono (by omega))).setCell (show w4.heap.size≤(⟨w4.heap.size,m,none⟩:Addr).block from Nat.le_refl _) _).drew;have hws7:w5.heap.size≤(w6.setCell ⟨w4.heap.size,m,none⟩ (.int .i64 (ig s f+(cg L m).delay))).drew.heap.size:=by simp;omega
                have x27:(w6.setCell ⟨w4.heap.size,m,none⟩ (.int .i64 (ig s f+(cg L m).delay))).drew.cell? ⟨wr.heap.size,2,none⟩=some (.int .i64 (cg L m).link):=(World.cell?_setCell_other _ _ _ _ (by first | (simp;done) | (simp;omega))).trans x2;clear o1 o2 o3 x2 x3 s1;generalize (w6.setCell ⟨w4.heap.size,m,none⟩ (.int .i64 (ig s f+(cg L m).delay))).drew=w7 at *
                go_wp2_with fail
                go_roundw
                case rel=>exact⟨k+1,by omega,by go_num,hB7,lh (by rw[HSTEP.out];exact HR7.out),hws7⟩
                case measure=>simp[intOf];omega
             ·obtain rfl:k=O.length:=by omega
              go_wp2_with fail
              go_ret2
              rw[HC4.out,HSV.out];exact lh ⟨_,rfl,by rw[pass2_len,←HOL.out];exact ownsRow_base HR.out (by omega),HFIN.out _ hB⟩
       ·have HWG:=any_num G wrongT _ hwg
        have HP0:Hid (startsP L A N G=([],2)):=lh (by rw[HC2.out,hwn,hwg];rfl);clear hwn hwg
        go_wp2_with (first
         | (go_at_call 21;(with_reducible refine(num_containsFunc na N _ _ _ _ wrongT _ ent_wrongT (by omega) (Nat.le_refl _) (HN.out.grow hB) (asks_wrongT _ _)).mono ?_);rintro e w2 ⟨rfl,hb2⟩;rw[HWN.out];have hB2:=hB.trans (hb2.mono hB.size);obtain⟨hB2',y0,y1⟩:=HX.out _ hB2)
         | (go_at_call 21;(with_reducible refine(num_containsFunc ga G _ _ _ _ wrongT _ ent_wrongT (by omega) (Nat.le_refl _) (HG.out.grow hB2) (asks_wrongT _ _)).mono ?_);rintro e w3 ⟨rfl,hb3⟩;rw[HWG.out];have hB3:=hB2.trans (hb3.mono hB2.size);obtain⟨hB3',x0,x1⟩:=HX.out _ hB3))
        go_ret2
        rw[HP0.out];exact lh ⟨_,rfl,World.ownsRow_nil _ _ _ _,hB3'⟩
      ·have HWN:=any_num N wrongT _ hwn
       have HP0:Hid (startsP L A N G=([],2)):=lh (by rw[HC2.out,hwn];rfl);clear hwn
       go_wp2_with (first
        | (go_at_call 21;(with_reducible refine(num_containsFunc na N _ _ _ _ wrongT _ ent_wrongT (by omega) (Nat.le_refl _) (HN.out.grow hB) (asks_wrongT _ _)).mono ?_);rintro e w2 ⟨rfl,hb2⟩;rw[HWN.out];have hB2:=hB.trans (hb2.mono hB.size);obtain⟨hB2',y0,y1⟩:=HX.out _ hB2))
       go_ret2
       rw[HP0.out];exact lh ⟨_,rfl,World.ownsRow_nil _ _ _ _,hB2'⟩
     ·have m2:((G.length:Int)!=((manTo L L.length:Nat):Int))=true:=bne_iff_ne.2 (by omega)
      have HP0:Hid (startsP L A N G=([],3)):=lh (by rw[HC1.out,if_neg (fun h=>hg1 h.2)]);clear hn1 hg1
      go_wp2_with fail
      go_ret2
      rw[HP0.out];exact lh ⟨_,rfl,World.ownsRow_nil _ _ _ _,hBw⟩
    ·have m1:((N.length:Int)!=(L.length:Int))=true:=bne_iff_ne.2 (by omega)
     have HP0:Hid (startsP L A N G=([],3)):=lh (by rw[HC1.out,if_neg (fun h=>hn1 h.1)]);clear hn1
     go_wp2_with fail
     go_ret2
     rw[HP0.out];exact lh ⟨_,rfl,World.ownsRow_nil _ _ _ _,hBw⟩
end
section
open Go.RowKit Go.Shelf
attribute [local go_sem] Oper.semAt_some
def PC(w:World)(B:Nat)(a b c:Value):Prop:=w.cell? ⟨B,0,none⟩=some a∧w.cell? ⟨B,1,none⟩=some b∧w.cell? ⟨B,2,none⟩=some c∧w.frozen? ⟨B,0,none⟩=false∧w.frozen? ⟨B,1,none⟩=false∧w.frozen? ⟨B,2,none⟩=false∧B<w.heap.size
theorem PC.carry{W w:World}{B:Nat}{a b c:Value}(f:PC W B a b c)(h:Below W.heap.size W w):PC w B a b c:=by
 obtain⟨f0,f1,f2,f3,f4,f5,f6⟩:=f;exact⟨(h.cell (p:=⟨B,0,none⟩) f6).trans f0,(h.cell (p:=⟨B,1,none⟩) f6).trans f1,(h.cell (p:=⟨B,2,none⟩) f6).trans f2,(h.frozen (p:=⟨B,0,none⟩) f6).trans f3,(h.frozen (p:=⟨B,1,none⟩) f6).trans f4,(h.frozen (p:=⟨B,2,none⟩) f6).trans f5,Nat.lt_of_lt_of_le f6 h.size⟩
theorem PC.grown{W w:World}{B:Nat}{a b c:Value}{row:Option Nat}(f:PC W B a b c)(h:W.grownBy w row)(hne:some B≠row):PC w B a b c:=by
 obtain⟨f0,f1,f2,f3,f4,f5,f6⟩:=f;exact⟨(h.cell_far ⟨B,0,none⟩ f6 hne).trans f0,(h.cell_far ⟨B,1,none⟩ f6 hne).trans f1,(h.cell_far ⟨B,2,none⟩ f6 hne).trans f2,(h.frozen_far ⟨B,0,none⟩ f6 hne).trans f3,(h.frozen_far ⟨B,1,none⟩ f6 hne).trans f4,(h.frozen_far ⟨B,2,none⟩ f6 hne).trans f5,Nat.lt_of_lt_of_le f6 h.size⟩
theorem off_ne{B i j:Nat}(h:i≠j):(⟨B,i,none⟩:Addr)≠⟨B,j,none⟩:=fun e=>h (congrArg Addr.off e)
theorem PC.set2{w:World}{B:Nat}{a b c:Value}(f:PC w B a b c)(v:Value):PC (w.setCell ⟨B,2,none⟩ v) B a b v:=by
 obtain⟨f0,f1,f2,f3,f4,f5,f6⟩:=f;exact⟨(World.cell?_setCell_other _ _ _ _ (off_ne (by decide))).trans f0,(World.cell?_setCell_other _ _ _ _ (off_ne (by decide))).trans f1,World.cell?_setCell_same _ _ _ f2,by simpa using f3,by simpa using f4,by simpa using f5,by simpa using f6⟩
theorem PC.set1{w:World}{B:Nat}{a b c:Value}(f:PC w B a b c)(v:Value):PC (w.setCell ⟨B,1,none⟩ v) B a v c:=by
 obtain⟨f0,f1,f2,f3,f4,f5,f6⟩:=f;exact⟨(World.cell?_setCell_other _ _ _ _ (off_ne (by decide))).trans f0,World.cell?_setCell_same _ _ _ f1,(World.cell?_setCell_other _ _ _ _ (off_ne (by decide))).trans f2,by simpa using f3,by simpa using f4,by simpa using f5,by simpa using f6⟩
theorem PC.set0{w:World}{B:Nat}{a b c:Value}(f:PC w B a b c)(v:Value):PC (w.setCell ⟨B,0,none⟩ v) B v b c:=by
 obtain⟨f0,f1,f2,f3,f4,f5,f6⟩:=f;exact⟨World.cell?_setCell_same _ _ _ f0,(World.cell?_setCell_other _ _ _ _ (off_ne (by decide))).trans f1,(World.cell?_setCell_other _ _ _ _ (off_ne (by decide))).trans f2,by simpa using f3,by simpa using f4,by simpa using f5,by simpa using f6⟩
theorem PC.put(w:World)(a b c:Value)(t:TypeId):PC (w.alloc (.cells #[a,b,c] t)) w.heap.size a b c:=⟨by simp,by simp,by simp,by simp,by simp,by simp,by simp⟩
theorem PC.other{w:World}{B C:Nat}{a b c:Value}(f:PC w B a b c)(hne:B≠C)(o:Nat)(v:Value):PC (w.setCell ⟨C,o,none⟩ v) B a b c:=by
 obtain⟨f0,f1,f2,f3,f4,f5,f6⟩:=f;have ne:∀k,(⟨C,o,none⟩:Addr)≠⟨B,k,none⟩:=fun k e=>hne (congrArg Addr.block e).symm;exact⟨(World.cell?_setCell_other _ _ _ _ (ne 0)).trans f0,(World.cell?_setCell_other _ _ _ _ (ne 1)).trans f1,(World.cell?_setCell_other _ _ _ _ (ne 2)).trans f2,by simpa using f3,by simpa using f4,by simpa using f5,by simpa using f6⟩
def Meet(n₁:Nat)(w1:World)(a b v:Value)(k:Nat)(X:List Value)(L:Int×Int)(v13 v14:Value)(wx:World):Prop:=
 ∃B13:Nat,v13=.pointer (some ⟨B13,0,none⟩)∧v14=.int .i64 0∧Below n₁ w1 wx∧n₁+1≤wx.heap.size∧n₁+1≤B13∧Hid (FI wx B13 L.1 L.2∧PC wx n₁ a b v∧wx.ownsRow (n₁+1) 3 1 v k X∧v.ownBlock≠some B13)
section
variable {n₁ k:Nat} {w1 W3 y1:World} {a b v:Value} {X:List Value}
theorem own_far{w:World}{base B o:Nat}(h:w.ownsRow base 3 1 v k X)(_:B<w.heap.size)(hne:v.ownBlock≠some B)(u:Value):(w.setCell ⟨B,o,none⟩ u).ownsRow base 3 1 v k X:=by
 refine⟨h.1,?_⟩;rcases h.2 with hn | ⟨g,cap,cur,rfl,hb,hg,rest⟩
 ·exact .inl hn
 ·have ne:B≠g:=fun e=>hne (by subst e;rfl)
  have e:(w.setCell ⟨B,o,none⟩ u).heap[g]? =w.heap[g]?:=by
   unfold World.setCell
   dsimp only
   rw[Array.getElem?_modify]
   simp[ne]
  exact .inr ⟨g,cap,cur,rfl,hb,e.trans hg,rest⟩
theorem meetC{B13:Nat}{x y:Int}(L:Int×Int)(hB:Below n₁ w1 y1)(hs:n₁+1≤y1.heap.size)(hP:PC y1 n₁ a b v)(hO:y1.ownsRow (n₁+1) 3 1 v k X)(hb:n₁+1≤B13)(hv:v.ownBlock≠some B13)(hf:FI y1 B13 x y):
  Meet n₁ w1 a b v k X L (.pointer (some ⟨B13,0,none⟩)) (.int .i64 0) ((y1.setCell ⟨B13,0,none⟩ (.int .i64 L.1)).setCell ⟨B13,1,none⟩ (.int .i64 L.2)):=by
 refine⟨B13,rfl,rfl,((hB.setCell (show n₁≤(⟨B13,0,none⟩:Addr).block from by show n₁≤B13;omega) _).setCell (show n₁≤(⟨B13,1,none⟩:Addr).block from by show n₁≤B13;omega) _),by simp;omega,hb,lh ⟨hf.set _ _,?_,?_,hv⟩⟩
 ·exact(hP.other (by omega) _ _).other (by omega) _ _
 ·exact own_far (own_far hO hf.2.2.2.2 hv _) (by simpa using hf.2.2.2.2) hv _
structure HeldQ(n₁:Nat)(w1:World)(B:Nat)(q:CueR)(w:World):Prop where
 old:Below n₁ w1 w
 lo:n₁+1≤w.heap.size
 cu:CueAt w B q
theorem HeldQ.next{B:Nat}{q:CueR}{w w':World}(h:HeldQ n₁ w1 B q w)(hb:Below w.heap.size w w'):HeldQ n₁ w1 B q w':=⟨h.old.trans (hb.mono (by have:=h.lo;omega)),Nat.le_trans h.lo hb.size,h.cu.carry hb⟩
theorem cueAt_other{w:World}{B g o:Nat}{q:CueR}(h:CueAt w B q)(hg:B≠g)(v:Value):CueAt (w.setCell ⟨g,o,none⟩ v) B q:=by
 have ne:∀k,(⟨g,o,none⟩:Addr)≠⟨B,k,none⟩:=fun k e=>hg (congrArg Addr.block e).symm;obtain⟨a0,a1,a2,a3,a4,a5,a6⟩:=h;exact⟨(World.cell?_setCell_other _ _ _ _ (ne 0)).trans a0,(World.cell?_setCell_other _ _ _ _ (ne 1)).trans a1,(World.cell?_setCell_other _ _ _ _ (ne 2)).trans a2,(World.cell?_setCell_other _ _ _ _ (ne 3)).trans a3,(World.cell?_setCell_other _ _ _ _ (ne 4)).trans a4,(World.cell?_setCell_other _ _ _ _ (ne 5)).trans a5,(World.cell?_setCell_other _ _ _ _ (ne 6)).trans a6⟩
theorem HeldQ.put{B g o:Nat}{q:CueR}{w:World}(h:HeldQ n₁ w1 B q w)(hg:B≠g)(hl:n₁+1≤g)(v:Value):HeldQ n₁ w1 B q (w.setCell ⟨g,o,none⟩ v):=⟨h.old.setCell (show n₁≤(⟨g,o,none⟩:Addr).block from by show n₁≤g;omega) _,by simp;exact h.lo,cueAt_other h.cu hg v⟩
structure HeldS(n₁:Nat)(w1:World)(w:World):Prop where
 old:Below n₁ w1 w
 lo:n₁+1≤w.heap.size
theorem HeldS.next{w w':World}(h:HeldS n₁ w1 w)(hb:Below w.heap.size w w'):HeldS n₁ w1 w':=⟨h.old.trans (hb.mono (by have:=h.lo;omega)),Nat.le_trans h.lo hb.size⟩
theorem HeldS.put{g o:Nat}{w:World}(h:HeldS n₁ w1 w)(hl:n₁+1≤g)(v:Value):HeldS n₁ w1 (w.setCell ⟨g,o,none⟩ v):=⟨h.old.setCell (show n₁≤(⟨g,o,none⟩:Addr).block from by show n₁≤g;omega) _,by simp;exact h.lo⟩
theorem own_put3{w:World}{base B:Nat}{a b c:Value}{x y z:Value}{v:Value}{k:Nat}{X:List Value}(h:w.ownsRow base 3 1 v k X)(f:PC w B a b c)(hne:v.ownBlock≠some B):(((w.setCell ⟨B,0,none⟩ x).setCell ⟨B,1,none⟩ y).setCell ⟨B,2,none⟩ z).ownsRow base 3 1 v k X:=
 own_far (own_far (own_far h f.2.2.2.2.2.2 hne _) (f.set0 _).2.2.2.2.2.2 hne _) ((f.set0 _).set1 _).2.2.2.2.2.2 hne _
theorem below_drewR(w:World):Below w.heap.size w w.drew:=(br).drew
end
theorem made_no(h:HouseR)(s:SheetR)(ga:Option Addr)(G:List Int)(gc:Nat)(w:World)(hh:HouseIn w h)(hs:SheetIn w s)(hG:Nums w.heap.size w ga G)(hv:sheetB h s=false):
  Calls Tryz.prog 44 #[.agg #[.string h.name,.int .i64 h.height,.slice h.sa h.sets.length h.sc,.slice h.ra h.roofs.length h.rc],.agg #[.slice s.ca s.cues.length s.cc,.slice s.pa s.pairs.length s.pc],.slice ga G.length gc] w fun e w'=>e=.returned (.tuple #[.agg #[.slice none 0 0,.slice none 0 0,.slice none 0 0],.int .i64 1])∧Below w.heap.size w w':=by
 have hb0:Below w.heap.size w ((LTw w h s).alloc (.cells #[.slice none 0 0,.slice none 0 0,.slice none 0 0] 109)):=((below_new w _).alloc (by simp) _).alloc (by simp;omega) _
 have HX:Hid (∀w',Below ((LTw w h s).alloc (.cells #[.slice none 0 0,.slice none 0 0,.slice none 0 0] 109)).heap.size ((LTw w h s).alloc (.cells #[.slice none 0 0,.slice none 0 0,.slice none 0 0] 109)) w'→HouseAt w' w.heap.size h∧SheetAt w' (w.heap.size+1) s∧HouseIn w' h∧SheetIn w' s∧Nums w'.heap.size w' ga G):=lh fun w' z=>
  ⟨(((HouseAt.new w h _).carry (below_new _ _)).carry (below_new _ _)).carry z,((show SheetAt (LTw w h s) (w.heap.size+1) s by unfold SheetAt;simp).carry (below_new _ _)).carry z,(hh.grow hb0).grow z,(hs.grow hb0).grow z,(hG.grow hb0).grow z⟩
 have HW:Hid (∀w',Below ((LTw w h s).alloc (.cells #[.slice none 0 0,.slice none 0 0,.slice none 0 0] 109)).heap.size ((LTw w h s).alloc (.cells #[.slice none 0 0,.slice none 0 0,.slice none 0 0] 109)) w'→Below w.heap.size w w'):=lh fun w' z=>hb0.trans (z.mono hb0.size);have HV:=lh hv;clear hh hs hG hb0 hv
 go_enter Tryz.func44,Tryz.ntmps44
 go_upto_region 1 with (fail)
 have hN6:PC ((LTw w h s).alloc (.cells #[.slice none 0 0,.slice none 0 0,.slice none 0 0] 109)) (w.heap.size+1+1) (.slice none 0 0) (.slice none 0 0) (.slice none 0 0):=by
  have e:=PC.put (LTw w h s) (.slice none 0 0) (.slice none 0 0) (.slice none 0 0) 109;rw[show(LTw w h s).heap.size=w.heap.size+1+1 by simp]at e;exact e
 obtain⟨W0,hW0⟩:=nm (((LTw w h s).alloc (.cells #[.slice none 0 0,.slice none 0 0,.slice none 0 0] 109)):World);simp only[hW0]at HX HW hN6⊢;clear hW0;obtain⟨B1,hB1⟩:=nm (w.heap.size);obtain⟨B2,hB2⟩:=nm (w.heap.size+1);obtain⟨B3,hB3⟩:=nm (w.heap.size+1+1);rw[hB3]at hN6⊢;rw[hB2]at HX⊢;rw[hB1]at HX⊢;have HB3:Hid (w.heap.size≤B3):=lh (by omega);clear hB1 hB2 hB3;obtain⟨⟨a0,a1,a2,a3⟩,⟨s0,s1⟩,-,-,-⟩:=HX.out _ br;have HTR:=lh (trims_no h s _ (HX.out _ br).2.2.1 (HX.out _ br).2.2.2.1 HV.out);have HN:=lh hN6;clear hN6
 go_wp2_with (go_at_call 19;(with_reducible refine HTR.out.mono ?_);rintro e w1 ⟨rfl,hb1⟩;obtain⟨n0,n1,n2,n3,n4,n5,n6⟩:=HN.out.carry hb1)
 have r2:=(((HN.out.carry hb1).set0 (.slice none 0 0)).set1 (.slice none 0 0)).set2 (.slice none 0 0);refine bodyPost_ret (v:=.tuple #[.agg #[.slice none 0 0,.slice none 0 0,.slice none 0 0],.int .i64 1]) (by simp[results,Tryz.results44,go_sem,r2.1,r2.2.1,r2.2.2.1]) rfl ⟨rfl,?_⟩;exact(((HW.out _ hb1).setCell (show w.heap.size≤(⟨B3,0,none⟩:Addr).block from HB3.out) _).setCell (show w.heap.size≤(⟨B3,1,none⟩:Addr).block from HB3.out) _).setCell (show w.heap.size≤(⟨B3,2,none⟩:Addr).block from HB3.out) _
theorem nil_keep{w:World}{B j:Nat}{p:Addr}{v:Value}(h:w.cell? ⟨B,j,none⟩=some (.slice none 0 0))(hp:w.cell? p=some v)(hv:v≠.slice none 0 0)(x:Value):(w.setCell ⟨B,j,none⟩ x).cell? p=some v:=
 (World.cell?_setCell_other _ _ _ _ (fun e=>hv (by rw[e]at h;rw[h]at hp;cases hp;rfl))).trans hp
theorem trims_put{w:World}{B:Nat}{a:Option Addr}{h:HouseR}{C:List CueR}{P:List LstR}(t:TrimsIn w a h C P)(hs:0<h.sets.length)(f:PC w B (.slice none 0 0) (.slice none 0 0) (.slice none 0 0))(x y z:Value):TrimsIn (((w.setCell ⟨B,0,none⟩ x).setCell ⟨B,1,none⟩ y).setCell ⟨B,2,none⟩ z) a h C P:=by
 have keep:∀(p:Addr) (v:Value),w.cell? p=some v→v≠.slice none 0 0→(((w.setCell ⟨B,0,none⟩ x).setCell ⟨B,1,none⟩ y).setCell ⟨B,2,none⟩ z).cell? p=some v:=fun p v hp hv=>by
  have a1:(w.setCell ⟨B,0,none⟩ x).cell? ⟨B,1,none⟩=some (.slice none 0 0):=(World.cell?_setCell_other _ _ _ _ (off_ne (by decide))).trans f.2.1;have a2:((w.setCell ⟨B,0,none⟩ x).setCell ⟨B,1,none⟩ y).cell? ⟨B,2,none⟩=some (.slice none 0 0):=(World.cell?_setCell_other _ _ _ _ (off_ne (by decide))).trans ((World.cell?_setCell_other _ _ _ _ (off_ne (by decide))).trans f.2.2.1);exact nil_keep a2 (nil_keep a1 (nil_keep f.1 hp hv x) hv y) hv z
 have hl:∀i,i<P.length→(lg P i).xs.length=h.sets.length:=fun i hi=>by rw[t.rows.eq i (by have:=t.rows.len;omega),trimL_len]
 refine⟨t.rows,fun hp=>?_,fun i hi hp=>?_,t.none⟩
 ·obtain⟨b,off,rfl,hlt,hc⟩:=t.lies hp
  exact⟨b,off,rfl,by simpa[World.setCell]using hlt,fun i hi=>keep _ _ (hc i hi) (fun e=>by injection e with _ e2 _;have:=hl i hi;omega)⟩
 ·obtain⟨b,off,e,hlt,hc⟩:=t.each i hi hp
  exact⟨b,off,e,by simpa[World.setCell]using hlt,fun j hj=>keep _ _ (hc j hj) (fun e=>by cases e)⟩
theorem made_yes(h:HouseR)(s:SheetR)(ga:Option Addr)(G:List Int)(gc:Nat)(w:World)(hh:HouseIn w h)(hs:SheetIn w s)(hG:Nums w.heap.size w ga G)(hgl:G.length≤1000)(hv:sheetB h s=true):
  Calls Tryz.prog 44 #[.agg #[.string h.name,.int .i64 h.height,.slice h.sa h.sets.length h.sc,.slice h.ra h.roofs.length h.rc],.agg #[.slice s.ca s.cues.length s.cc,.slice s.pa s.pairs.length s.pc],.slice ga G.length gc] w fun e w'=>Hid (∃ta tc na nc sv,e=.returned (.tuple #[.agg #[.slice ta (s.cues.length+1) tc,sv,.slice na s.cues.length nc],.int .i64 (startsP s.cues s.pairs (lensL h s.cues s.cues.length) G).2])∧Nums w'.heap.size w' na (lensL h s.cues s.cues.length)∧w'.ownsRow w.heap.size 3 1 sv (startsP s.cues s.pairs (lensL h s.cues s.cues.length) G).1.length (nflat (startsP s.cues s.pairs (lensL h s.cues s.cues.length) G).1)∧(0<h.sets.length→∃P,TrimsIn w' ta h s.cues P))∧Below w.heap.size w w':=by
 have hb0:Below w.heap.size w ((LTw w h s).alloc (.cells #[.slice none 0 0,.slice none 0 0,.slice none 0 0] 109)):=((below_new w _).alloc (by simp) _).alloc (by simp;omega) _
 have HX:Hid (∀w',Below ((LTw w h s).alloc (.cells #[.slice none 0 0,.slice none 0 0,.slice none 0 0] 109)).heap.size ((LTw w h s).alloc (.cells #[.slice none 0 0,.slice none 0 0,.slice none 0 0] 109)) w'→HouseAt w' w.heap.size h∧SheetAt w' (w.heap.size+1) s∧HouseIn w' h∧SheetIn w' s∧Nums w'.heap.size w' ga G):=lh fun w' z=>
  ⟨(((HouseAt.new w h _).carry (below_new _ _)).carry (below_new _ _)).carry z,((show SheetAt (LTw w h s) (w.heap.size+1) s by unfold SheetAt;simp).carry (below_new _ _)).carry z,(hh.grow hb0).grow z,(hs.grow hb0).grow z,(hG.grow hb0).grow z⟩
 have HW:Hid (∀w',Below ((LTw w h s).alloc (.cells #[.slice none 0 0,.slice none 0 0,.slice none 0 0] 109)).heap.size ((LTw w h s).alloc (.cells #[.slice none 0 0,.slice none 0 0,.slice none 0 0] 109)) w'→Below w.heap.size w w'):=lh fun w' z=>hb0.trans (z.mono hb0.size);have HV:=lh hv;have hsl:=hh.slen;have hcl:=hs.clen;have HML:=lh hs.mlen;have HMC:=lh hs.mcap;have HOK:=lh (sheetB_iff.1 hv);clear hh hs hG hb0 hv
 go_enter Tryz.func44,Tryz.ntmps44
 go_upto_region 1 with (fail)
 have hN6:PC ((LTw w h s).alloc (.cells #[.slice none 0 0,.slice none 0 0,.slice none 0 0] 109)) (w.heap.size+1+1) (.slice none 0 0) (.slice none 0 0) (.slice none 0 0):=by
  have e:=PC.put (LTw w h s) (.slice none 0 0) (.slice none 0 0) (.slice none 0 0) 109;rw[show(LTw w h s).heap.size=w.heap.size+1+1 by simp]at e;exact e
 obtain⟨W0,hW0⟩:=nm (((LTw w h s).alloc (.cells #[.slice none 0 0,.slice none 0 0,.slice none 0 0] 109)):World);simp only[hW0]at HX HW hN6⊢;clear hW0;obtain⟨B1,hB1⟩:=nm (w.heap.size);obtain⟨B2,hB2⟩:=nm (w.heap.size+1);obtain⟨B3,hB3⟩:=nm (w.heap.size+1+1);rw[hB3]at hN6⊢;rw[hB2]at HX⊢;rw[hB1]at HX⊢;have HB3:Hid (w.heap.size≤B3):=lh (by omega);clear hB1 hB2 hB3;obtain⟨⟨a0,a1,a2,a3⟩,⟨s0,s1⟩,-,-,-⟩:=HX.out _ br;have HTR:=lh (trims_yes h s _ (HX.out _ br).2.2.1 (HX.out _ br).2.2.2.1 HV.out);have HN:=lh hN6;clear hN6;obtain⟨ca,hca⟩:=nm (s.ca);have HCA:=lh hca;rw[hca]at s0 HTR⊢
 go_upto_region 4 with (go_at_call 19;(with_reducible refine HTR.out.mono ?_);rintro e w1 ⟨hx1,hb1⟩;obtain⟨ta,tc,P,rfl,ht1⟩:=hx1.out;have HT1:=lh ht1;clear hx1 ht1)
 have hsz0:=hb1.size;obtain⟨n₁,hn1⟩:=nm (w1.heap.size)
 have HXX:Hid (∀w',Below n₁ w1 w'→HouseAt w' B1 h∧SheetAt w' B2 s∧HouseIn w' h∧SheetIn w' s∧Nums w'.heap.size w' ga G∧TrimsIn w' ta h s.cues P):=lh fun w' z=>by
  rw[←hn1]at z;have y:=hb1.trans (z.mono hsz0);obtain⟨x1,x2,x3,x4,x5⟩:=HX.out w' y;exact⟨x1,x2,x3,x4,x5,HT1.out.grow z⟩
 have HWW:Hid (∀w',Below n₁ w1 w'→Below w.heap.size w w'):=lh fun w' z=>by rw[←hn1]at z;exact HW.out w' (hb1.trans (z.mono hsz0))
 have HNN:Hid (∀w',Below n₁ w1 w'→PC w' B3 (.slice none 0 0) (.slice none 0 0) (.slice none 0 0)):=lh fun w' z=>by rw[←hn1]at z;exact HN.out.carry (hb1.trans (z.mono hsz0))
 have HWN:Hid (w.heap.size≤n₁):=lh (by have:=(HW.out _ hb1).size;omega);have HB3n:Hid (B3<n₁):=lh (by have:=(HNN.out w1 (by rw[←hn1];exact br)).2.2.2.2.2.2;omega);have hB1:Below n₁ w1 w1:=by rw[←hn1];exact br
 obtain⟨-,⟨t0,t1⟩,-,-,-,-⟩:=HXX.out _ hB1;rw[HCA.out]at t0;clear a0 a1 a2 a3 s0 s1 HX HW HN HTR hb1 hsz0 HT1 hca;have hb2l:B2<w1.heap.size:=wl t0;have HN1:=lh hn1;clear hn1
 go_upto_region 6 with (fail)
 have hn1:=HN1.out;clear HN1;have hB2:=hB1.alloc (by omega) (.cells #[.slice ta (s.cues.length+1) tc,.slice none 0 0,.slice none 0 0] 109);have hP2:=PC.put w1 (.slice ta (s.cues.length+1) tc) (.slice none 0 0) (.slice none 0 0) 109;have hn2:n₁+1≤(w1.alloc (.cells #[.slice ta (s.cues.length+1) tc,.slice none 0 0,.slice none 0 0] 109)).heap.size:=by simp;omega
 generalize w1.alloc (.cells #[.slice ta (s.cues.length+1) tc,.slice none 0 0,.slice none 0 0] 109)=W2 at *;rw[hn1]at hP2⊢;clear hB1 hb2l t0 t1 hn1
 go_loopw [11,12,13,14,15,31] (fun _ _ _ _ _ iv wr=>∃(k:Nat) (v:Value),iv=.int .i64 k∧k≤s.cues.length∧Below n₁ w1 wr∧n₁+1≤wr.heap.size∧Hid (PC wr n₁ (.slice ta (s.cues.length+1) tc) (.slice none 0 0) v∧wr.ownsRow (n₁+1) 3 1 v k (nflat (lensL h s.cues k)))) (fun _ _ _ _ _ iv _=>s.cues.length-(intOf iv).toNat)
 case atStart=>exact⟨0,_,rfl,Nat.zero_le _,hB2,hn2,lh ⟨hP2,World.ownsRow_nil _ _ _ _⟩⟩
 case round=>
  clear hB2 hP2 hn2;obtain⟨k,v,rfl,hk,hB,hnw,HR⟩:=hrel
  by_cases hlt:k<s.cues.length
  ·obtain⟨⟨a0,a1,a2,a3⟩,-,hhi,hsi,-,hti⟩:=HXX.out _ hB
   obtain⟨b,off,ha,hb,hc⟩:=hsi.lies (by omega);rw[HCA.out]at ha;subst ha;obtain⟨d0,d1,d2,d3,d4,d5,d6⟩:=hc k hlt;obtain⟨tb,tf,hta,htb,htx⟩:=hti.lies (by have:=hti.rows.len;omega);subst hta;have hkP:k<P.length:=by have:=hti.rows.len;omega
   have HTK:=lh (hti.rows.eq k hk);have e0:=htx k hkP;obtain⟨q,hq⟩:=nm (cg s.cues k);have HQ:=lh hq;obtain⟨y,hy⟩:=nm (lg P k);have HY:=lh hy;rw[hy]at HTK e0;rw[hq]at d0 d1 d2 d3 d4 d5 d6;have hRG:=(HOK.out.each k hlt).1;rw[hq]at hRG;have HRG:=lh (rightB_iff.2 hRG);have HTO:Hid (TrimOK h y.xs):=lh (by rw[HTK.out];exact trim_ok HOK.out.house (fun j hj=>(HOK.out.each j hj).1) k hk);have HLO:Hid (TmOK (lenTo h y.xs q.moves)):=lh (by have:=len_ok HOK.out.house HTO.out hRG.2 q.moves.length (Nat.le_refl _);rw[List.take_length]at this;exact this);have HSN:Hid (lensL h s.cues (k+1)=lensL h s.cues k++[msF (lenTo h y.xs q.moves)]):=lh (by rw[lensL_snoc,HTK.out,HQ.out]);clear hhi hsi hti hc htx hq hy hRG
   have HLEN:Hid (∀w',Below n₁ w1 w'→Calls Tryz.prog 74 #[.agg #[.string h.name,.int .i64 h.height,.slice h.sa h.sets.length h.sc,.slice h.ra h.roofs.length h.rc],.slice y.a y.xs.length y.c,.agg #[.string q.name,.string q.after,.int .i64 q.link,.int .i64 q.delay,.slice q.ma q.moves.length q.mc,.int .i64 q.crew,.int .i64 q.power]] w' fun e w2=>e=.returned (.tuple #[.agg #[.int .i64 (lenTo h y.xs q.moves).1,.int .i64 (lenTo h y.xs q.moves).2],.int .i64 0])∧Below w'.heap.size w' w2):=lh fun w' z=>by
    obtain⟨-,-,z3,z4,-,z6⟩:=HXX.out w' z;have m1:=z4.each k hlt;have m2:=z6.each k hkP;have m3:=HML.out k hlt;have m4:=HMC.out k hlt;rw[HQ.out]at m1 m3 m4;rw[HY.out]at m2;exact clen_any h q y.a y.xs y.c w' z3 m1 m3 m4 m2 HOK.out.house HRG.out HTO.out
   obtain⟨L,hL⟩:=nm (lenTo h y.xs q.moves);rw[hL]at HLEN HLO HSN;clear hL;have hB3:=hB.alloc (by omega) (LCu q);have hbn:=below_new wr (LCu q);have HC3:=CueAt.new wr q 86 _ rfl;have HR3:Hid (PC (wr.alloc (LCu q)) n₁ (.slice (some ⟨tb,tf,none⟩) (s.cues.length+1) tc) (.slice none 0 0) v∧(wr.alloc (LCu q)).ownsRow (n₁+1) 3 1 v k (nflat (lensL h s.cues k))):=lh ⟨HR.out.1.carry hbn,ownsRow_below HR.out.2 hbn⟩;have hn3:n₁+1≤(wr.alloc (LCu q)).heap.size:=by simp;omega
   have e0':(wr.alloc (LCu q)).cell? ⟨tb,tf+k,none⟩=some (.slice y.a y.xs.length y.c):=(hbn.cell (p:=⟨tb,tf+k,none⟩) htb).trans e0;have htb':tb<(wr.alloc (LCu q)).heap.size:=by simp;omega
   go_upto_region 8 with (fail)
   clear d0 d1 d2 d3 d4 d5 d6 a0 a1 a2 a3 HR hbn hB hnw e0 htb hb;generalize wr.alloc (LCu q)=W3 at *;obtain⟨B12,hB12⟩:=nm (wr.heap.size);rw[hB12]at HC3⊢;clear hB12;have hkk:(k:Int)<(s.cues.length:Int)+1:=by omega
   have HHQ:HeldQ n₁ w1 B12 q W3:=⟨hB3,hn3,HC3⟩;have HPd:=lh (HR3.out.1.carry (below_drewR W3));have HOd:=lh (ownsRow_below HR3.out.2 (below_drewR W3));clear HR3 e0' htb'
   go_cut [13,14] (fun v13 v14 wx=>Meet n₁ w1 (.slice (some ⟨tb,tf,none⟩) (s.cues.length+1) tc) (.slice none 0 0) v k (nflat (lensL h s.cues k)) L v13 v14 wx)
   case first=>
    have x0:∀w',HeldQ n₁ w1 B12 q w'→w'.cell? ⟨B1,0,none⟩=some (.string h.name):=fun w' z=>(HXX.out w' z.old).1.1;have x1:∀w',HeldQ n₁ w1 B12 q w'→w'.cell? ⟨B1,1,none⟩=some (.int .i64 h.height):=fun w' z=>(HXX.out w' z.old).1.2.1;have x2:∀w',HeldQ n₁ w1 B12 q w'→w'.cell? ⟨B1,2,none⟩=some (.slice h.sa h.sets.length h.sc):=fun w' z=>(HXX.out w' z.old).1.2.2.1;have x3:∀w',HeldQ n₁ w1 B12 q w'→w'.cell? ⟨B1,3,none⟩=some (.slice h.ra h.roofs.length h.rc):=fun w' z=>(HXX.out w' z.old).1.2.2.2
    have x4:∀w',HeldQ n₁ w1 B12 q w'→w'.cell? ⟨tb,tf+k,none⟩=some (.slice y.a y.xs.length y.c):=fun w' z=>by
     obtain⟨tb',tf',e,_,ex⟩:=(HXX.out w' z.old).2.2.2.2.2.lies (by omega)
     cases e
     have:=ex k hkP;rw[HY.out]at this;exact this
    have c0:∀w',HeldQ n₁ w1 B12 q w'→w'.cell? ⟨B12,0,none⟩=some (.string q.name):=fun w' z=>z.cu.1;have c1:∀w',HeldQ n₁ w1 B12 q w'→w'.cell? ⟨B12,1,none⟩=some (.string q.after):=fun w' z=>z.cu.2.1;have c2:∀w',HeldQ n₁ w1 B12 q w'→w'.cell? ⟨B12,2,none⟩=some (.int .i64 q.link):=fun w' z=>z.cu.2.2.1;have c3:∀w',HeldQ n₁ w1 B12 q w'→w'.cell? ⟨B12,3,none⟩=some (.int .i64 q.delay):=fun w' z=>z.cu.2.2.2.1;have c4:∀w',HeldQ n₁ w1 B12 q w'→w'.cell? ⟨B12,4,none⟩=some (.slice q.ma q.moves.length q.mc):=fun w' z=>z.cu.2.2.2.2.1;have c5:∀w',HeldQ n₁ w1 B12 q w'→w'.cell? ⟨B12,5,none⟩=some (.int .i64 q.crew):=fun w' z=>z.cu.2.2.2.2.2.1;have c6:∀w',HeldQ n₁ w1 B12 q w'→w'.cell? ⟨B12,6,none⟩=some (.int .i64 q.power):=fun w' z=>z.cu.2.2.2.2.2.2;refine wp_region_held_drew (S:=(HeldQ n₁ w1 B12 q)) (by kernel_rfl) (HHQ.next (below_drewR W3)) (fun hHeld=>?_);obtain⟨W5,hW5⟩:=nm (W3.drew);simp only[hW5]at hHeld HPd HOd⊢;clear hW5;refine tk 0 ?_;refine tk 1 ?_;refine tk 2 ?_;refine tk 3 ?_;refine tk 4 ?_;refine tk 5 ?_;clear x0 x1 x2 x3 x4 c0 c1 c2 c3 c4 c5 c6;refine rq [6,10] ?_;refine AllReadyH.cons (o:=_) rfl (fun K hK=>?_) (AllReadyH.cons (o:=_) rfl (fun K hK=>?_) AllReadyH.nil)
    ·try simp only[s_4,s_5,s_6]
     go_simp
     (go_at_call 74;go_split_ands;(with_reducible refine(HLEN.out _ hHeld.old).mono ?_);rintro e y1 ⟨rfl,hy1⟩;have hH1:=hHeld.next hy1;have HP1:=lh (HPd.out.carry hy1);have HO1:=lh (ownsRow_below HOd.out hy1))
     go_wp2_with fail
     refine hK.out _ _ hH1 (fun hHeld=>?_);clear hK K
     try simp only[Act.put,s_1,s_2,s_3,s_4,s_5,s_6]
     refine tk 7 ?_;refine tk 8 ?_;refine tk 9 ?_;refine r1 10 (fun K hK=>?_);rw[if_pos (by rfl)];go_split_ands
     go_wp2_with fail
     have hH2:=hH1.next (below_new y1 (.cells #[.int .i64 0,.int .i64 0] 49));have HP2:=lh (HP1.out.carry (below_new y1 (.cells #[.int .i64 0,.int .i64 0] 49)));have HO2:=lh (ownsRow_below HO1.out (below_new y1 (.cells #[.int .i64 0,.int .i64 0] 49)));have F2:=FI.new y1 49;have hlo:n₁+1≤y1.heap.size:=hH1.lo;have HNE:Hid (v.ownBlock≠some y1.heap.size):=lh fun e=>by have:=(HO1.out.lt _ e).2;omega
     have HBN:Hid (B12≠y1.heap.size):=lh (Nat.ne_of_lt (wl hH1.cu.1));obtain⟨B13,hB13⟩:=nm (y1.heap.size);rw[hB13]at F2 HNE HBN hlo⊢;clear hB13;generalize y1.alloc (.cells #[.int .i64 0,.int .i64 0] 49)=W4 at *;refine hK.out _ _ hH2 (fun hHeld=>?_);clear hK K
     try simp only[Act.put,s_1,s_2,s_3,s_4,s_5,s_6]
     refine r1 11 (fun K hK=>?_);rw[if_pos (by rfl)];go_split_ands;obtain⟨f0,f1,f2,f3,f4⟩:=F2
     go_wp2_with fail
     refine hK.out _ _ ((hH2.put HBN.out hlo _).put HBN.out hlo _) (fun hHeld=>?_);clear hK K
     try simp only[Act.put,s_1,s_2,s_3,s_4,s_5,s_6]
     refine tk 12 ?_;refine wpAnyH_done (by kernel_rfl) ?_ _
     go_wp2_with fail
     go_meet
     exact meetC L hH2.old hH2.lo HP2.out HO2.out hlo HNE.out ⟨f0,f1,f2,f3,f4⟩
    ·rw[if_pos (by rfl)]
     go_split_ands
     go_wp2_with fail
     have hH2:=hHeld.next (below_new W5 (.cells #[.int .i64 0,.int .i64 0] 49));have HP2:=lh (HPd.out.carry (below_new W5 (.cells #[.int .i64 0,.int .i64 0] 49)));have HO2:=lh (ownsRow_below HOd.out (below_new W5 (.cells #[.int .i64 0,.int .i64 0] 49)));have F2:=FI.new W5 49;have hlo:n₁+1≤W5.heap.size:=hHeld.lo;have HNE:Hid (v.ownBlock≠some W5.heap.size):=lh fun e=>by have:=(HOd.out.lt _ e).2;omega
     have HBN:Hid (B12≠W5.heap.size):=lh (Nat.ne_of_lt (wl hHeld.cu.1));obtain⟨B13,hB13⟩:=nm (W5.heap.size);rw[hB13]at F2 HNE HBN hlo⊢;clear hB13;generalize W5.alloc (.cells #[.int .i64 0,.int .i64 0] 49)=W4 at *;refine hK.out _ _ hH2 (fun hHeld=>?_);clear hK K
     try simp only[Act.put,s_1,s_2,s_3,s_4,s_5,s_6]
     refine r1 6 (fun K hK=>?_)
     try simp only[s_4,s_5,s_6]
     go_simp
     (go_at_call 74;go_split_ands;(with_reducible refine(HLEN.out _ hHeld.old).mono ?_);rintro e y1 ⟨rfl,hy1⟩;have hH1:=hHeld.next hy1;have HP1:=lh (HP2.out.carry hy1);have HO1:=lh (ownsRow_below HO2.out hy1);have F3:=F2.carry hy1)
     go_wp2_with fail
     refine hK.out _ _ hH1 (fun hHeld=>?_);clear hK K
     try simp only[Act.put,s_1,s_2,s_3,s_4,s_5,s_6]
     refine tk 7 ?_;refine tk 8 ?_;refine tk 9 ?_;refine r1 11 (fun K hK=>?_);rw[if_pos (by rfl)];go_split_ands;obtain⟨f0,f1,f2,f3,f4⟩:=F3
     go_wp2_with fail
     refine hK.out _ _ ((hH1.put HBN.out hlo _).put HBN.out hlo _) (fun hHeld=>?_);clear hK K
     try simp only[Act.put,s_1,s_2,s_3,s_4,s_5,s_6]
     refine tk 12 ?_;refine wpAnyH_done (by kernel_rfl) ?_ _
     go_wp2_with fail
     go_meet
     exact meetC L hH1.old hH1.lo HP1.out HO1.out hlo HNE.out ⟨f0,f1,f2,f3,f4⟩
   case rest=>
    obtain⟨B13,rfl,rfl,hB4,hn4,hlo,hq4⟩:=hcut;clear HPd HOd HHQ HC3 HB3;have F4:=hq4.out.1;have HQ4:=lh hq4.out.2;clear hq4;have HMUL:=lh fun w'=>mul_any 1000 1 L.1 L.2 ((validF_iff _ _).2 ⟨by decide,by decide,by decide,by decide,by decide⟩) HLO.out.ok w';rw[ms_mul HLO.out]at HMUL;have HMV:=lh (ms_valid HLO.out);have HMB:=lh (ms_bd HLO.out);obtain⟨N,hN⟩:=nm (lowN (1000*L.1) L.2);obtain⟨D,hD⟩:=nm (lowD (1000*L.1) L.2);have hMS:msF L=ceilI N D:=by unfold msF;rw[hN,hD]
    rw[hN,hD]at HMUL HMV;have HMS:=lh hMS;rw[hMS]at HSN;clear hN hD hMS
    go_upto_region 11 with (fail)
    have HNE:Hid (v.ownBlock≠some B13):=lh HQ4.out.2.2
    go_cut [14] (fun v14 wx=>Meet n₁ w1 (.slice (some ⟨tb,tf,none⟩) (s.cues.length+1) tc) (.slice none 0 0) v k (nflat (lensL h s.cues k)) (N,D) (.pointer (some ⟨B13,0,none⟩)) v14 wx)
    case first=>
     have HP0:=lh (HQ4.out.1.carry (below_drewR _));have HO0:=lh (ownsRow_below HQ4.out.2.1 (below_drewR _));have F0:=F4.carry (below_drewR _);refine wp_region_held_drew (S:=(HeldS n₁ w1)) (by kernel_rfl) ((HeldS.mk hB4 hn4).next (below_drewR _)) (fun hHeld=>?_);refine rq [0,1] ?_;refine AllReadyH.cons (o:=_) rfl (fun K hK=>?_) (AllReadyH.cons (o:=_) rfl (fun K hK=>?_) AllReadyH.nil)
     focus
      try simp only[s_4,s_6]
      go_simp
      (go_at_call 76;go_split_ands;(with_reducible refine(twhole_any 1000 _).mono ?_);rintro e y1 ⟨rfl,hy1⟩;have hH1:=hHeld.next hy1;have HP1:=lh (HP0.out.carry hy1);have HO1:=lh (ownsRow_below HO0.out hy1);have F1:=F0.carry hy1)
      go_wp2_with fail
      refine hK.out _ _ hH1 (fun hHeld=>?_);clear hK K
      try simp only[Act.put,s_1,s_2,s_3,s_4,s_5,s_6]
      refine r1 1 (fun K hK=>?_);rw[if_pos (by rfl)];obtain⟨f0,f1,f2,f3,f4⟩:=id F1
      go_wp2_with fail
      refine hK.out _ _ hH1 (fun hHeld=>?_);clear hK K f0 f1 f2 f3 f4
     rotate_left
     focus
      rw[if_pos (by rfl)];obtain⟨f0,f1,f2,f3,f4⟩:=id F0
      go_wp2_with fail
      refine hK.out _ _ hHeld (fun hHeld=>?_);clear hK K f0 f1 f2 f3 f4
      try simp only[Act.put,s_1,s_2,s_3,s_4,s_5,s_6]
      refine r1 0 (fun K hK=>?_)
      try simp only[s_4,s_6]
      go_simp
      (go_at_call 76;go_split_ands;(with_reducible refine(twhole_any 1000 _).mono ?_);rintro e y1 ⟨rfl,hy1⟩;have hH1:=hHeld.next hy1;have HP1:=lh (HP0.out.carry hy1);have HO1:=lh (ownsRow_below HO0.out hy1);have F1:=F0.carry hy1)
      go_wp2_with fail
      refine hK.out _ _ hH1 (fun hHeld=>?_);clear hK K
     rotate_left
     all_goals
      try simp only[Act.put,s_1,s_2,s_3,s_4,s_5,s_6]
      refine r1 2 (fun K hK=>?_)
      try simp only[s_4,s_5,s_6]
      go_simp
      (go_at_call 75;go_split_ands;(with_reducible refine(HMUL.out _).mono ?_);rintro e y2 ⟨rfl,hy2⟩;have hH2:=hH1.next hy2;have HP2:=lh (HP1.out.carry hy2);have HO2:=lh (ownsRow_below HO1.out hy2);have F2:=F1.carry hy2)
      go_wp2_with fail
      refine hK.out _ _ hH2 (fun hHeld=>?_);clear hK K
      try simp only[Act.put,s_1,s_2,s_3,s_4,s_5,s_6]
      refine tk 3 ?_;refine tk 4 ?_;refine tk 5 ?_;refine r1 6 (fun K hK=>?_);rw[if_pos (by rfl)];obtain⟨f0,f1,f2,f3,f4⟩:=F2
      go_wp2_with fail
      refine hK.out _ _ ((hH2.put hlo _).put hlo _) (fun hHeld=>?_);clear hK K
      try simp only[Act.put,s_1,s_2,s_3,s_4,s_5,s_6]
      refine tk 7 ?_;refine wpAnyH_done (by kernel_rfl) ?_ _
      go_wp2_with fail
      go_meet
      exact meetC (N,D) hH2.old hH2.lo HP2.out HO2.out hlo HNE.out ⟨f0,f1,f2,f3,f4⟩
    case rest=>
     obtain⟨B13',hb13,rfl,hB6,hn6,-,hq6⟩:=hcut
     cases hb13
     obtain⟨g0,g1,-,-,-⟩:=hq6.out.1;have HP6:=lh hq6.out.2.1;have HO6:=lh hq6.out.2.2.1;clear hq6 HQ4 F4 hB4 hn4 HMUL HLEN;have HCE:=lh fun w'=>ceil_any N D HMV.out w';obtain⟨C,hC⟩:=nm (ceilI N D);rw[hC]at HCE HSN HMS;clear hC
     go_upto_region 17 with (go_at_call 77;(with_reducible refine(HCE.out _).mono ?_);rintro e w7 ⟨rfl,hb7⟩;have hB7:=hB6.trans (hb7.mono (by omega));have hn7:=Nat.le_trans hn6 hb7.size;have HP7:=lh (HP6.out.carry hb7);have HO7:=lh (ownsRow_below HO6.out hb7))
     clear g0 g1 hB6 hn6 HP6 HO6 hb7;obtain⟨p0,p1,p2,p3,p4,p5,p6⟩:=HP7.out;have hbx:=below_new w7 (.cells #[.int .i64 C] 3);have HKL:Hid ((lensL h s.cues k).length=k):=lh (lensL_len _ _ _);have HO8:Hid ((w7.alloc (.cells #[.int .i64 C] 3)).ownsRow (n₁+1) 3 1 v (lensL h s.cues k).length (nflat (lensL h s.cues k))):=lh (by rw[HKL.out];exact ownsRow_below HO7.out hbx);have HP8:=lh (HP7.out.carry hbx);have HB8:=hB7.alloc (by omega) (.cells #[.int .i64 C] 3);have hn8:n₁+1≤(w7.alloc (.cells #[.int .i64 C] 3)).heap.size:=by simp;omega
     have hkl:(lensL h s.cues k).length≤1000000:=by rw[HKL.out];omega
     have hc8:(w7.alloc (.cells #[.int .i64 C] 3)).cell? ⟨w7.heap.size,0,none⟩=some (.int .i64 C):=by simp
     clear hbx
     go_upto_region 18 with (at_builtin;refine num_append rfl _ _ rfl (n₁+1) _ (lensL h s.cues k) rfl HO8.out _ C rfl hc8 hkl hn8 ?_;intro v2 w8 hown8 hg8;obtain⟨va,vc,hv2,-,-,-,-⟩:=num_of_row hown8;rw[List.length_append,List.length_singleton]at hv2;subst hv2;have HP9:=lh (HP8.out.grown hg8 (fun e=>by have:=(HO8.out.lt _ e.symm).1;omega));have HO9:=lh hown8;have hB9:=HB8.grown hg8 (by omega) (fun j hj=>by have:=(HO8.out.lt _ hj).1;omega);have hn9:=Nat.le_trans hn8 hg8.size;obtain⟨z0,z1,z2,z3,z4,z5,z6⟩:=HP9.out;clear hown8 hg8)
     have HP10:=lh (HP9.out.set2 (.slice va ((lensL h s.cues k).length+1) vc))
     have HO10:Hid ((w8.setCell ⟨n₁,2,none⟩ (.slice va ((lensL h s.cues k).length+1) vc)).ownsRow (n₁+1) 3 1 (.slice va ((lensL h s.cues k).length+1) vc) (k+1) (nflat (lensL h s.cues (k+1)))):=lh (by
      have e:(lensL h s.cues k++[C]).length=k+1:=by rw[List.length_append,HKL.out];rfl
      have z:=HO9.out;rw[e]at z;rw[HKL.out]at z⊢;rw[HSN.out];exact own_far z z6 (fun q=>by have:=(z.lt _ q).1;omega) _)
     have hB10:=hB9.setCell (show n₁≤(⟨n₁,2,none⟩:Addr).block from Nat.le_refl _) (.slice va ((lensL h s.cues k).length+1) vc);have hn10:n₁+1≤(w8.setCell ⟨n₁,2,none⟩ (.slice va ((lensL h s.cues k).length+1) vc)).heap.size:=by simp;omega
     clear z0 z1 z2 z3 z4 z5 z6
     go_wp2_with fail
     go_roundw
     case rel=>exact⟨k+1,_,by go_num,by omega,hB10,hn10,lh ⟨HP10.out,HO10.out⟩⟩
     case measure=>simp[intOf];omega
  ·obtain rfl:k=s.cues.length:=by omega
   have hll:(lensL h s.cues s.cues.length).length=s.cues.length:=lensL_len _ _ _;obtain⟨na,nc,hv,-,-,-,hnm⟩:=num_of_row (L:=lensL h s.cues s.cues.length) (by rw[hll];exact HR.out.2);rw[hll]at hv;subst hv;have HLL:=lh hll;obtain⟨-,⟨s0,s1⟩,-,hsi,hGi,hTi⟩:=HXX.out _ hB;have HST:=lh (starts_any s.ca s.pa na ga s.cues s.pairs (lensL h s.cues s.cues.length) G s.cc s.pc nc gc wr hcl (by rw[hll];exact hcl) hgl hsi.lies hsi.plies hnm hGi);have HNM:=lh hnm;have HTI:=lh hTi;rw[hll,HCA.out]at HST;rw[HCA.out]at s0;obtain⟨p0,p1,p2,p3,p4,p5,p6⟩:=HR.out.1;clear hll hsi hGi hTi hnm hlt hk;obtain⟨St,hSt⟩:=nm (startsP s.cues s.pairs (lensL h s.cues s.cues.length) G);rw[hSt]at HST;have HSS:=lh hSt;clear hSt
   go_upto_region 20 with (go_at_call 78;(with_reducible refine HST.out.mono ?_);rintro e w9 hx9;obtain⟨sv,rfl,ho9,hb9⟩:=hx9.out;obtain⟨va,vc,hv9,-,-,-,-⟩:=num_of_row ho9;subst hv9;have HO9:=lh ho9;have HP9:=lh (HR.out.1.carry hb9);have hB9:=hB.trans (hb9.mono (by omega));have hn9:=Nat.le_trans hnw hb9.size;obtain⟨z0,z1,z2,z3,z4,z5,z6⟩:=HP9.out;clear hx9 ho9)
   have HP10:=lh (HP9.out.set1 (.slice va St.1.length vc));have HN3:=lh ((HNN.out _ hB9).other (show B3≠n₁ by have:=(HNN.out _ hB9).2.2.2.2.2.2;have:=HB3n.out;omega) 1 (.slice va St.1.length vc));have hB10:=hB9.setCell (show n₁≤(⟨n₁,1,none⟩:Addr).block from Nat.le_refl _) (.slice va St.1.length vc);have HOL:=lh (own_far (o:=1) (ownsRow_below HR.out.2 hb9) z6 (fun q=>by have:=(HR.out.2.lt _ q).1;omega) (.slice va St.1.length vc));have HOS:=lh (own_far (o:=1) HO9.out z6 (fun q=>by have:=(HO9.out.lt _ q).1;omega) (.slice va St.1.length vc));clear z0 z1 z2 z3 z4 z5 z6 p0 p1 p2 p3 p4 p5 p6 s0 s1 hb9;generalize w9.setCell ⟨n₁,1,none⟩ (.slice va St.1.length vc)=W10 at *;obtain⟨z0,z1,z2,z3,z4,z5,z6⟩:=HP10.out;obtain⟨p0,p1,p2,p3,p4,p5,p6⟩:=HN3.out
   go_wp2_with fail
   have r2:=((HN3.out.set0 (.slice ta (s.cues.length+1) tc)).set1 (.slice va St.1.length vc)).set2 (.slice na s.cues.length nc);have HLN:=own_put3 (x:=.slice ta (s.cues.length+1) tc) (y:=.slice va St.1.length vc) (z:=.slice na s.cues.length nc) HOL.out HN3.out (fun q=>by have:=(HOL.out.lt _ q).1;have:=HB3n.out;omega);have HSN:=own_put3 (x:=.slice ta (s.cues.length+1) tc) (y:=.slice va St.1.length vc) (z:=.slice na s.cues.length nc) HOS.out HN3.out (fun q=>by have:=(HOS.out.lt _ q).1;have:=HB3n.out;omega);refine bodyPost_ret (v:=.tuple #[.agg #[.slice ta (s.cues.length+1) tc,.slice va St.1.length vc,.slice na s.cues.length nc],.int .i64 St.2]) (by simp[results,Tryz.results44,go_sem,r2.1,r2.2.1,r2.2.2.1]) rfl ⟨?_,?_⟩
   ·rw[HSS.out]
    refine lh ⟨ta,tc,na,nc,_,rfl,?_,ownsRow_base HSN (by have:=HWN.out;omega),fun q=>⟨_,trims_put (HXX.out _ hB10).2.2.2.2.2 q HN3.out _ _ _⟩⟩;obtain⟨na',nc',he,-,-,-,hnm⟩:=num_of_row (L:=lensL h s.cues s.cues.length) (by rw[HLL.out];exact HLN);rw[HLL.out]at he
    cases he
    exact hnm
   ·exact(((HWW.out _ hB10).setCell (show w.heap.size≤(⟨B3,0,none⟩:Addr).block from HB3.out) _).setCell (show w.heap.size≤(⟨B3,1,none⟩:Addr).block from HB3.out) _).setCell (show w.heap.size≤(⟨B3,2,none⟩:Addr).block from HB3.out) _
end
section
open Go.RowKit
structure PlanOK(C:List CueR)(A:List (ByteArray×ByteArray))(N G S:List Int):Prop where
 linked:linkedB C A=true
 lenN:N.length=C.length
 lenG:G.length=manTo C C.length
 lenS:S.length=C.length
 lens:∀i,i<C.length→0≤ig N i∧ig N i≤2147483648
 starts:∀i,i<C.length→0≤ig S i∧ig S i≤261993005056
theorem plan_ok{C:List CueR}{A:List (ByteArray×ByteArray)}{N G:List Int}(h:(startsP C A N G).2=0)(hl:C.length≤60):PlanOK C A N G (startsP C A N G).1:=by
 unfold startsP at h⊢
 split at h
 case isFalse=>cases h
 rename_i h1
 rw[if_pos h1]
 split at h
 case isFalse=>cases h
 rename_i h2
 rw[if_pos h2]
 split at h
 ·cases h
 rename_i h3
 rw[if_neg h3]
 split at h
 ·cases h
 rename_i h4
 rw[if_neg h4]
 have hN:N.any wrongT=false:=by
  cases e:N.any wrongT
  ·rfl
  ·exact absurd (by rw[e];rfl) h3
 have hG:G.any wrongT=false:=by
  cases e:G.any wrongT
  ·rfl
  ·exact absurd (by rw[e];exact Bool.or_true _) h3
 have hS:=pass2_small h1 hG h2.2 hN h2.1 (ordP (hangs C)).length (Nat.le_refl _);have ol:=ord_le C;refine⟨h1,h2.1,h2.2,pass2_len _ _ _ _,fun i hi=>wrongT_no hN i (by omega),fun i hi=>?_⟩;have:=hS i (by rw[pass2_len];exact hi);have e:startsV C N G=pass2 C N G (ordP (hangs C)).length:=rfl
 dsimp only
 rw[e];omega
end
section
open Go.RowKit Go.Shelf
attribute [local go_sem] Oper.semAt_some
noncomputable def planN(h:HouseR)(s:SheetR):List Int:=lensL h s.cues s.cues.length
noncomputable def planE(h:HouseR)(s:SheetR)(G:List Int):Int:=if sheetB h s=true then(startsP s.cues s.pairs (planN h s) G).2 else 1
noncomputable def planS(h:HouseR)(s:SheetR)(G:List Int):List Int:=(startsP s.cues s.pairs (planN h s) G).1
theorem plan_sheet{h:HouseR}{s:SheetR}{G:List Int}(e:planE h s G=0):SheetOK h s∧PlanOK s.cues s.pairs (planN h s) G (planS h s G):=by
 unfold planE at e
 by_cases c:sheetB h s=true
 ·rw[if_pos c]at e
  have ok:=sheetB_iff.1 c;exact⟨ok,plan_ok e ok.cues⟩
 ·rw[if_neg c]at e;cases e
def PlanAt(w:World)(h:HouseR)(s:SheetR)(G:List Int)(sa na:Option Addr)(sn nn:Nat):Prop:=sn=s.cues.length∧nn=s.cues.length∧Nums w.heap.size w sa (planS h s G)∧Nums w.heap.size w na (planN h s)
theorem made_any(h:HouseR)(s:SheetR)(ga:Option Addr)(G:List Int)(gc:Nat)(w:World)(hh:HouseIn w h)(hs:SheetIn w s)(hG:Nums w.heap.size w ga G)(hgl:G.length≤1000):
  Calls Tryz.prog 44 #[.agg #[.string h.name,.int .i64 h.height,.slice h.sa h.sets.length h.sc,.slice h.ra h.roofs.length h.rc],.agg #[.slice s.ca s.cues.length s.cc,.slice s.pa s.pairs.length s.pc],.slice ga G.length gc] w fun e w'=>Hid (∃(ta:Option Addr) (tn tc:Nat) (sa:Option Addr) (sn sc:Nat) (na:Option Addr) (nn nc:Nat),e=.returned (.tuple #[.agg #[.slice ta tn tc,.slice sa sn sc,.slice na nn nc],.int .i64 (planE h s G)])∧(planE h s G=0→PlanAt w' h s G sa na sn nn))∧Below w.heap.size w w':=by
 cases hv:sheetB h s
 ·refine(made_no h s ga G gc w hh hs hG hv).mono fun e w' z=>⟨lh ⟨none,0,0,none,0,0,none,0,0,z.1.trans ?_,?_⟩,z.2⟩
  ·unfold planE;rw[hv];rfl
  ·intro q;unfold planE at q;rw[hv]at q;cases q
 ·refine(made_yes h s ga G gc w hh hs hG hgl hv).mono fun e w' z=>⟨?_,z.2⟩
  obtain⟨ta,tc,na,nc,sv,he,hn,ho,-⟩:=z.1.out;obtain⟨sa,sc,hsv,-,-,-,hsn⟩:=num_of_row ho;subst hsv;refine lh ⟨ta,_,tc,sa,_,sc,na,_,nc,he.trans (by unfold planE;rw[if_pos hv];rfl),fun q=>?_⟩;have po:=plan_sheet q;exact⟨po.2.lenS,rfl,hsn,hn⟩
theorem made_more(h:HouseR)(s:SheetR)(ga:Option Addr)(G:List Int)(gc:Nat)(w:World)(hh:HouseIn w h)(hs:SheetIn w s)(hG:Nums w.heap.size w ga G)(hgl:G.length≤1000)(q:planE h s G=0):
  Calls Tryz.prog 44 #[.agg #[.string h.name,.int .i64 h.height,.slice h.sa h.sets.length h.sc,.slice h.ra h.roofs.length h.rc],.agg #[.slice s.ca s.cues.length s.cc,.slice s.pa s.pairs.length s.pc],.slice ga G.length gc] w fun e w'=>Hid (∃(ta:Option Addr) (tc:Nat) (sa:Option Addr) (sc:Nat) (na:Option Addr) (nc:Nat),e=.returned (.tuple #[.agg #[.slice ta (s.cues.length+1) tc,.slice sa s.cues.length sc,.slice na s.cues.length nc],.int .i64 0])∧Nums w'.heap.size w' sa (planS h s G)∧Nums w'.heap.size w' na (planN h s)∧(0<h.sets.length→∃P,TrimsIn w' ta h s.cues P))∧Below w.heap.size w w':=by
 have po:=plan_sheet q;have hv:=sheetB_iff.2 po.1;have e2:(startsP s.cues s.pairs (planN h s) G).2=0:=by unfold planE at q;rwa [if_pos hv]at q
 refine(made_yes h s ga G gc w hh hs hG hgl hv).mono fun e w' z=>⟨?_,z.2⟩;obtain⟨ta,tc,na,nc,sv,he,hn,ho,ht⟩:=z.1.out;obtain⟨sa,sc,hsv,-,-,-,hsn⟩:=num_of_row ho;subst hsv;have hl:(startsP s.cues s.pairs (lensL h s.cues s.cues.length) G).1.length=s.cues.length:=po.2.lenS;rw[hl]at he;exact lh ⟨ta,tc,sa,sc,na,nc,he.trans (by rw[show(startsP s.cues s.pairs (lensL h s.cues s.cues.length) G).2=0 from e2]),hsn,hn,ht⟩
noncomputable def endsL(h:HouseR)(s:SheetR)(G:List Int)(n:Nat):List Int:=(List.range n).map fun i=>ig (planS h s G) i+ig (planN h s) i
theorem endsL_snoc(h:HouseR)(s:SheetR)(G:List Int)(n:Nat):endsL h s G (n+1)=endsL h s G n++[ig (planS h s G) n+ig (planN h s) n]:=by
 unfold endsL;rw[List.range_succ,List.map_append]
 rfl
theorem endsL_len(h:HouseR)(s:SheetR)(G:List Int)(n:Nat):(endsL h s G n).length=n:=by unfold endsL;rw[List.length_map,List.length_range]
noncomputable def endsP(h:HouseR)(s:SheetR)(G:List Int):List Int:=if planE h s G=0 then endsL h s G s.cues.length else[]
theorem ends_any(h:HouseR)(s:SheetR)(ga:Option Addr)(G:List Int)(gc:Nat)(w:World)(hh:HouseIn w h)(hs:SheetIn w s)(hG:Nums w.heap.size w ga G)(hgl:G.length≤1000):
  Calls Tryz.prog 18 #[.agg #[.string h.name,.int .i64 h.height,.slice h.sa h.sets.length h.sc,.slice h.ra h.roofs.length h.rc],.agg #[.slice s.ca s.cues.length s.cc,.slice s.pa s.pairs.length s.pc],.slice ga G.length gc] w fun e w'=>Hid (∃v,e=.returned (.tuple #[v,.int .i64 (planE h s G)])∧w'.ownsRow w.heap.size 3 1 v (endsP h s G).length (nflat (endsP h s G)))∧Below w.heap.size w w':=by
 obtain⟨hb0,HX,HW⟩:=o1 hh hs hG;have HP:=lh fun (q:planE h s G=0)=>plan_sheet q;have hcl:=hs.clen;clear hh hs hG hb0;obtain⟨E,hE⟩:=nm (planE h s G)
 by_cases hz:E=0
 case neg=>
  have HE:=lh hE;have HEP:Hid (endsP h s G=[]):=lh (by unfold endsP;rw[hE,if_neg hz]);have g0:(E !=0)=true:=bne_iff_ne.2 hz;clear hz hE
  go_enter Tryz.func18,Tryz.ntmps18
  go_upto_region 1 with (fail)
  obtain⟨W0,hW0⟩:=nm ((LTw w h s):World);simp only[hW0]at HX HW⊢;clear hW0;obtain⟨B1,hB1⟩:=nm (w.heap.size);obtain⟨B2,hB2⟩:=nm (w.heap.size+1);rw[hB2]at HX⊢;rw[hB1]at HX⊢;have HBB:Hid (w.heap.size=B1):=lh hB1;clear hB1 hB2;obtain⟨⟨a0,a1,a2,a3⟩,⟨s0,s1⟩,-,-,-⟩:=HX.out _ br;have HMD:=lh (made_any h s ga G gc _ (HX.out _ br).2.2.1 (HX.out _ br).2.2.2.1 (HX.out _ br).2.2.2.2 hgl)
  go_wp2_with (go_at_call 44;(with_reducible refine HMD.out.mono ?_);rintro e w1 ⟨hx1,hb1⟩;obtain⟨ta,tn,tc,sa,sn,sc,na,nn,nc,rfl,hp1⟩:=hx1.out;have HP1:=lh hp1;clear hx1 hp1;rw[HE.out])
  go_ret2
  exact⟨lh ⟨.slice none 0 0,by first | rfl | (rw[HE.out];rfl),by rw[HEP.out];exact World.ownsRow_nil _ _ _ _⟩,(HW.out _ hb1).alloc (by have:=(HW.out _ hb1).size;omega) _⟩
 case pos=>
  subst hz;have HE:=lh hE;have HEP:Hid (endsP h s G=endsL h s G s.cues.length):=lh (by unfold endsP;rw[hE,if_pos rfl]);have HQ:=lh (HP.out hE);clear hE HP
  go_enter Tryz.func18,Tryz.ntmps18
  go_upto_region 1 with (fail)
  obtain⟨W0,hW0⟩:=nm ((LTw w h s):World);simp only[hW0]at HX HW⊢;clear hW0;obtain⟨B1,hB1⟩:=nm (w.heap.size);obtain⟨B2,hB2⟩:=nm (w.heap.size+1);rw[hB2]at HX⊢;rw[hB1]at HX⊢;have HBB:Hid (w.heap.size=B1):=lh hB1;clear hB1 hB2;obtain⟨⟨a0,a1,a2,a3⟩,⟨s0,s1⟩,-,-,-⟩:=HX.out _ br;have HMD:=lh (made_any h s ga G gc _ (HX.out _ br).2.2.1 (HX.out _ br).2.2.2.1 (HX.out _ br).2.2.2.2 hgl)
  go_upto_region 5 with (go_at_call 44;(with_reducible refine HMD.out.mono ?_);rintro e w1 ⟨hx1,hb1⟩;obtain⟨ta,tn,tc,sa,sn,sc,na,nn,nc,rfl,hp1⟩:=hx1.out;have HP1:=lh hp1;clear hx1 hp1;rw[HE.out])
  obtain⟨e1,e2,hS1,hN1⟩:=HP1.out HE.out;subst e1;subst e2;have hbx:=below_new w1 (.cells #[.slice ta tn tc,.slice sa s.cues.length sc,.slice na s.cues.length nc] 109);have hP2:=PC.put w1 (.slice ta tn tc) (.slice sa s.cues.length sc) (.slice na s.cues.length nc) 109;have hW2:=(HW.out _ hb1).alloc (by have:=(HW.out _ hb1).size;omega) (.cells #[.slice ta tn tc,.slice sa s.cues.length sc,.slice na s.cues.length nc] 109);have hX2:Hid (Below W0.heap.size W0 (w1.alloc (.cells #[.slice ta tn tc,.slice sa s.cues.length sc,.slice na s.cues.length nc] 109))):=lh (hb1.alloc hb1.size _);replace hS1:=hS1.grow hbx;replace hN1:=hN1.grow hbx;clear hbx HP1 HMD a0 a1 a2 a3 s0 s1;generalize w1.alloc (.cells #[.slice ta tn tc,.slice sa s.cues.length sc,.slice na s.cues.length nc] 109)=W2 at *;obtain⟨B8,hB8⟩:=nm (w1.heap.size);rw[hB8]at hP2⊢;clear hB8
  have HXX:Hid (∀w',Below W2.heap.size W2 w'→Below w.heap.size w w'∧PC w' B8 (.slice ta tn tc) (.slice sa s.cues.length sc) (.slice na s.cues.length nc)∧Nums w'.heap.size w' sa (planS h s G)∧Nums w'.heap.size w' na (planN h s)∧SheetAt w' B2 s∧SheetIn w' s):=lh fun w' z=>by
   have y:=hX2.out.trans (z.mono hX2.out.size);obtain⟨-,y2,-,y4,-⟩:=HX.out w' y;exact⟨hW2.trans (z.mono hW2.size),hP2.carry z,hS1.grow z,hN1.grow z,y2,y4⟩
  clear HX hW2 hS1 hN1 hP2 HW hX2 hb1;obtain⟨n₂,hn2⟩:=nm (W2.heap.size);rw[hn2]at HXX;have hB2:Below n₂ W2 W2:=by rw[←hn2];exact br
  have hnn:n₂≤W2.heap.size:=by omega
  have HBN:Hid (w.heap.size≤n₂):=lh (by have:=(HXX.out _ hB2).1.size;omega);clear hn2;obtain⟨-,⟨p0,p1,p2,p3,p4,p5,p6⟩,-,-,-,-⟩:=HXX.out _ hB2
  go_upto_region 6 with (fail)
  clear p0 p1 p2 p3 p4 p5 p6
  go_loopw [10,11,12,26] (fun v10 _ _ iv wr=>∃(k:Nat),iv=.int .i64 k∧k≤s.cues.length∧Below n₂ W2 wr∧n₂≤wr.heap.size∧Hid (wr.ownsRow n₂ 3 1 v10 k (nflat (endsL h s G k)))) (fun _ _ _ iv _=>s.cues.length-(intOf iv).toNat)
  case atStart=>exact⟨0,rfl,Nat.zero_le _,hB2,hnn,lh (World.ownsRow_nil _ _ _ _)⟩
  case round=>
   clear hB2 hnn;obtain⟨k,rfl,hk,hB,hnw,HR⟩:=hrel
   by_cases hlt:k<s.cues.length
   ·obtain⟨-,⟨p0,p1,p2,p3,p4,p5,p6⟩,hS,hN,-,-⟩:=HXX.out _ hB
    have hls:k<(planS h s G).length:=by rw[HQ.out.2.lenS];exact hlt
    have hln:k<(planN h s).length:=by rw[HQ.out.2.lenN];exact hlt
    obtain⟨sb,so,hsa,hsb,hsx⟩:=hS (by omega);subst hsa;obtain⟨nb,no,hna,hnb,hnx⟩:=hN (by omega);subst hna;have e0:=hsx k hls;have e1:=hnx k hln;have HSN:=lh (endsL_snoc h s G k);have q1:=HQ.out.2.lens k hlt;have q2:=HQ.out.2.starts k hlt;obtain⟨x,hx⟩:=nm (ig (planS h s G) k);obtain⟨y,hy⟩:=nm (ig (planN h s) k);rw[hx]at e0 HSN q2;rw[hy]at e1 HSN q1;have hsum:IntKind.i64.wrap (x+y)=x+y:=by simp only[IntKind.wrap_i64];omega
    clear hS hN hsx hnx hx hy q1 q2 hls hln;have HKL:Hid ((endsL h s G k).length=k):=lh (endsL_len _ _ _ _);have hbx:=below_new wr (.cells #[.int .i64 (x+y)] 3);have HO8:Hid ((wr.alloc (.cells #[.int .i64 (x+y)] 3)).ownsRow n₂ 3 1 u10 (endsL h s G k).length (nflat (endsL h s G k))):=lh (by rw[HKL.out];exact ownsRow_below HR.out hbx);have hB8:=hB.alloc hnw (.cells #[.int .i64 (x+y)] 3);have hn8:n₂≤(wr.alloc (.cells #[.int .i64 (x+y)] 3)).heap.size:=by simp;omega
    have hkl:(endsL h s G k).length≤1000000:=by rw[HKL.out];omega
    have hc8:(wr.alloc (.cells #[.int .i64 (x+y)] 3)).cell? ⟨wr.heap.size,0,none⟩=some (.int .i64 (x+y)):=by simp
    clear hbx
    go_wp2_with (at_builtin;refine num_append rfl _ _ rfl n₂ _ (endsL h s G k) rfl HO8.out _ (x+y) rfl (by first | exact hc8 | (rw[hsum];exact hc8)) hkl hn8 ?_;intro v2 w8 hown8 hg8;have HO9:=lh hown8;have hB9:=hB8.grown hg8 (by omega) (fun j hj=>(HO8.out.lt _ hj).1);have hn9:=Nat.le_trans hn8 hg8.size;clear hown8 hg8)
    go_roundw
    case rel=>exact⟨k+1,by go_num,by omega,hB9,hn9,lh (by have:=HO9.out;rw[List.length_append,HKL.out]at this;rw[HSN.out];exact this)⟩
    case measure=>simp[intOf];omega
   ·obtain rfl:k=s.cues.length:=by omega
    go_wp2_with fail
    go_ret2
    exact⟨lh ⟨_,by first | rfl | (rw[HE.out];rfl),by rw[HEP.out,endsL_len];exact ownsRow_base HR.out HBN.out⟩,(HXX.out _ hB).1⟩
end
end Go.Proofs.YtebofaenlhhkaaaGreat
