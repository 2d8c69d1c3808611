/-
  THE WALKS of linked (package links) and of the reference's Linked.
-/
import Derived.Deep.DeepCutAuto
import Derived.WideKeyPair
import Derived.Test.YtebofaenlhhkaaaGreatU16
namespace Go.Proofs.YtebofaenlhhkaaaGreat
set_option maxRecDepth 100000
set_option maxHeartbeats 80000000
set_option linter.unusedSimpArgs false
section
open Go.RowKit Go.Shelf
def cueOK(L:List CueR)(k:Nat):Bool:=isNameB (cg L k).name&&(findI L (cg L k).name==k)&&timeB (cg L k).delay&&
 (if(cg L k).link=1 then decide ((cg L k).after=⟨#[]⟩)else if(cg L k).link=2∨(cg L k).link=3 then decide (0≤findI L (cg L k).after)&&!(findI L (cg L k).after==k)else false)
def ckTo(L:List CueR):Nat→Bool
 | 0=>true
 | k+1=>ckTo L k&&cueOK L k
theorem ckTo_false(L:List CueR)(k n:Nat)(hk:k<n)(h:cueOK L k=false):ckTo L n=false:=by
 induction n with
 | zero=>omega
 | succ n ih=>
  simp only[ckTo];rcases Nat.lt_or_ge k n with l | l
  ·rw[ih l];rfl
  ·obtain rfl:k=n:=by omega
   rw[h,Bool.and_false]
theorem ckTo_at(L:List CueR)(n:Nat)(h:ckTo L n=true)(k:Nat)(hk:k<n):cueOK L k=true:=by
 cases e:cueOK L k
 ·rw[ckTo_false L k n hk e]at h;cases h
 ·rfl
def pairBad(L:List CueR)(x:ByteArray×ByteArray):Bool:=decide (x.1=x.2)||decide (findI L x.1<0)||decide (findI L x.2<0)
def linkedB(L:List CueR)(A:List (ByteArray×ByteArray)):Bool:=decide (L.length≤60)&&decide (A.length≤1000)&&ckTo L L.length&&!pair_any A (pairBad L)
theorem nil_iff(s:ByteArray):s.toList=[]↔s=⟨#[]⟩:=by
 rw[ByteArray.toList_eq];obtain⟨⟨x⟩⟩:=s
 simp

theorem asks_linked(bx:Nat)(ca pa:Option Addr)(L:List CueR)(A:List (ByteArray×ByteArray))(cc pc n₀:Nat)(w:World)(hlen:L.length≤1100)(hn:n₀≤w.heap.size)(hbx:bx<n₀)(c0:w.cell? ⟨bx,0,none⟩=some (.slice ca L.length cc))(c1:w.cell? ⟨bx,1,none⟩=some (.slice pa A.length pc))(hI:Cues n₀ w ca L):
  AsksP 160 #[.pointer (some ⟨bx,0,none⟩)] n₀ w (pairBad L):=by
 intro W r hB;have d0:=(hB.cell (p:=⟨bx,0,none⟩) hbx).trans c0;have d1:=(hB.cell (p:=⟨bx,1,none⟩) hbx).trans c1;have hl:=World.block_lt_of_cell? W _ d0;have hb0:Below W.heap.size W (W.alloc (.cells #[.string r.1,.string r.2] 149)):=below_new W _;have e0:=(hb0.cell (p:=⟨bx,0,none⟩) hl).trans d0;have e1:=(hb0.cell (p:=⟨bx,1,none⟩) hl).trans d1;have hz:=hB.size;have HI:Hid (Cues W.heap.size (W.alloc (.cells #[.string r.1,.string r.2] 149)) ca L):=lh (((hI.below hB).mono (by omega)).below hb0);have HB0:=lh hb0;have hs:=str_eq r.1 r.2;obtain⟨f1,hf1⟩:=nm (findI L r.1);obtain⟨f2,hf2⟩:=nm (findI L r.2);have H1:=lh hf1;have H2:=lh hf2;have HP:Hid (pairBad L r=(decide (r.1=r.2)||decide (f1<0)||decide (f2<0))):=lh (by unfold pairBad;rw[hf1,hf2]);clear hf1 hf2 hb0 hI c0 c1 d0 d1 hB;show Calls _ _ #[pairV r,.pointer (some ⟨bx,0,none⟩)] _ _;unfold pairV
 by_cases q0:r.1=r.2
 ·have HE:Hid (pairBad L r=true):=lh (by rw[HP.out,decide_eq_true q0];rfl)
  rw[decide_eq_true q0]at hs;clear q0
  go_enter Tryz.func160,Tryz.ntmps160
  go_wp2_with fail
  go_ret;exact⟨ret_bool HE.out.symm,HB0.out⟩
 ·rw[decide_eq_false q0]at hs
  by_cases q1:f1<0
  ·have HE:Hid (pairBad L r=true):=lh (by rw[HP.out,decide_eq_true q1,Bool.or_true];rfl)
   clear q0
   go_enter Tryz.func160,Tryz.ntmps160
   go_wp2_with (go_at_call 116;(with_reducible refine(find_any _ L _ _ r.1 _ hlen (HI.out.mono (below_new W _).size)).mono ?_);rintro e w1 ⟨rfl,hb1⟩;rw[H1.out])
   go_ret;exact⟨ret_bool HE.out.symm,HB0.out.trans (hb1.mono HB0.out.size)⟩
  ·have HE:Hid (pairBad L r=decide (f2<0)):=lh (by rw[HP.out,decide_eq_false q0,decide_eq_false q1];rfl)
   clear q0
   go_enter Tryz.func160,Tryz.ntmps160
   go_wp2_with (first
    | (go_at_call 116;(with_reducible refine(find_any _ L _ _ r.2 _ hlen ((HI.out.mono (below_new W _).size).grow hb1)).mono ?_);rintro e w2 ⟨rfl,hb2⟩;rw[H2.out])
    | (go_at_call 116;(with_reducible refine(find_any _ L _ _ r.1 _ hlen (HI.out.mono (below_new W _).size)).mono ?_);rintro e w1 ⟨rfl,hb1⟩;rw[H1.out];have g0:=(hb1.cell (p:=⟨bx,0,none⟩) (wl e0)).trans e0;have g1:=(hb1.cell (p:=⟨bx,1,none⟩) (wl e1)).trans e1;have x1:=(hb1.cell (p:=⟨W.heap.size,1,none⟩) (by simp)).trans (show _=some (.string r.2)by simp)))
   all_goals
    go_ret;exact⟨ret_bool (by rw[HE.out];first | rfl | (rw[show decide (f1<0)=false from dF (by omega)];rfl)),HB0.out.trans ((hb1.mono HB0.out.size).trans (hb2.mono (by have:=HB0.out.size;have:=hb1.size;omega)))⟩

theorem linked_any(ca pa:Option Addr)(L:List CueR)(A:List (ByteArray×ByteArray))(cc pc:Nat)(w:World)(hlen:L.length≤1100)(hI:Cues w.heap.size w ca L)(hP:Pairs w.heap.size w pa A):
  Calls Tryz.prog 112 #[.agg #[.slice ca L.length cc,.slice pa A.length pc]] w fun e w'=>e=.returned (.bool (linkedB L A))∧Below w.heap.size w w':=by
 have hb0:Below w.heap.size w (w.alloc (.cells #[.slice ca L.length cc,.slice pa A.length pc] 29)):=below_new w _;have HI:=lh (hI.grow hb0);have HP:=lh (hP.grow hb0);have HB0:=lh hb0;clear hb0 hI hP
 by_cases s1:(60:Int)<L.length
 ·have HNO:Hid (linkedB L A=false):=lh (by unfold linkedB;rw[dF (show ¬L.length≤60 by omega)];rfl)
  have g:=decide_eq_true s1
  go_enter Tryz.func112,Tryz.ntmps112
  go_wp2_with fail
  go_ret;exact⟨ret_bool HNO.out.symm,HB0.out⟩
 ·by_cases s2:(1000:Int)<A.length
  ·have HNO:Hid (linkedB L A=false):=lh (by unfold linkedB;rw[dF (show ¬A.length≤1000 by omega),Bool.and_false];rfl)
   have g:=decide_eq_true s2
   go_enter Tryz.func112,Tryz.ntmps112
   go_wp2_with fail
   go_ret;exact⟨ret_bool HNO.out.symm,HB0.out⟩
  ·have HL:Hid (linkedB L A=(ckTo L L.length&&!pair_any A (pairBad L))):=lh (by unfold linkedB;rw[dT (show L.length≤60 by omega),dT (show A.length≤1000 by omega)];rfl)
   go_enter Tryz.func112,Tryz.ntmps112
   go_wp2_with fail
   go_loopw [19] (fun i wr=>∃k:Nat,k≤L.length∧i=.int .i64 k∧Below (w.alloc (.cells #[.slice ca L.length cc,.slice pa A.length pc] 29)).heap.size (w.alloc (.cells #[.slice ca L.length cc,.slice pa A.length pc] 29)) wr∧Hid (ckTo L k=true)) (fun i _=>L.length-(intOf i).toNat)
   case atStart=>exact⟨0,Nat.zero_le _,rfl,br,lh rfl⟩
   case round=>
    obtain⟨k,hk,rfl,hB,HO⟩:=hrel;obtain⟨z0,z1⟩:=box2 hB;have hbz:w.heap.size<wr.heap.size:=wl z0;have HIR:=lh (HI.out.grow hB)
    by_cases hlt:k<L.length
    ·obtain⟨b,off,rfl,hbl,hc⟩:=HIR.out (by omega)
     obtain⟨d0,d1,d2,d3,d4,d5,d6⟩:=hc k hlt;have hBa:Below wr.heap.size wr (wr.alloc (.cells #[.string (cg L k).name,.string (cg L k).after,.int .i64 (cg L k).link,.int .i64 (cg L k).delay,.slice (cg L k).ma (cg L k).moves.length (cg L k).mc,.int .i64 (cg L k).crew,.int .i64 (cg L k).power] 86)):=below_new wr _;have HBA:=lh hBa;have HNOF:Hid (cueOK L k=false→Hid (linkedB L A=false)):=lh fun h=>lh (by rw[HL.out,ckTo_false L k _ hlt h];rfl);have HYES:Hid (cueOK L k=true→Hid (ckTo L (k+1)=true)):=lh fun h=>lh (by unfold ckTo;rw[HO.out,h];rfl);clear hc hBa
     cases hnm:isNameB (cg L k).name
     ·have HNM:=lh hnm
      have HNO:Hid (linkedB L A=false):=HNOF.out (by unfold cueOK;rw[hnm];rfl);clear hnm
      go_wp2_with (first
       | (go_at_call 143;(with_reducible refine(isName_any _ _).mono ?_);rintro e w' ⟨rfl,rfl⟩;rw[HNM.out]))
      go_ret;exact⟨ret_bool HNO.out.symm,mono_in _ (hB.trans (HBA.out.mono hB.size))⟩
     ·have HNM:=lh hnm
      by_cases g1:findI L (cg L k).name=k
      ·have HF1:=lh g1
       cases htm:timeB (cg L k).delay
       ·have HTM:=lh htm
        have HNO:Hid (linkedB L A=false):=HNOF.out (by unfold cueOK;rw[htm,Bool.and_false];rfl);clear htm hnm g1
        go_wp2_with (first
         | (go_at_call 143;(with_reducible refine(isName_any _ _).mono ?_);rintro e w' ⟨rfl,rfl⟩;rw[HNM.out])
         | (go_at_call 116;(with_reducible refine(find_any _ L _ _ (cg L k).name _ hlen (HIR.out.grow HBA.out)).mono ?_);rintro e w1 ⟨rfl,hb1⟩;rw[HF1.out];have hB1:=HBA.out.trans (hb1.mono HBA.out.size);have x1:=(hb1.cell (p:=⟨wr.heap.size,1,none⟩) (by simp)).trans (show _=some (.string (cg L k).after)by simp);have x2:=(hb1.cell (p:=⟨wr.heap.size,2,none⟩) (by simp)).trans (show _=some (.int .i64 (cg L k).link)by simp);have x3:=(hb1.cell (p:=⟨wr.heap.size,3,none⟩) (by simp)).trans (show _=some (.int .i64 (cg L k).delay)by simp);obtain⟨y0,y1⟩:=box2 (hB.trans (hB1.mono hB.size)))
         | (go_at_call 114;(with_reducible refine(time_any _ _).mono ?_);rintro e w' ⟨rfl,rfl⟩;rw[HTM.out]))
        go_ret;exact⟨ret_bool HNO.out.symm,mono_in _ (hB.trans (hB1.mono hB.size))⟩
       ·have HTM:=lh htm
        have HC:Hid (cueOK L k=(if(cg L k).link=1 then decide ((cg L k).after=⟨#[]⟩)else if(cg L k).link=2∨(cg L k).link=3 then decide (0≤findI L (cg L k).after)&&!(findI L (cg L k).after==k)else false)):=lh (by unfold cueOK;rw[hnm,htm,g1,beq_self_eq_true];rfl);clear htm hnm g1
        by_cases l1:(cg L k).link=1
        ·have m1:((cg L k).link==1)=true:=beq_iff_eq.2 l1
         by_cases hs:(cg L k).after.toList=[]
         ·have HOK:=HYES.out (by rw[HC.out,if_pos l1];exact dT ((nil_iff _).1 hs))
          have hs2:(!(cg L k).after.toList.isEmpty)=false:=by rw[hs];rfl
          clear l1 hs
          go_wp2_with (first
           | (go_at_call 143;(with_reducible refine(isName_any _ _).mono ?_);rintro e w' ⟨rfl,rfl⟩;rw[HNM.out])
           | (go_at_call 116;(with_reducible refine(find_any _ L _ _ (cg L k).name _ hlen (HIR.out.grow HBA.out)).mono ?_);rintro e w1 ⟨rfl,hb1⟩;rw[HF1.out];have hB1:=HBA.out.trans (hb1.mono HBA.out.size);have x1:=(hb1.cell (p:=⟨wr.heap.size,1,none⟩) (by simp)).trans (show _=some (.string (cg L k).after)by simp);have x2:=(hb1.cell (p:=⟨wr.heap.size,2,none⟩) (by simp)).trans (show _=some (.int .i64 (cg L k).link)by simp);have x3:=(hb1.cell (p:=⟨wr.heap.size,3,none⟩) (by simp)).trans (show _=some (.int .i64 (cg L k).delay)by simp);obtain⟨y0,y1⟩:=box2 (hB.trans (hB1.mono hB.size)))
           | (go_at_call 114;(with_reducible refine(time_any _ _).mono ?_);rintro e w' ⟨rfl,rfl⟩;rw[HTM.out]))
          go_roundw
          case rel=>exact⟨k+1,by omega,by go_num,hB.trans (hB1.mono hB.size),HOK⟩
          case measure=>simp[intOf];omega
         ·have HNO:=HNOF.out (by rw[HC.out,if_pos l1];exact dF (fun e=>hs ((nil_iff _).2 e)))
          have hs2:(!(cg L k).after.toList.isEmpty)=true:=by simpa using hs
          clear l1 hs
          go_wp2_with (first
           | (go_at_call 143;(with_reducible refine(isName_any _ _).mono ?_);rintro e w' ⟨rfl,rfl⟩;rw[HNM.out])
           | (go_at_call 116;(with_reducible refine(find_any _ L _ _ (cg L k).name _ hlen (HIR.out.grow HBA.out)).mono ?_);rintro e w1 ⟨rfl,hb1⟩;rw[HF1.out];have hB1:=HBA.out.trans (hb1.mono HBA.out.size);have x1:=(hb1.cell (p:=⟨wr.heap.size,1,none⟩) (by simp)).trans (show _=some (.string (cg L k).after)by simp);have x2:=(hb1.cell (p:=⟨wr.heap.size,2,none⟩) (by simp)).trans (show _=some (.int .i64 (cg L k).link)by simp);have x3:=(hb1.cell (p:=⟨wr.heap.size,3,none⟩) (by simp)).trans (show _=some (.int .i64 (cg L k).delay)by simp);obtain⟨y0,y1⟩:=box2 (hB.trans (hB1.mono hB.size)))
           | (go_at_call 114;(with_reducible refine(time_any _ _).mono ?_);rintro e w' ⟨rfl,rfl⟩;rw[HTM.out]))
          go_ret;exact⟨ret_bool HNO.out.symm,mono_in _ (hB.trans (hB1.mono hB.size))⟩
        ·have m1:((cg L k).link==1)=false:=beq_eq_false_iff_ne.2 l1
         obtain⟨fa,hfa⟩:=nm (findI L (cg L k).after);have HF2:=lh hfa;have HC2:=lh HC.out;rw[if_neg l1,hfa]at HC2;clear hfa
         by_cases l2:(cg L k).link=2
         ·have m2:((cg L k).link==2)=true:=beq_iff_eq.2 l2
          have HC3:=lh HC2.out;rw[if_pos (.inl l2)]at HC3;clear l1 l2
          by_cases f0:fa<0
          ·have HNO:=HNOF.out (by rw[HC3.out,show decide (0≤fa)=false from dF (by omega)];rfl)
           go_wp2_with (first
            | (go_at_call 143;(with_reducible refine(isName_any _ _).mono ?_);rintro e w' ⟨rfl,rfl⟩;rw[HNM.out])
            | (go_at_call 116;(with_reducible refine(find_any _ L _ _ (cg L k).after _ hlen (HIR.out.grow hB1)).mono ?_);rintro e w2 ⟨rfl,hb2⟩;rw[HF2.out];have hB2:=hB1.trans (hb2.mono hB1.size))
            | (go_at_call 116;(with_reducible refine(find_any _ L _ _ (cg L k).name _ hlen (HIR.out.grow HBA.out)).mono ?_);rintro e w1 ⟨rfl,hb1⟩;rw[HF1.out];have hB1:=HBA.out.trans (hb1.mono HBA.out.size);have x1:=(hb1.cell (p:=⟨wr.heap.size,1,none⟩) (by simp)).trans (show _=some (.string (cg L k).after)by simp);have x2:=(hb1.cell (p:=⟨wr.heap.size,2,none⟩) (by simp)).trans (show _=some (.int .i64 (cg L k).link)by simp);have x3:=(hb1.cell (p:=⟨wr.heap.size,3,none⟩) (by simp)).trans (show _=some (.int .i64 (cg L k).delay)by simp);obtain⟨y0,y1⟩:=box2 (hB.trans (hB1.mono hB.size)))
            | (go_at_call 114;(with_reducible refine(time_any _ _).mono ?_);rintro e w' ⟨rfl,rfl⟩;rw[HTM.out]))
           go_ret;exact⟨ret_bool HNO.out.symm,mono_in _ (hB.trans (hB2.mono hB.size))⟩
          ·by_cases fk:fa=k
           ·have HNO:=HNOF.out (by rw[HC3.out,show(fa==(k:Int))=true from beq_iff_eq.2 fk,Bool.not_true,Bool.and_false])
            have m4:(fa==(k:Int))=true:=beq_iff_eq.2 fk;clear fk
            go_wp2_with (first
             | (go_at_call 143;(with_reducible refine(isName_any _ _).mono ?_);rintro e w' ⟨rfl,rfl⟩;rw[HNM.out])
             | (go_at_call 116;(with_reducible refine(find_any _ L _ _ (cg L k).after _ hlen (HIR.out.grow hB1)).mono ?_);rintro e w2 ⟨rfl,hb2⟩;rw[HF2.out];have hB2:=hB1.trans (hb2.mono hB1.size))
             | (go_at_call 116;(with_reducible refine(find_any _ L _ _ (cg L k).name _ hlen (HIR.out.grow HBA.out)).mono ?_);rintro e w1 ⟨rfl,hb1⟩;rw[HF1.out];have hB1:=HBA.out.trans (hb1.mono HBA.out.size);have x1:=(hb1.cell (p:=⟨wr.heap.size,1,none⟩) (by simp)).trans (show _=some (.string (cg L k).after)by simp);have x2:=(hb1.cell (p:=⟨wr.heap.size,2,none⟩) (by simp)).trans (show _=some (.int .i64 (cg L k).link)by simp);have x3:=(hb1.cell (p:=⟨wr.heap.size,3,none⟩) (by simp)).trans (show _=some (.int .i64 (cg L k).delay)by simp);obtain⟨y0,y1⟩:=box2 (hB.trans (hB1.mono hB.size)))
             | (go_at_call 114;(with_reducible refine(time_any _ _).mono ?_);rintro e w' ⟨rfl,rfl⟩;rw[HTM.out]))
            go_ret;exact⟨ret_bool HNO.out.symm,mono_in _ (hB.trans (hB2.mono hB.size))⟩
           ·have m4:(fa==(k:Int))=false:=beq_eq_false_iff_ne.2 fk
            have HOK:=HYES.out (by rw[HC3.out,m4,show decide (0≤fa)=true from dT (by omega)];rfl);clear fk
            go_wp2_with (first
             | (go_at_call 143;(with_reducible refine(isName_any _ _).mono ?_);rintro e w' ⟨rfl,rfl⟩;rw[HNM.out])
             | (go_at_call 116;(with_reducible refine(find_any _ L _ _ (cg L k).after _ hlen (HIR.out.grow hB1)).mono ?_);rintro e w2 ⟨rfl,hb2⟩;rw[HF2.out];have hB2:=hB1.trans (hb2.mono hB1.size))
             | (go_at_call 116;(with_reducible refine(find_any _ L _ _ (cg L k).name _ hlen (HIR.out.grow HBA.out)).mono ?_);rintro e w1 ⟨rfl,hb1⟩;rw[HF1.out];have hB1:=HBA.out.trans (hb1.mono HBA.out.size);have x1:=(hb1.cell (p:=⟨wr.heap.size,1,none⟩) (by simp)).trans (show _=some (.string (cg L k).after)by simp);have x2:=(hb1.cell (p:=⟨wr.heap.size,2,none⟩) (by simp)).trans (show _=some (.int .i64 (cg L k).link)by simp);have x3:=(hb1.cell (p:=⟨wr.heap.size,3,none⟩) (by simp)).trans (show _=some (.int .i64 (cg L k).delay)by simp);obtain⟨y0,y1⟩:=box2 (hB.trans (hB1.mono hB.size)))
             | (go_at_call 114;(with_reducible refine(time_any _ _).mono ?_);rintro e w' ⟨rfl,rfl⟩;rw[HTM.out]))
            go_roundw
            case rel=>exact⟨k+1,by omega,by go_num,hB.trans (hB2.mono hB.size),HOK⟩
            case measure=>simp[intOf];omega
         ·have m2:((cg L k).link==2)=false:=beq_eq_false_iff_ne.2 l2
          by_cases l3:(cg L k).link=3
          ·have m3:((cg L k).link==3)=true:=beq_iff_eq.2 l3
           have HC3:=lh HC2.out;rw[if_pos (.inr l3)]at HC3;clear l1 l2 l3
           by_cases f0:fa<0
           ·have HNO:=HNOF.out (by rw[HC3.out,show decide (0≤fa)=false from dF (by omega)];rfl)
            go_wp2_with (first
             | (go_at_call 143;(with_reducible refine(isName_any _ _).mono ?_);rintro e w' ⟨rfl,rfl⟩;rw[HNM.out])
             | (go_at_call 116;(with_reducible refine(find_any _ L _ _ (cg L k).after _ hlen (HIR.out.grow hB1)).mono ?_);rintro e w2 ⟨rfl,hb2⟩;rw[HF2.out];have hB2:=hB1.trans (hb2.mono hB1.size))
             | (go_at_call 116;(with_reducible refine(find_any _ L _ _ (cg L k).name _ hlen (HIR.out.grow HBA.out)).mono ?_);rintro e w1 ⟨rfl,hb1⟩;rw[HF1.out];have hB1:=HBA.out.trans (hb1.mono HBA.out.size);have x1:=(hb1.cell (p:=⟨wr.heap.size,1,none⟩) (by simp)).trans (show _=some (.string (cg L k).after)by simp);have x2:=(hb1.cell (p:=⟨wr.heap.size,2,none⟩) (by simp)).trans (show _=some (.int .i64 (cg L k).link)by simp);have x3:=(hb1.cell (p:=⟨wr.heap.size,3,none⟩) (by simp)).trans (show _=some (.int .i64 (cg L k).delay)by simp);obtain⟨y0,y1⟩:=box2 (hB.trans (hB1.mono hB.size)))
             | (go_at_call 114;(with_reducible refine(time_any _ _).mono ?_);rintro e w' ⟨rfl,rfl⟩;rw[HTM.out]))
            go_ret;exact⟨ret_bool HNO.out.symm,mono_in _ (hB.trans (hB2.mono hB.size))⟩
           ·by_cases fk:fa=k
            ·have HNO:=HNOF.out (by rw[HC3.out,show(fa==(k:Int))=true from beq_iff_eq.2 fk,Bool.not_true,Bool.and_false])
             have m4:(fa==(k:Int))=true:=beq_iff_eq.2 fk;clear fk
             go_wp2_with (first
              | (go_at_call 143;(with_reducible refine(isName_any _ _).mono ?_);rintro e w' ⟨rfl,rfl⟩;rw[HNM.out])
              | (go_at_call 116;(with_reducible refine(find_any _ L _ _ (cg L k).after _ hlen (HIR.out.grow hB1)).mono ?_);rintro e w2 ⟨rfl,hb2⟩;rw[HF2.out];have hB2:=hB1.trans (hb2.mono hB1.size))
              | (go_at_call 116;(with_reducible refine(find_any _ L _ _ (cg L k).name _ hlen (HIR.out.grow HBA.out)).mono ?_);rintro e w1 ⟨rfl,hb1⟩;rw[HF1.out];have hB1:=HBA.out.trans (hb1.mono HBA.out.size);have x1:=(hb1.cell (p:=⟨wr.heap.size,1,none⟩) (by simp)).trans (show _=some (.string (cg L k).after)by simp);have x2:=(hb1.cell (p:=⟨wr.heap.size,2,none⟩) (by simp)).trans (show _=some (.int .i64 (cg L k).link)by simp);have x3:=(hb1.cell (p:=⟨wr.heap.size,3,none⟩) (by simp)).trans (show _=some (.int .i64 (cg L k).delay)by simp);obtain⟨y0,y1⟩:=box2 (hB.trans (hB1.mono hB.size)))
              | (go_at_call 114;(with_reducible refine(time_any _ _).mono ?_);rintro e w' ⟨rfl,rfl⟩;rw[HTM.out]))
             go_ret;exact⟨ret_bool HNO.out.symm,mono_in _ (hB.trans (hB2.mono hB.size))⟩
            ·have m4:(fa==(k:Int))=false:=beq_eq_false_iff_ne.2 fk
             have HOK:=HYES.out (by rw[HC3.out,m4,show decide (0≤fa)=true from dT (by omega)];rfl);clear fk
             go_wp2_with (first
              | (go_at_call 143;(with_reducible refine(isName_any _ _).mono ?_);rintro e w' ⟨rfl,rfl⟩;rw[HNM.out])
              | (go_at_call 116;(with_reducible refine(find_any _ L _ _ (cg L k).after _ hlen (HIR.out.grow hB1)).mono ?_);rintro e w2 ⟨rfl,hb2⟩;rw[HF2.out];have hB2:=hB1.trans (hb2.mono hB1.size))
              | (go_at_call 116;(with_reducible refine(find_any _ L _ _ (cg L k).name _ hlen (HIR.out.grow HBA.out)).mono ?_);rintro e w1 ⟨rfl,hb1⟩;rw[HF1.out];have hB1:=HBA.out.trans (hb1.mono HBA.out.size);have x1:=(hb1.cell (p:=⟨wr.heap.size,1,none⟩) (by simp)).trans (show _=some (.string (cg L k).after)by simp);have x2:=(hb1.cell (p:=⟨wr.heap.size,2,none⟩) (by simp)).trans (show _=some (.int .i64 (cg L k).link)by simp);have x3:=(hb1.cell (p:=⟨wr.heap.size,3,none⟩) (by simp)).trans (show _=some (.int .i64 (cg L k).delay)by simp);obtain⟨y0,y1⟩:=box2 (hB.trans (hB1.mono hB.size)))
              | (go_at_call 114;(with_reducible refine(time_any _ _).mono ?_);rintro e w' ⟨rfl,rfl⟩;rw[HTM.out]))
             go_roundw
             case rel=>exact⟨k+1,by omega,by go_num,hB.trans (hB2.mono hB.size),HOK⟩
             case measure=>simp[intOf];omega
          ·have m3:((cg L k).link==3)=false:=beq_eq_false_iff_ne.2 l3
           have HNO:=HNOF.out (by rw[HC2.out,if_neg (by omega)]);clear l1 l2 l3
           go_wp2_with (first
            | (go_at_call 143;(with_reducible refine(isName_any _ _).mono ?_);rintro e w' ⟨rfl,rfl⟩;rw[HNM.out])
            | (go_at_call 116;(with_reducible refine(find_any _ L _ _ (cg L k).name _ hlen (HIR.out.grow HBA.out)).mono ?_);rintro e w1 ⟨rfl,hb1⟩;rw[HF1.out];have hB1:=HBA.out.trans (hb1.mono HBA.out.size);have x1:=(hb1.cell (p:=⟨wr.heap.size,1,none⟩) (by simp)).trans (show _=some (.string (cg L k).after)by simp);have x2:=(hb1.cell (p:=⟨wr.heap.size,2,none⟩) (by simp)).trans (show _=some (.int .i64 (cg L k).link)by simp);have x3:=(hb1.cell (p:=⟨wr.heap.size,3,none⟩) (by simp)).trans (show _=some (.int .i64 (cg L k).delay)by simp);obtain⟨y0,y1⟩:=box2 (hB.trans (hB1.mono hB.size)))
            | (go_at_call 114;(with_reducible refine(time_any _ _).mono ?_);rintro e w' ⟨rfl,rfl⟩;rw[HTM.out]))
           go_ret;exact⟨ret_bool HNO.out.symm,mono_in _ (hB.trans (hB1.mono hB.size))⟩
      ·obtain⟨fi,hfi⟩:=nm (findI L (cg L k).name)
       have HF1:=lh hfi;have HNO:Hid (linkedB L A=false):=HNOF.out (by unfold cueOK;rw[beq_eq_false_iff_ne.2 g1,Bool.and_false];rfl);rw[hfi]at g1;have m0:(fi !=(k:Int))=true:=bne_iff_ne.2 g1;clear hfi hnm g1
       go_wp2_with (first
        | (go_at_call 143;(with_reducible refine(isName_any _ _).mono ?_);rintro e w' ⟨rfl,rfl⟩;rw[HNM.out])
        | (go_at_call 116;(with_reducible refine(find_any _ L _ _ (cg L k).name _ hlen (HIR.out.grow HBA.out)).mono ?_);rintro e w1 ⟨rfl,hb1⟩;rw[HF1.out];have hB1:=HBA.out.trans (hb1.mono HBA.out.size);have x1:=(hb1.cell (p:=⟨wr.heap.size,1,none⟩) (by simp)).trans (show _=some (.string (cg L k).after)by simp);have x2:=(hb1.cell (p:=⟨wr.heap.size,2,none⟩) (by simp)).trans (show _=some (.int .i64 (cg L k).link)by simp);have x3:=(hb1.cell (p:=⟨wr.heap.size,3,none⟩) (by simp)).trans (show _=some (.int .i64 (cg L k).delay)by simp);obtain⟨y0,y1⟩:=box2 (hB.trans (hB1.mono hB.size))))
       go_ret;exact⟨ret_bool HNO.out.symm,mono_in _ (hB.trans (hB1.mono hB.size))⟩
    ·obtain rfl:k=L.length:=by omega
     have HLL:Hid (linkedB L A=!pair_any A (pairBad L)):=lh (by rw[HL.out,HO.out];rfl);have hlA:A.length≤1100:=by omega
     go_wp2_with (go_at_call 159;(refine(pair_containsFunc _ A _ _ _ _ (pairBad L) _ (enters_of Tryz.func160 (by kernel_rfl) rfl) hlA (Nat.le_refl _) (HP.out.grow hB) (asks_linked w.heap.size ca pa L A cc pc _ _ hlen (Nat.le_refl _) (wl z0) z0 z1 HIR.out)).mono ?_);rintro e w4 ⟨rfl,hb4⟩)
     go_ret;exact⟨ret_bool HLL.out.symm,mono_in _ (hB.trans (hb4.mono hB.size))⟩
end
section
open Go.RowKit
def setM(h:HouseR)(m:Mv):SetR:=hg h.sets (findS h.sets m.name).toNat
def MoveOK(h:HouseR)(M:List Mv)(i:Nat):Prop:=validM (mg M i)=true∧0≤findS h.sets (mg M i).name∧(setM h (mg M i)).low≤(mg M i).to∧(mg M i).to≤(setM h (mg M i)).high∧∀j,j<i→(mg M j).name≠(mg M i).name
structure HeadOK(q:CueR):Prop where
 name:isNameB q.name=true
 link:q.link=1∨q.link=2∨q.link=3
 delay:0≤q.delay∧q.delay≤2147483648
 crew:0≤q.crew∧q.crew≤100
 power:0≤q.power∧q.power≤100
def RightOK(h:HouseR)(q:CueR):Prop:=HeadOK q∧∀i,i<q.moves.length→MoveOK h q.moves i
noncomputable def rightB(h:HouseR)(q:CueR):Bool:=@decide (RightOK h q) (Classical.propDecidable _)
theorem rightB_iff{h:HouseR}{q:CueR}:rightB h q=true↔RightOK h q:=by exact @decide_eq_true_iff (RightOK h q) (Classical.propDecidable _)
theorem right_no{h:HouseR}{q:CueR}(n:¬RightOK h q):rightB h q=false:=by
 cases e:rightB h q
 ·rfl
 ·exact absurd (rightB_iff.1 e) n
def movesOf(C:List CueR):List Mv:=C.flatMap (·.moves)
theorem movesOf_next(C:List CueR){k:Nat}(h:k<C.length):movesOf (C.take (k+1))=movesOf (C.take k)++(cg C k).moves:=by
 unfold movesOf;rw[List.take_succ_eq_append_getElem h,List.flatMap_append,cg_eq C k h]
 simp
theorem movesOf_part(C:List CueR)(k:Nat):(movesOf (C.take k)).length≤(movesOf C).length:=by
 conv=>rhs;rw[←List.take_append_drop k C]
 unfold movesOf;rw[List.flatMap_append,List.length_append];omega
def HangsOK(C:List CueR)(k:Nat):Prop:=((cg C k).link=1→(cg C k).after=⟨#[]⟩)∧((cg C k).link≠1→0≤findI C (cg C k).after∧findI C (cg C k).after<(k:Int))
def CueAtOK(h:HouseR)(C:List CueR)(k:Nat):Prop:=RightOK h (cg C k)∧findI C (cg C k).name=(k:Int)∧HangsOK C k
def samePair(x y:ByteArray×ByteArray):Prop:=x=y∨(x.1=y.2∧x.2=y.1)
def PairAtOK(C:List CueR)(A:List (ByteArray×ByteArray))(i:Nat):Prop:=(pg A i).1≠(pg A i).2∧0≤findI C (pg A i).1∧0≤findI C (pg A i).2∧∀k,k<i→¬samePair (pg A k) (pg A i)
def PairsOK(C:List CueR)(A:List (ByteArray×ByteArray)):Prop:=A.length≤1000∧∀i,i<A.length→PairAtOK C A i
noncomputable def pairsB(C:List CueR)(A:List (ByteArray×ByteArray)):Bool:=@decide (PairsOK C A) (Classical.propDecidable _)
theorem pairsB_iff{C:List CueR}{A:List (ByteArray×ByteArray)}:pairsB C A=true↔PairsOK C A:=by exact @decide_eq_true_iff (PairsOK C A) (Classical.propDecidable _)
theorem pairs_no{C:List CueR}{A:List (ByteArray×ByteArray)}(n:¬PairsOK C A):pairsB C A=false:=by
 cases e:pairsB C A
 ·rfl
 ·exact absurd (pairsB_iff.1 e) n
structure SheetOK(h:HouseR)(s:SheetR):Prop where
 house:houseB h=true
 cues:s.cues.length≤60
 moves:(movesOf s.cues).length≤100
 each:∀k,k<s.cues.length→CueAtOK h s.cues k
 pairs:PairsOK s.cues s.pairs
noncomputable def sheetB(h:HouseR)(s:SheetR):Bool:=@decide (SheetOK h s) (Classical.propDecidable _)
theorem sheetB_iff{h:HouseR}{s:SheetR}:sheetB h s=true↔SheetOK h s:=by exact @decide_eq_true_iff (SheetOK h s) (Classical.propDecidable _)
theorem sheet_no{h:HouseR}{s:SheetR}(n:¬SheetOK h s):sheetB h s=false:=by
 cases e:sheetB h s
 ·rfl
 ·exact absurd (sheetB_iff.1 e) n
/-! ### Trims -/
def highsL(h:HouseR):List Int:=h.sets.map (·.high)
def movedL(h:HouseR)(t:List Int)(M:List Mv):List Int:=M.foldl (fun t m=>t.set (findS h.sets m.name).toNat m.to) t
theorem movedL_len(h:HouseR):∀(M:List Mv) (t:List Int),(movedL h t M).length=t.length
 | [],_=>rfl
 | m::M,t=>by
  show(movedL h (t.set _ m.to) M).length=_;rw[movedL_len h M,List.length_set]
theorem movedL_snoc(h:HouseR)(t:List Int)(M:List Mv){k:Nat}(hk:k<M.length):movedL h t (M.take (k+1))=(movedL h t (M.take k)).set (findS h.sets (mg M k).name).toNat (mg M k).to:=by
 unfold movedL;rw[List.take_succ_eq_append_getElem hk,List.foldl_append,mg_eq M k hk]
 rfl
def trimL(h:HouseR)(C:List CueR):Nat→List Int
 | 0=>highsL h
 | k+1=>movedL h (trimL h C k) (cg C k).moves
theorem trimL_len(h:HouseR)(C:List CueR):∀k,(trimL h C k).length=h.sets.length
 | 0=>by unfold trimL highsL;rw[List.length_map]
 | k+1=>by unfold trimL;rw[movedL_len,trimL_len h C k]
theorem highs_take(h:HouseR){k:Nat}(hk:k<h.sets.length):(h.sets.take (k+1)).map (·.high)=(h.sets.take k).map (·.high)++[(hg h.sets k).high]:=by
 rw[List.take_succ_eq_append_getElem hk,List.map_append,hg_eq h.sets k hk]
 rfl
def TrimOK(h:HouseR)(t:List Int):Prop:=t.length=h.sets.length∧∀i,i<t.length→(hg h.sets i).low≤ig t i∧ig t i≤(hg h.sets i).high
theorem house_set{h:HouseR}(hb:houseB h=true){i:Nat}(hi:i<h.sets.length):SetOK (hg h.sets i)∧(hg h.sets i).high≤h.height:=by
 obtain⟨a,b,_⟩:=(houseB_iff.1 hb).2.2.2.2.2 i hi;exact⟨setB_iff.1 a,b⟩
theorem highs_ok{h:HouseR}(hb:houseB h=true):TrimOK h (highsL h):=by
 have hl:(highsL h).length=h.sets.length:=by unfold highsL;rw[List.length_map]
 refine⟨hl,fun i hi=>?_⟩;have hi':i<h.sets.length:=by omega
 have e:ig (highsL h) i=(hg h.sets i).high:=by
  unfold ig highsL;rw[List.getElem?_map,hg_get hi']
  rfl
 have:=(house_set hb hi').1.low;rw[e];omega
theorem find_name{h:HouseR}{s:ByteArray}(h0:0≤findS h.sets s):(findS h.sets s).toNat<h.sets.length∧(hg h.sets (findS h.sets s).toNat).name=s:=by
 unfold findS at *;rcases set_first_cases h.sets (fun y=>decide (y.name=s))with ⟨e,_⟩ | ⟨i,hi,e,hn,_⟩
 ·omega
 ·rw[e]at h0⊢
  exact⟨by simpa using hi,by simpa using hn⟩
theorem moved_ok{h:HouseR}{M:List Mv}(hM:∀i,i<M.length→MoveOK h M i){t:List Int}(ht:TrimOK h t):∀k,k≤M.length→TrimOK h (movedL h t (M.take k))
 | 0,_=>by rw[List.take_zero];exact ht
 | k+1,hk=>by
  have ih:=moved_ok hM ht k (by omega);have hm:=hM k (by omega);rw[movedL_snoc h t M (by omega)];refine⟨by rw[List.length_set];exact ih.1,fun i hi=>?_⟩;rw[List.length_set]at hi
  have e:ig ((movedL h t (M.take k)).set (findS h.sets (mg M k).name).toNat (mg M k).to) i=if(findS h.sets (mg M k).name).toNat=i then(mg M k).to else ig (movedL h t (M.take k)) i:=by
   unfold ig;rw[List.getElem?_set]
   by_cases q:(findS h.sets (mg M k).name).toNat=i
   ·rw[if_pos q,if_pos q,if_pos (by omega)];rfl
   ·rw[if_neg q,if_neg q]
  rw[e]
  by_cases q:(findS h.sets (mg M k).name).toNat=i
  ·rw[if_pos q]
   subst q;exact⟨hm.2.2.1,hm.2.2.2.1⟩
  ·rw[if_neg q]
   exact ih.2 i hi
theorem trim_ok{h:HouseR}{C:List CueR}(hb:houseB h=true)(hC:∀k,k<C.length→RightOK h (cg C k)):∀k,k≤C.length→TrimOK h (trimL h C k)
 | 0,_=>highs_ok hb
 | k+1,hk=>by
  have:=moved_ok (hC k (by omega)).2 (trim_ok hb hC k (by omega)) (cg C k).moves.length (Nat.le_refl _);rw[List.take_length]at this;exact this
end
section
open Go.RowKit Go.Shelf
attribute [local go_sem] Oper.semAt_some
theorem cbetw_any(n lo hi:Int)(w:World):
  Calls Tryz.prog 147 #[.int .i64 n,.int .i64 lo,.int .i64 hi] w fun e w'=>e=.returned (.bool (betB n lo hi))∧w=w':=by
 go_enter Tryz.func147,Tryz.ntmps147
 go_wp2_with fail
 all_goals (go_ret;exact⟨ret_bool (by rw[Bool.eq_iff_iff,betB_iff];simp;try omega),rfl⟩)
theorem ent_cset(args:Array Value)(w:World):(callFunc 152 args).run Tryz.prog w=.ok (.enter 152 args) w:=enters_of Tryz.func152 (by kernel_rfl) rfl args w
theorem ent_cfind(args:Array Value)(w:World):(callFunc 151 args).run Tryz.prog w=.ok (.enter 151 args) w:=enters_of Tryz.func151 (by kernel_rfl) rfl args w
theorem ent_cright(args:Array Value)(w:World):(callFunc 150 args).run Tryz.prog w=.ok (.enter 150 args) w:=enters_of Tryz.func150 (by kernel_rfl) rfl args w
theorem asks_cset{w:World}{b:Nat}{s:ByteArray}(h:w.cell? ⟨b,0,none⟩=some (.string s)):AsksSet 152 #[.pointer (some ⟨b,0,none⟩)] w.heap.size w (fun y=>decide (y.name=s)):=by
 intro W y hb;have hlt:=wl h;have h':=(hb.cell (p:=⟨b,0,none⟩) hlt).trans h;have hlt':b<W.heap.size:=wl h';show Calls _ _ #[.agg #[.string y.name,.int .i64 y.depth,.int .i64 y.low,.int .i64 y.high,.int .i64 y.length,.slice y.la y.lines.length y.lc,.int .i64 y.pipe,.int .i64 y.arbor,.int .i64 y.purchase,.int .i64 y.most,.int .i64 y.brake,.slice y.ia y.items.length y.ic,.slice y.ba y.bricks.length y.bc],.pointer (some ⟨b,0,none⟩)] _ _;clear h hb hlt
 go_enter Tryz.func152,Tryz.ntmps152
 go_wp2_with fail
 go_ret;exact⟨ret_bool (str_eq _ _),below_new _ _⟩
theorem asks_cfind{w:World}{b:Nat}{s:ByteArray}(h:w.cell? ⟨b,0,none⟩=some (.string s)):AsksC 151 #[.pointer (some ⟨b,0,none⟩)] w.heap.size w (fun y=>decide (y.name=s)):=by
 intro W q hb;have hlt:=wl h;have h':=(hb.cell (p:=⟨b,0,none⟩) hlt).trans h;have hlt':b<W.heap.size:=wl h';show Calls _ _ #[.agg #[.string q.name,.string q.after,.int .i64 q.link,.int .i64 q.delay,.slice q.ma q.moves.length q.mc,.int .i64 q.crew,.int .i64 q.power],.pointer (some ⟨b,0,none⟩)] _ _;clear h hb hlt
 go_enter Tryz.func151,Tryz.ntmps151
 go_wp2_with fail
 go_ret;exact⟨ret_bool (str_eq _ _),below_new _ _⟩
theorem asks_cright{w:World}{b:Nat}{s:ByteArray}(h:w.cell? ⟨b,0,none⟩=some (.string s)):AsksMov 150 #[.pointer (some ⟨b,0,none⟩)] w.heap.size w (fun y=>decide (y.name=s)):=by
 intro W x hb;have hlt:=wl h;have h':=(hb.cell (p:=⟨b,0,none⟩) hlt).trans h;have hlt':b<W.heap.size:=wl h';show Calls _ _ #[.agg #[.string x.name,.int .i64 x.to,.int .i64 x.spd,.int .i64 x.rise,.int .i64 x.fall],.pointer (some ⟨b,0,none⟩)] _ _;clear h hb hlt
 go_enter Tryz.func150,Tryz.ntmps150
 go_wp2_with fail
 go_ret;exact⟨ret_bool (str_eq _ _),below_new _ _⟩
theorem cset_any(h:HouseR)(s:ByteArray)(w:World)(hh:HouseIn0 w h)(hl:h.sets.length≤1000):
  Calls Tryz.prog 98 #[.agg #[.string h.name,.int .i64 h.height,.slice h.sa h.sets.length h.sc,.slice h.ra h.roofs.length h.rc],.string s] w fun e w'=>e=.returned (.int .i64 (findS h.sets s))∧Below w.heap.size w w':=by
 have hB:=(below_new w (LHo h)).alloc (by simp) (.cells #[.string s] 9);have hs0:((w.alloc (LHo h)).alloc (.cells #[.string s] 9)).cell? ⟨w.heap.size+1,0,none⟩=some (.string s):=by simp
 have HI:=lh (set_indexFunc h.sa h.sets h.sc _ _ _ (fun y=>decide (y.name=s)) _ ent_cset (by omega) (Nat.le_refl _) (hh.sets.grow hB) (asks_cset hs0));have HBB:=lh hB;clear hs0 hB hh
 go_enter Tryz.func98,Tryz.ntmps98
 go_wp2_with (go_at_call 45;(with_reducible refine HI.out.mono ?_);rintro e w1 ⟨rfl,hb1⟩)
 go_ret;exact⟨rfl,HBB.out.trans (hb1.mono HBB.out.size)⟩
theorem cfind_any(a:Option Addr)(L:List CueR)(cap:Nat)(s:ByteArray)(w:World)(hL:Cues w.heap.size w a L)(hl:L.length≤1000):
  Calls Tryz.prog 96 #[.slice a L.length cap,.string s] w fun e w'=>e=.returned (.int .i64 (findI L s))∧Below w.heap.size w w':=by
 have hB:=below_new w (.cells #[.string s] 9);have hs0:(w.alloc (.cells #[.string s] 9)).cell? ⟨w.heap.size,0,none⟩=some (.string s):=by simp
 have HI:=lh (cue_indexFunc a L cap _ _ _ (fun y=>decide (y.name=s)) _ ent_cfind (by omega) (Nat.le_refl _) (hL.grow hB) (asks_cfind hs0));have HBB:=lh hB;clear hs0 hB hL
 go_enter Tryz.func96,Tryz.ntmps96
 go_wp2_with (go_at_call 65;(with_reducible refine HI.out.mono ?_);rintro e w1 ⟨rfl,hb1⟩)
 go_ret;exact⟨rfl,HBB.out.trans (hb1.mono HBB.out.size)⟩
def CueAt(w:World)(b:Nat)(q:CueR):Prop:=w.cell? ⟨b,0,none⟩=some (.string q.name)∧w.cell? ⟨b,1,none⟩=some (.string q.after)∧w.cell? ⟨b,2,none⟩=some (.int .i64 q.link)∧w.cell? ⟨b,3,none⟩=some (.int .i64 q.delay)∧w.cell? ⟨b,4,none⟩=some (.slice q.ma q.moves.length q.mc)∧w.cell? ⟨b,5,none⟩=some (.int .i64 q.crew)∧w.cell? ⟨b,6,none⟩=some (.int .i64 q.power)
theorem CueAt.carry{w w':World}{b:Nat}{q:CueR}(x:CueAt w b q)(hb:Below w.heap.size w w'):CueAt w' b q:=by
 have hlt:b<w.heap.size:=wl x.1;obtain⟨a0,a1,a2,a3,a4,a5,a6⟩:=x;exact⟨(hb.cell (p:=⟨b,0,none⟩) hlt).trans a0,(hb.cell (p:=⟨b,1,none⟩) hlt).trans a1,(hb.cell (p:=⟨b,2,none⟩) hlt).trans a2,(hb.cell (p:=⟨b,3,none⟩) hlt).trans a3,(hb.cell (p:=⟨b,4,none⟩) hlt).trans a4,(hb.cell (p:=⟨b,5,none⟩) hlt).trans a5,(hb.cell (p:=⟨b,6,none⟩) hlt).trans a6⟩
theorem CueAt.new(w:World)(q:CueR)(t:TypeId)(n:Nat)(hn:w.heap.size=n):CueAt (w.alloc (.cells #[.string q.name,.string q.after,.int .i64 q.link,.int .i64 q.delay,.slice q.ma q.moves.length q.mc,.int .i64 q.crew,.int .i64 q.power] t)) n q:=by
 subst hn;unfold CueAt
 simp
end
section
section
variable {P:Program} {ops:Array Oper} {Q:Exit→Act→World→Prop} {md:Region.Mode} {S:World→Prop}
theorem tk(i:Nat){oi:Oper}{v:Value}{fuel:Nat}{listed:Array Bool}{a a':Act}{w:World}(h:wpAnyH P md ops Q S fuel (listed.setIfInBounds i true) a' w)
  (hi:ops[i]? =some oi:=by first | (simp only[List.getElem?_toArray,List.getElem?_cons_zero];rfl) | (simp only[List.getElem?_toArray,List.getElem?_cons_succ,List.getElem?_cons_zero];rfl))
  (hs:Region.noSelect ops=true:=by kernel_rfl) (hf:Region.free md ops listed i=true:=by kernel_rfl) (hr:(Region.ready md ops listed).contains i=true:=by kernel_rfl)
  (hQ:∀c a w,Q (.panic c) (a.put oi.dst v) w→Q (.panic c) a w:=by exact fun _ _ _ h=>h)
  (hy:YieldsIf P ops S oi v a:=by refine Or.inl ⟨by rfl,?_⟩;(intro w hSw;(try dsimp only at hSw);go_split_ands;(try simp only[List.getElem_toArray,List.getElem_cons_succ,List.getElem_cons_zero]);go_simp;try with_reducible rfl))
  (ha:a.put oi.dst v=a':=by simp only[Act.put,List.setIfInBounds_toArray,List.set_cons_zero,List.set_cons_succ,List.getElem_toArray,List.getElem_cons_succ,List.getElem_cons_zero];rfl)
  (hS:S w:=by assumption):wpAnyH P md ops Q S (fuel+1) listed a w:=wpAnyH_take hi hs hf hr hQ hy hS (ha▸h)
theorem sk(i:Nat){oi:Oper}{fuel:Nat}{listed:Array Bool}{a a':Act}{w:World}(h:wpAnyH P md ops Q S fuel (listed.setIfInBounds i true) a' w)
  (hi:ops[i]? =some oi:=by first | (simp only[List.getElem?_toArray,List.getElem?_cons_zero];rfl) | (simp only[List.getElem?_toArray,List.getElem?_cons_succ,List.getElem?_cons_zero];rfl))
  (hs:Region.noSelect ops=true:=by kernel_rfl) (hf:Region.free md ops listed i=true:=by kernel_rfl) (hr:(Region.ready md ops listed).contains i=true:=by kernel_rfl)
  (hQ:∀c a w,Q (.panic c) (a.put oi.dst undef) w→Q (.panic c) a w:=by exact fun _ _ _ h=>h)
  (hy:YieldsIf P ops S oi undef a:=by exact Or.inr ⟨by rfl,rfl⟩)
  (ha:a.put oi.dst undef=a':=by simp only[Act.put,List.setIfInBounds_toArray,List.set_cons_zero,List.set_cons_succ,List.getElem_toArray,List.getElem_cons_succ,List.getElem_cons_zero];rfl)
  (hS:S w:=by assumption):wpAnyH P md ops Q S (fuel+1) listed a w:=wpAnyH_take hi hs hf hr hQ hy hS (ha▸h)
end
end
section
open Go.RowKit Go.Shelf
attribute [local go_sem] Oper.semAt_some
noncomputable def headB(q:CueR):Bool:=@decide (HeadOK q) (Classical.propDecidable _)
theorem headB_iff{q:CueR}:headB q=true↔HeadOK q:=by exact @decide_eq_true_iff (HeadOK q) (Classical.propDecidable _)
theorem head_no{q:CueR}(n:¬HeadOK q):headB q=false:=by
 cases e:headB q
 ·rfl
 ·exact absurd (headB_iff.1 e) n
noncomputable def moveB(h:HouseR)(M:List Mv)(i:Nat):Bool:=@decide (MoveOK h M i) (Classical.propDecidable _)
theorem moveB_iff{h:HouseR}{M:List Mv}{i:Nat}:moveB h M i=true↔MoveOK h M i:=by exact @decide_eq_true_iff (MoveOK h M i) (Classical.propDecidable _)
theorem move_no{h:HouseR}{M:List Mv}{i:Nat}(n:¬MoveOK h M i):moveB h M i=false:=by
 cases e:moveB h M i
 ·rfl
 ·exact absurd (moveB_iff.1 e) n
theorem findS_range'(S:List SetR)(s:ByteArray):findS S s=-1∨∃k:Nat,k<S.length∧findS S s=k:=by
 unfold findS;rcases set_first_cases S (fun y=>decide (y.name=s))with ⟨e,_⟩ | ⟨i,hi,e,_⟩
 ·exact .inl e
 ·exact .inr ⟨i,hi,e⟩
theorem taken_any(M:List Mv)(k:Nat)(s:ByteArray):mov_any (M.take k) (fun y=>decide (y.name=s))=false↔∀j,j<k→j<M.length→(mg M j).name≠s:=by
 rw[mov_any_eq,List.any_eq_false]
 constructor
 ·intro h j hj hl e
  have hm:mg M j∈M.take k:=List.mem_take_iff_getElem.2 ⟨j,by omega,(mg_eq M j hl).symm⟩;exact h _ hm (decide_eq_true e)
 ·intro h x hx
  obtain⟨j,hj,e⟩:=List.mem_take_iff_getElem.1 hx;have:=h j (by omega) (by omega);rw[mg_eq M j (by omega),e]at this
  simpa using this
theorem right_any(h:HouseR)(q:CueR)(w:World)(hh:HouseIn0 w h)(hl:h.sets.length≤1000)(hm:Movs w.heap.size w q.ma q.moves)(hml:q.moves.length≤1000)(hmc:q.moves.length≤q.mc):
  Calls Tryz.prog 95 #[.agg #[.string h.name,.int .i64 h.height,.slice h.sa h.sets.length h.sc,.slice h.ra h.roofs.length h.rc],.agg #[.string q.name,.string q.after,.int .i64 q.link,.int .i64 q.delay,.slice q.ma q.moves.length q.mc,.int .i64 q.crew,.int .i64 q.power]] w fun e w'=>e=.returned (.bool (rightB h q))∧Below w.heap.size w w':=by
 have hb0:Below w.heap.size w ((w.alloc (LHo h)).alloc (LCu q)):=(below_new w _).alloc (by simp) _
 have HX:Hid (∀w',Below ((w.alloc (LHo h)).alloc (LCu q)).heap.size ((w.alloc (LHo h)).alloc (LCu q)) w'→HouseAt w' w.heap.size h∧CueAt w' (w.heap.size+1) q∧HouseIn0 w' h∧Movs w'.heap.size w' q.ma q.moves):=lh fun w' z=>
  ⟨((HouseAt.new w h _).carry (below_new _ _)).carry z,(CueAt.new (w.alloc _) q _ _ (by simp)).carry z,(hh.grow hb0).grow z,(hm.grow hb0).grow z⟩
 have HW:Hid (∀w',Below ((w.alloc (LHo h)).alloc (LCu q)).heap.size ((w.alloc (LHo h)).alloc (LCu q)) w'→Below w.heap.size w w'):=lh fun w' z=>hb0.trans (z.mono hb0.size);have HRN:Hid (headB q=false→rightB h q=false):=lh fun e=>right_no fun z=>by rw[headB_iff.2 z.1]at e;cases e
 clear hh hb0 hm
 go_enter Tryz.func95,Tryz.ntmps95
 go_upto_region 1 with (fail)
 obtain⟨W0,hW0⟩:=nm ((w.alloc (LHo h)).alloc (LCu q):World);simp only[hW0]at HX HW⊢;clear hW0;obtain⟨B1,hB1⟩:=nm (w.heap.size);obtain⟨B2,hB2⟩:=nm (w.heap.size+1);rw[hB2]at HX⊢;rw[hB1]at HX⊢;clear hB1 hB2;obtain⟨-,⟨c0,c1,c2,c3,c4,c5,c6⟩,-,-⟩:=HX.out _ br;obtain⟨qa,hqa⟩:=nm (q.ma);have HQA:=lh hqa;rw[hqa]at HX c4⊢;clear hqa
 go_cut [44] (fun v wx=>v=.bool (!headB q)∧W0=wx)
 case first=>
  have HNO:=lh fun (n:¬HeadOK q)=>head_no n
  cases h1:isNameB q.name
  case false=>
   have H1:=lh h1;have HZ:=lh (HNO.out fun z=>by have:=z.name;rw[H1.out]at this;cases this);clear h1
   go_wp2_with (go_at_call 143;(with_reducible refine(isName_any q.name _).mono ?_);rintro e w1 ⟨rfl,rfl⟩;rw[H1.out])
   go_meet
   exact⟨by rw[HZ.out];rfl,rfl⟩
  have H1:=lh h1;clear h1
  by_cases hlk:q.link=1∨q.link=2∨q.link=3
  case neg=>
   have HZ:=lh (HNO.out fun z=>hlk z.link);have l1:(q.link !=1)=true:=bne_iff_ne.2 (by omega);have l2:(q.link !=2)=true:=bne_iff_ne.2 (by omega);have l3:(q.link !=3)=true:=bne_iff_ne.2 (by omega);clear hlk
   go_wp2_with (go_at_call 143;(with_reducible refine(isName_any q.name _).mono ?_);rintro e w1 ⟨rfl,rfl⟩;rw[H1.out])
   go_meet
   exact⟨by rw[HZ.out];rfl,rfl⟩
  have HLK:=lh hlk
  cases h2:betB q.delay 0 2147483648
  case false=>
   have H2:=lh h2;have HZ:=lh (HNO.out fun z=>by have:=betB_iff.2 z.delay;rw[H2.out]at this;cases this);clear h2;rcases hlk with hl1 | hl1 | hl1
   ·have l1:(q.link !=1)=false:=by rw[hl1];rfl
    clear hl1
    go_wp2_with (first
     | (go_at_call 143;(with_reducible refine(isName_any q.name _).mono ?_);rintro e w1 ⟨rfl,rfl⟩;rw[H1.out])
     | (go_at_call 147;(with_reducible refine(cbetw_any q.delay 0 2147483648 _).mono ?_);rintro e w1 ⟨rfl,rfl⟩;rw[H2.out]))
    go_meet
    exact⟨by rw[HZ.out];rfl,rfl⟩
   ·have l1:(q.link !=1)=true:=by rw[hl1];rfl
    have l2:(q.link !=2)=false:=by rw[hl1];rfl
    clear hl1
    go_wp2_with (first
     | (go_at_call 143;(with_reducible refine(isName_any q.name _).mono ?_);rintro e w1 ⟨rfl,rfl⟩;rw[H1.out])
     | (go_at_call 147;(with_reducible refine(cbetw_any q.delay 0 2147483648 _).mono ?_);rintro e w1 ⟨rfl,rfl⟩;rw[H2.out]))
    go_meet
    exact⟨by rw[HZ.out];rfl,rfl⟩
   ·have l1:(q.link !=1)=true:=by rw[hl1];rfl
    have l2:(q.link !=2)=true:=by rw[hl1];rfl
    have l3:(q.link !=3)=false:=by rw[hl1];rfl
    clear hl1
    go_wp2_with (first
     | (go_at_call 143;(with_reducible refine(isName_any q.name _).mono ?_);rintro e w1 ⟨rfl,rfl⟩;rw[H1.out])
     | (go_at_call 147;(with_reducible refine(cbetw_any q.delay 0 2147483648 _).mono ?_);rintro e w1 ⟨rfl,rfl⟩;rw[H2.out]))
    go_meet
    exact⟨by rw[HZ.out];rfl,rfl⟩
  have H2:=lh h2;clear h2
  cases h3:betB q.crew 0 100
  case false=>
   have H3:=lh h3;have HZ:=lh (HNO.out fun z=>by have:=betB_iff.2 z.crew;rw[H3.out]at this;cases this);clear h3;rcases hlk with hl1 | hl1 | hl1
   ·have l1:(q.link !=1)=false:=by rw[hl1];rfl
    clear hl1
    go_wp2_with (first
     | (go_at_call 143;(with_reducible refine(isName_any q.name _).mono ?_);rintro e w1 ⟨rfl,rfl⟩;rw[H1.out])
     | (go_at_call 147;(with_reducible refine(cbetw_any q.delay 0 2147483648 _).mono ?_);rintro e w1 ⟨rfl,rfl⟩;rw[H2.out])
     | (go_at_call 147;(with_reducible refine(cbetw_any q.crew 0 100 _).mono ?_);rintro e w1 ⟨rfl,rfl⟩;rw[H3.out]))
    go_meet
    exact⟨by rw[HZ.out];rfl,rfl⟩
   ·have l1:(q.link !=1)=true:=by rw[hl1];rfl
    have l2:(q.link !=2)=false:=by rw[hl1];rfl
    clear hl1
    go_wp2_with (first
     | (go_at_call 143;(with_reducible refine(isName_any q.name _).mono ?_);rintro e w1 ⟨rfl,rfl⟩;rw[H1.out])
     | (go_at_call 147;(with_reducible refine(cbetw_any q.delay 0 2147483648 _).mono ?_);rintro e w1 ⟨rfl,rfl⟩;rw[H2.out])
     | (go_at_call 147;(with_reducible refine(cbetw_any q.crew 0 100 _).mono ?_);rintro e w1 ⟨rfl,rfl⟩;rw[H3.out]))
    go_meet
    exact⟨by rw[HZ.out];rfl,rfl⟩
   ·have l1:(q.link !=1)=true:=by rw[hl1];rfl
    have l2:(q.link !=2)=true:=by rw[hl1];rfl
    have l3:(q.link !=3)=false:=by rw[hl1];rfl
    clear hl1
    go_wp2_with (first
     | (go_at_call 143;(with_reducible refine(isName_any q.name _).mono ?_);rintro e w1 ⟨rfl,rfl⟩;rw[H1.out])
     | (go_at_call 147;(with_reducible refine(cbetw_any q.delay 0 2147483648 _).mono ?_);rintro e w1 ⟨rfl,rfl⟩;rw[H2.out])
     | (go_at_call 147;(with_reducible refine(cbetw_any q.crew 0 100 _).mono ?_);rintro e w1 ⟨rfl,rfl⟩;rw[H3.out]))
    go_meet
    exact⟨by rw[HZ.out];rfl,rfl⟩
  have H3:=lh h3;clear h3
  cases h4:betB q.power 0 100
  case false=>
   have H4:=lh h4;have HZ:=lh (HNO.out fun z=>by have:=betB_iff.2 z.power;rw[H4.out]at this;cases this);clear h4;rcases hlk with hl1 | hl1 | hl1
   ·have l1:(q.link !=1)=false:=by rw[hl1];rfl
    clear hl1
    go_wp2_with (first
     | (go_at_call 143;(with_reducible refine(isName_any q.name _).mono ?_);rintro e w1 ⟨rfl,rfl⟩;rw[H1.out])
     | (go_at_call 147;(with_reducible refine(cbetw_any q.delay 0 2147483648 _).mono ?_);rintro e w1 ⟨rfl,rfl⟩;rw[H2.out])
     | (go_at_call 147;(with_reducible refine(cbetw_any q.crew 0 100 _).mono ?_);rintro e w1 ⟨rfl,rfl⟩;rw[H3.out])
     | (go_at_call 147;(with_reducible refine(cbetw_any q.power 0 100 _).mono ?_);rintro e w1 ⟨rfl,rfl⟩;rw[H4.out]))
    go_meet
    exact⟨by rw[HZ.out];rfl,rfl⟩
   ·have l1:(q.link !=1)=true:=by rw[hl1];rfl
    have l2:(q.link !=2)=false:=by rw[hl1];rfl
    clear hl1
    go_wp2_with (first
     | (go_at_call 143;(with_reducible refine(isName_any q.name _).mono ?_);rintro e w1 ⟨rfl,rfl⟩;rw[H1.out])
     | (go_at_call 147;(with_reducible refine(cbetw_any q.delay 0 2147483648 _).mono ?_);rintro e w1 ⟨rfl,rfl⟩;rw[H2.out])
     | (go_at_call 147;(with_reducible refine(cbetw_any q.crew 0 100 _).mono ?_);rintro e w1 ⟨rfl,rfl⟩;rw[H3.out])
     | (go_at_call 147;(with_reducible refine(cbetw_any q.power 0 100 _).mono ?_);rintro e w1 ⟨rfl,rfl⟩;rw[H4.out]))
    go_meet
    exact⟨by rw[HZ.out];rfl,rfl⟩
   ·have l1:(q.link !=1)=true:=by rw[hl1];rfl
    have l2:(q.link !=2)=true:=by rw[hl1];rfl
    have l3:(q.link !=3)=false:=by rw[hl1];rfl
    clear hl1
    go_wp2_with (first
     | (go_at_call 143;(with_reducible refine(isName_any q.name _).mono ?_);rintro e w1 ⟨rfl,rfl⟩;rw[H1.out])
     | (go_at_call 147;(with_reducible refine(cbetw_any q.delay 0 2147483648 _).mono ?_);rintro e w1 ⟨rfl,rfl⟩;rw[H2.out])
     | (go_at_call 147;(with_reducible refine(cbetw_any q.crew 0 100 _).mono ?_);rintro e w1 ⟨rfl,rfl⟩;rw[H3.out])
     | (go_at_call 147;(with_reducible refine(cbetw_any q.power 0 100 _).mono ?_);rintro e w1 ⟨rfl,rfl⟩;rw[H4.out]))
    go_meet
    exact⟨by rw[HZ.out];rfl,rfl⟩
  have H4:=lh h4;have HZ:Hid (headB q=true):=lh (headB_iff.2 ⟨H1.out,HLK.out,betB_iff.1 H2.out,betB_iff.1 H3.out,betB_iff.1 H4.out⟩);clear h4;rcases hlk with hl1 | hl1 | hl1
  ·have l1:(q.link !=1)=false:=by rw[hl1];rfl
   clear hl1
   go_wp2_with (first
    | (go_at_call 143;(with_reducible refine(isName_any q.name _).mono ?_);rintro e w1 ⟨rfl,rfl⟩;rw[H1.out])
    | (go_at_call 147;(with_reducible refine(cbetw_any q.delay 0 2147483648 _).mono ?_);rintro e w1 ⟨rfl,rfl⟩;rw[H2.out])
    | (go_at_call 147;(with_reducible refine(cbetw_any q.crew 0 100 _).mono ?_);rintro e w1 ⟨rfl,rfl⟩;rw[H3.out])
    | (go_at_call 147;(with_reducible refine(cbetw_any q.power 0 100 _).mono ?_);rintro e w1 ⟨rfl,rfl⟩;rw[H4.out]))
   go_meet
   exact⟨by rw[HZ.out];rfl,rfl⟩
  ·have l1:(q.link !=1)=true:=by rw[hl1];rfl
   have l2:(q.link !=2)=false:=by rw[hl1];rfl
   clear hl1
   go_wp2_with (first
    | (go_at_call 143;(with_reducible refine(isName_any q.name _).mono ?_);rintro e w1 ⟨rfl,rfl⟩;rw[H1.out])
    | (go_at_call 147;(with_reducible refine(cbetw_any q.delay 0 2147483648 _).mono ?_);rintro e w1 ⟨rfl,rfl⟩;rw[H2.out])
    | (go_at_call 147;(with_reducible refine(cbetw_any q.crew 0 100 _).mono ?_);rintro e w1 ⟨rfl,rfl⟩;rw[H3.out])
    | (go_at_call 147;(with_reducible refine(cbetw_any q.power 0 100 _).mono ?_);rintro e w1 ⟨rfl,rfl⟩;rw[H4.out]))
   go_meet
   exact⟨by rw[HZ.out];rfl,rfl⟩
  ·have l1:(q.link !=1)=true:=by rw[hl1];rfl
   have l2:(q.link !=2)=true:=by rw[hl1];rfl
   have l3:(q.link !=3)=false:=by rw[hl1];rfl
   clear hl1
   go_wp2_with (first
    | (go_at_call 143;(with_reducible refine(isName_any q.name _).mono ?_);rintro e w1 ⟨rfl,rfl⟩;rw[H1.out])
    | (go_at_call 147;(with_reducible refine(cbetw_any q.delay 0 2147483648 _).mono ?_);rintro e w1 ⟨rfl,rfl⟩;rw[H2.out])
    | (go_at_call 147;(with_reducible refine(cbetw_any q.crew 0 100 _).mono ?_);rintro e w1 ⟨rfl,rfl⟩;rw[H3.out])
    | (go_at_call 147;(with_reducible refine(cbetw_any q.power 0 100 _).mono ?_);rintro e w1 ⟨rfl,rfl⟩;rw[H4.out]))
   go_meet
   exact⟨by rw[HZ.out];rfl,rfl⟩
 case rest=>
 obtain⟨rfl,rfl⟩:=hcut
 cases hhd:headB q
 ·have HZ:=lh (HRN.out hhd)
  clear hhd
  go_wp2_with fail
  go_ret;exact⟨ret_bool HZ.out.symm,HW.out _ br⟩
 have HHD:=lh (headB_iff.1 hhd);clear hhd
 go_upto_region 4 with (fail)
 clear c0 c1 c2 c3 c4 c5 c6
 go_loopw [48,5,6,7] (fun iv _ _ _ wr=>∃k:Nat,iv=.int .i64 k∧k≤q.moves.length∧Hid (∀j,j<k→MoveOK h q.moves j)∧Below W0.heap.size W0 wr) (fun iv _ _ _ _=>q.moves.length-(intOf iv).toNat)
 case atStart=>exact⟨0,rfl,Nat.zero_le _,lh (fun _ z=>absurd z (Nat.not_lt_zero _)),br⟩
 case round=>
  obtain⟨k,rfl,hk,HA,hB⟩:=hrel;obtain⟨⟨a0,a1,a2,a3⟩,-,-,hmv⟩:=HX.out _ hB;have hb1w:B1<wr.heap.size:=wl a0
  by_cases hlt:k<q.moves.length
  ·obtain⟨mb,mo,hma,hmb,hmx⟩:=hmv (by omega)
   subst hma;obtain⟨d0,d1,d2,d3,d4⟩:=hmx k hlt;have HRNO:Hid (moveB h q.moves k=false→rightB h q=false):=lh fun e=>right_no fun z=>by rw[moveB_iff.2 (z.2 k hlt)]at e;cases e
   have HNOT:=lh fun (n:¬MoveOK h q.moves k)=>move_no n;obtain⟨x,hx⟩:=nm (mg q.moves k);have HXK:=lh hx;rw[hx]at d0 d1 d2 d3 d4;clear hx hmx hmv;obtain⟨f,hf⟩:=nm (findS h.sets x.name);have HF:=lh hf;have hfr:=findS_range' h.sets x.name;rw[hf]at hfr;have HFR:=lh hfr;have HBX:=lh (hB.alloc hB.size (.cells #[.string x.name,.int .i64 x.to,.int .i64 x.spd,.int .i64 x.rise,.int .i64 x.fall] 94));have HAX:Hid (MvAt (wr.alloc (.cells #[.string x.name,.int .i64 x.to,.int .i64 x.spd,.int .i64 x.rise,.int .i64 x.fall] 94)) wr.heap.size x):=lh (MvAt.new wr x _);clear hf hfr
   go_upto_region 7 with (go_at_call 98;(with_reducible refine(cset_any h x.name _ (HX.out _ HBX.out).2.2.1 hl).mono ?_);rintro e W2 ⟨rfl,hb2⟩;rw[HF.out])
   have hq2:=HBX.out.trans (hb2.mono HBX.out.size);have HAX2:=lh (HAX.out.carry hb2);obtain⟨B4,hB4⟩:=nm (wr.heap.size);rw[hB4]at HAX2⊢;clear hB4 d0 d1 d2 d3 d4 a0 a1 a2 a3 hb2 hb1w hB HBX HAX
   have HY:Hid (∀w',Below W2.heap.size W2 w'→HouseAt w' B1 h∧CueAt w' B2 q∧HouseIn0 w' h∧Movs w'.heap.size w' (some ⟨mb,mo,none⟩) q.moves∧MvAt w' B4 x):=lh fun w' z=>by
    obtain⟨a,b,c,d⟩:=HX.out w' (hq2.trans (z.mono hq2.size));exact⟨a,b,c,d,HAX2.out.carry z⟩
   have HQ2:=lh hq2
   go_cut [89] (fun v wx=>v=.bool (!moveB h q.moves k)∧Below W2.heap.size W2 wx)
   case first=>
    have x0:∀w',Below W2.heap.size W2 w'→w'.cell? ⟨B1,0,none⟩=some (.string h.name):=fun w' z=>(HY.out w' z).1.1;have x1:∀w',Below W2.heap.size W2 w'→w'.cell? ⟨B1,1,none⟩=some (.int .i64 h.height):=fun w' z=>(HY.out w' z).1.2.1;have x2:∀w',Below W2.heap.size W2 w'→w'.cell? ⟨B1,2,none⟩=some (.slice h.sa h.sets.length h.sc):=fun w' z=>(HY.out w' z).1.2.2.1;have y4:∀w',Below W2.heap.size W2 w'→w'.cell? ⟨B2,4,none⟩=some (.slice (some ⟨mb,mo,none⟩) q.moves.length q.mc):=fun w' z=>by rw[←HQA.out];exact(HY.out w' z).2.1.2.2.2.2.1
    have z0:∀w',Below W2.heap.size W2 w'→w'.cell? ⟨B4,0,none⟩=some (.string x.name):=fun w' z=>(HY.out w' z).2.2.2.2.1;have z1:∀w',Below W2.heap.size W2 w'→w'.cell? ⟨B4,1,none⟩=some (.int .i64 x.to):=fun w' z=>(HY.out w' z).2.2.2.2.2.1;have z2:∀w',Below W2.heap.size W2 w'→w'.cell? ⟨B4,2,none⟩=some (.int .i64 x.spd):=fun w' z=>(HY.out w' z).2.2.2.2.2.2.1;have z3:∀w',Below W2.heap.size W2 w'→w'.cell? ⟨B4,3,none⟩=some (.int .i64 x.rise):=fun w' z=>(HY.out w' z).2.2.2.2.2.2.2.1;have z4:∀w',Below W2.heap.size W2 w'→w'.cell? ⟨B4,4,none⟩=some (.int .i64 x.fall):=fun w' z=>(HY.out w' z).2.2.2.2.2.2.2.2;have HLT:=lh hlt;clear hlt hk hq2
    cases hv:validM x
    case false=>
     have HV:=lh hv;have HMB:=lh (HNOT.out fun z=>by have:=z.1;rw[HXK.out,HV.out]at this;cases this);clear hv;refine wp_region_held_drew (S:=(fun w'=>Below W2.heap.size W2 w')) (by kernel_rfl) ((br).drew) (fun hHeld=>?_);refine tk 0 ?_;refine r1 1 (fun K hK=>?_)
     try simp only[s_4,s_5,s_6]
     go_simp
     (go_at_call 148;go_split_ands;(with_reducible refine(valid_anyM x _).mono ?_);rintro e w5 ⟨rfl,hb5⟩;rw[HV.out])
     go_wp2_with fail
     refine hK.out _ _ (hHeld.trans (hb5.mono hHeld.size)) (fun hHeld=>?_);clear hK K
     try simp only[Act.put,s_1,s_2,s_3,s_4,s_5,s_6]
     refine tk 2 ?_;refine tk 3 ?_;refine sk 4 ?_;refine sk 5 ?_;refine tk 6 ?_;refine tk 7 ?_;refine sk 8 ?_;refine sk 9 ?_;refine sk 10 ?_;refine sk 11 ?_;refine sk 12 ?_;refine sk 13 ?_;refine sk 14 ?_;refine sk 15 ?_;refine sk 16 ?_;refine sk 17 ?_;refine sk 18 ?_;refine sk 19 ?_;refine sk 20 ?_;refine sk 21 ?_;refine sk 22 ?_;refine sk 23 ?_;refine tk 24 ?_;refine tk 25 ?_;refine sk 26 ?_;refine sk 27 ?_;refine sk 28 ?_;refine sk 29 ?_;refine sk 30 ?_;refine sk 31 ?_;refine tk 32 ?_;refine wpAnyH_done (by kernel_rfl) ?_ _
     go_wp2_with fail
     go_meet
     exact⟨by rw[HMB.out];rfl,hHeld⟩
    have HV:=lh hv;clear hv
    by_cases hneg:f<0
    ·have HMB:=lh (HNOT.out fun z=>by have:=z.2.1;rw[HXK.out,HF.out]at this;omega)
     have g1:decide (f<0)=true:=decide_eq_true hneg;clear hneg;refine wp_region_held_drew (S:=(fun w'=>Below W2.heap.size W2 w')) (by kernel_rfl) ((br).drew) (fun hHeld=>?_);refine tk 0 ?_;refine r1 1 (fun K hK=>?_)
     try simp only[s_4,s_5,s_6]
     go_simp
     (go_at_call 148;go_split_ands;(with_reducible refine(valid_anyM x _).mono ?_);rintro e w5 ⟨rfl,hb5⟩;rw[HV.out])
     go_wp2_with fail
     refine hK.out _ _ (hHeld.trans (hb5.mono hHeld.size)) (fun hHeld=>?_);clear hK K
     try simp only[Act.put,s_1,s_2,s_3,s_4,s_5,s_6]
     refine tk 2 ?_;refine tk 3 ?_;refine tk 4 ?_;refine tk 5 ?_;refine tk 6 ?_;refine tk 7 ?_;refine sk 8 ?_;refine sk 9 ?_;refine sk 10 ?_;refine sk 11 ?_;refine sk 12 ?_;refine sk 13 ?_;refine sk 14 ?_;refine sk 15 ?_;refine sk 16 ?_;refine sk 17 ?_;refine sk 18 ?_;refine sk 19 ?_;refine sk 20 ?_;refine sk 21 ?_;refine sk 22 ?_;refine sk 23 ?_;refine tk 24 ?_;refine tk 25 ?_;refine sk 26 ?_;refine sk 27 ?_;refine sk 28 ?_;refine sk 29 ?_;refine sk 30 ?_;refine sk 31 ?_;refine tk 32 ?_;refine wpAnyH_done (by kernel_rfl) ?_ _
     go_wp2_with fail
     go_meet
     exact⟨by rw[HMB.out];rfl,hHeld⟩
    have g1:decide (f<0)=false:=decide_eq_false hneg
    have hj:f.toNat<h.sets.length:=by
     rcases HFR.out with e | ⟨j,hj,e⟩
     ·omega
     ·omega
    have j0:0≤f:=by omega
    have j1:f<(h.sets.length:Int):=by omega
    have HSETX:Hid (setM h x=hg h.sets f.toNat):=lh (by unfold setM;rw[HF.out]);obtain⟨sb,so,hsa,hsb,-⟩:=(HY.out _ br).2.2.1.sets (by omega);have HSA:=lh hsa
    have s2:∀w',Below W2.heap.size W2 w'→w'.cell? ⟨sb,so+f.toNat*13+2,none⟩=some (.int .i64 (hg h.sets f.toNat).low):=fun w' z=>by
     obtain⟨b',o',e,-,hc⟩:=(HY.out w' z).2.2.1.sets (by omega);rw[HSA.out]at e
     cases e
     exact(hc _ hj).2.2.1
    have s3:∀w',Below W2.heap.size W2 w'→w'.cell? ⟨sb,so+f.toNat*13+3,none⟩=some (.int .i64 (hg h.sets f.toNat).high):=fun w' z=>by
     obtain⟨b',o',e,-,hc⟩:=(HY.out w' z).2.2.1.sets (by omega);rw[HSA.out]at e
     cases e
     exact(hc _ hj).2.2.2.1
    rw[hsa]at x2;obtain⟨y,hy⟩:=nm (hg h.sets f.toNat);rw[hy]at s2 s3 HSETX;have HJ0:=lh j0;clear hsa hy hneg
    cases ht:betB x.to y.low y.high
    case false=>
     have HT:=lh ht
     have HMB:=lh (HNOT.out fun z=>by
      have a:=z.2.2.1;have b:=z.2.2.2.1;rw[HXK.out,HSETX.out]at a b;have:=betB_iff.2 ⟨a,b⟩;rw[HT.out]at this
      cases this)
     clear ht;refine wp_region_held_drew (S:=(fun w'=>Below W2.heap.size W2 w')) (by kernel_rfl) ((br).drew) (fun hHeld=>?_);refine tk 0 ?_;refine r1 1 (fun K hK=>?_)
     try simp only[s_4,s_5,s_6]
     go_simp
     (go_at_call 148;go_split_ands;(with_reducible refine(valid_anyM x _).mono ?_);rintro e w5 ⟨rfl,hb5⟩;rw[HV.out])
     go_wp2_with fail
     refine hK.out _ _ (hHeld.trans (hb5.mono hHeld.size)) (fun hHeld=>?_);clear hK K
     try simp only[Act.put,s_1,s_2,s_3,s_4,s_5,s_6]
     refine tk 2 ?_;refine tk 3 ?_;refine tk 4 ?_;refine tk 5 ?_;refine tk 6 ?_;refine tk 7 ?_;refine tk 8 ?_;refine tk 9 ?_;refine tk 10 ?_;refine tk 11 ?_;refine tk 12 ?_;refine tk 13 ?_;refine tk 14 ?_;refine tk 15 ?_;refine tk 16 ?_;refine tk 17 ?_;refine tk 18 ?_;refine tk 19 ?_;refine tk 20 ?_;refine tk 21 ?_;refine r1 22 (fun K hK=>?_)
     try simp only[s_4,s_5,s_6]
     go_simp
     (go_at_call 147;go_split_ands;(with_reducible refine(cbetw_any x.to y.low y.high _).mono ?_);rintro e w6 ⟨rfl,rfl⟩;rw[HT.out])
     go_wp2_with fail
     refine hK.out _ _ (hHeld) (fun hHeld=>?_);clear hK K
     try simp only[Act.put,s_1,s_2,s_3,s_4,s_5,s_6]
     refine tk 23 ?_;refine tk 24 ?_;refine tk 25 ?_;refine sk 26 ?_;refine sk 27 ?_;refine sk 28 ?_;refine sk 29 ?_;refine sk 30 ?_;refine sk 31 ?_;refine tk 32 ?_;refine wpAnyH_done (by kernel_rfl) ?_ _
     go_wp2_with fail
     go_meet
     exact⟨by rw[HMB.out];rfl,hHeld⟩
    have HT:=lh ht;clear ht;have HTK:Hid ((q.moves.take k).length=k):=lh (by rw[List.length_take];have:=HLT.out;omega)
    have HCF:Hid (∀w',Below W2.heap.size W2 w'→Calls Tryz.prog 149 #[.slice (some ⟨mb,mo,none⟩) k q.mc,.func (.func 150) #[] #[.pointer (some ⟨B4,0,none⟩)]] w' fun e w2=>e=.returned (.bool (mov_any (q.moves.take k) (fun y=>decide (y.name=x.name))))∧Below w'.heap.size w' w2):=lh fun w' z=>by
     have:=mov_containsFunc (some ⟨mb,mo,none⟩) (q.moves.take k) q.mc _ _ _ (fun y=>decide (y.name=x.name)) w' ent_cright (by rw[HTK.out];have:=HLT.out;omega) (Nat.le_refl _) ((HY.out w' z).2.2.2.1.take k) (asks_cright (HY.out w' z).2.2.2.2.1);rw[HTK.out]at this;exact this
    have k0:(0:Int)≤(k:Int):=by omega
    have k1:(k:Int)≤(q.mc:Int):=by have:=HLT.out;omega
    cases hn:mov_any (q.moves.take k) (fun y=>decide (y.name=x.name))
    case true=>
     have HN:=lh hn
     have HMB:=lh (HNOT.out fun z=>by
      have:=(taken_any q.moves k x.name).2 fun j hj _=>by have:=z.2.2.2.2 j hj;rw[HXK.out]at this;exact this
      rw[HN.out]at this
      cases this)
     clear hn;refine wp_region_held_drew (S:=(fun w'=>Below W2.heap.size W2 w')) (by kernel_rfl) ((br).drew) (fun hHeld=>?_);refine tk 0 ?_;refine r1 1 (fun K hK=>?_)
     try simp only[s_4,s_5,s_6]
     go_simp
     (go_at_call 148;go_split_ands;(with_reducible refine(valid_anyM x _).mono ?_);rintro e w5 ⟨rfl,hb5⟩;rw[HV.out])
     go_wp2_with fail
     refine hK.out _ _ (hHeld.trans (hb5.mono hHeld.size)) (fun hHeld=>?_);clear hK K
     try simp only[Act.put,s_1,s_2,s_3,s_4,s_5,s_6]
     refine tk 2 ?_;refine tk 3 ?_;refine tk 4 ?_;refine tk 5 ?_;refine tk 6 ?_;refine tk 7 ?_;refine tk 8 ?_;refine tk 9 ?_;refine tk 10 ?_;refine tk 11 ?_;refine tk 12 ?_;refine tk 13 ?_;refine tk 14 ?_;refine tk 15 ?_;refine tk 16 ?_;refine tk 17 ?_;refine tk 18 ?_;refine tk 19 ?_;refine tk 20 ?_;refine tk 21 ?_;refine r1 22 (fun K hK=>?_)
     try simp only[s_4,s_5,s_6]
     go_simp
     (go_at_call 147;go_split_ands;(with_reducible refine(cbetw_any x.to y.low y.high _).mono ?_);rintro e w6 ⟨rfl,rfl⟩;rw[HT.out])
     go_wp2_with fail
     refine hK.out _ _ (hHeld) (fun hHeld=>?_);clear hK K
     try simp only[Act.put,s_1,s_2,s_3,s_4,s_5,s_6]
     refine tk 23 ?_;refine tk 24 ?_;refine tk 25 ?_;refine tk 26 ?_;refine tk 27 ?_;refine tk 28 ?_;refine tk 29 ?_;refine tk 30 ?_;refine r1 31 (fun K hK=>?_)
     try simp only[s_4,s_5,s_6]
     go_simp
     (go_at_call 149;go_split_ands;(with_reducible refine(HCF.out _ hHeld).mono ?_);rintro e w7 ⟨rfl,hb7⟩;rw[HN.out])
     go_wp2_with fail
     refine hK.out _ _ (hHeld.trans (hb7.mono hHeld.size)) (fun hHeld=>?_);clear hK K
     try simp only[Act.put,s_1,s_2,s_3,s_4,s_5,s_6]
     refine tk 32 ?_;refine wpAnyH_done (by kernel_rfl) ?_ _
     go_wp2_with fail
     go_meet
     exact⟨by rw[HMB.out];rfl,hHeld⟩
    ·have HN:=lh hn
     have HMB:Hid (moveB h q.moves k=true):=lh (moveB_iff.2 (by
      refine⟨by rw[HXK.out];exact HV.out,by rw[HXK.out,HF.out];exact HJ0.out,?_,?_,fun j hj=>?_⟩
      ·rw[HXK.out,HSETX.out];exact(betB_iff.1 HT.out).1
      ·rw[HXK.out,HSETX.out];exact(betB_iff.1 HT.out).2
      ·rw[HXK.out];exact(taken_any q.moves k x.name).1 HN.out j hj (by have:=HLT.out;omega)))
     clear hn;refine wp_region_held_drew (S:=(fun w'=>Below W2.heap.size W2 w')) (by kernel_rfl) ((br).drew) (fun hHeld=>?_);refine tk 0 ?_;refine r1 1 (fun K hK=>?_)
     try simp only[s_4,s_5,s_6]
     go_simp
     (go_at_call 148;go_split_ands;(with_reducible refine(valid_anyM x _).mono ?_);rintro e w5 ⟨rfl,hb5⟩;rw[HV.out])
     go_wp2_with fail
     refine hK.out _ _ (hHeld.trans (hb5.mono hHeld.size)) (fun hHeld=>?_);clear hK K
     try simp only[Act.put,s_1,s_2,s_3,s_4,s_5,s_6]
     refine tk 2 ?_;refine tk 3 ?_;refine tk 4 ?_;refine tk 5 ?_;refine tk 6 ?_;refine tk 7 ?_;refine tk 8 ?_;refine tk 9 ?_;refine tk 10 ?_;refine tk 11 ?_;refine tk 12 ?_;refine tk 13 ?_;refine tk 14 ?_;refine tk 15 ?_;refine tk 16 ?_;refine tk 17 ?_;refine tk 18 ?_;refine tk 19 ?_;refine tk 20 ?_;refine tk 21 ?_;refine r1 22 (fun K hK=>?_)
     try simp only[s_4,s_5,s_6]
     go_simp
     (go_at_call 147;go_split_ands;(with_reducible refine(cbetw_any x.to y.low y.high _).mono ?_);rintro e w6 ⟨rfl,rfl⟩;rw[HT.out])
     go_wp2_with fail
     refine hK.out _ _ (hHeld) (fun hHeld=>?_);clear hK K
     try simp only[Act.put,s_1,s_2,s_3,s_4,s_5,s_6]
     refine tk 23 ?_;refine tk 24 ?_;refine tk 25 ?_;refine tk 26 ?_;refine tk 27 ?_;refine tk 28 ?_;refine tk 29 ?_;refine tk 30 ?_;refine r1 31 (fun K hK=>?_)
     try simp only[s_4,s_5,s_6]
     go_simp
     (go_at_call 149;go_split_ands;(with_reducible refine(HCF.out _ hHeld).mono ?_);rintro e w7 ⟨rfl,hb7⟩;rw[HN.out])
     go_wp2_with fail
     refine hK.out _ _ (hHeld.trans (hb7.mono hHeld.size)) (fun hHeld=>?_);clear hK K
     try simp only[Act.put,s_1,s_2,s_3,s_4,s_5,s_6]
     refine tk 32 ?_;refine wpAnyH_done (by kernel_rfl) ?_ _
     go_wp2_with fail
     go_meet
     exact⟨by rw[HMB.out];rfl,hHeld⟩
   case rest=>
   obtain⟨rfl,hbc⟩:=hcut;have hqc:=HQ2.out.trans (hbc.mono HQ2.out.size)
   cases hmb2:moveB h q.moves k
   ·have HZ:=lh (HRNO.out hmb2)
    clear hmb2
    go_wp2_with fail
    go_ret;exact⟨ret_bool HZ.out.symm,HW.out _ hqc⟩
   ·have HA2:Hid (∀j,j<k+1→MoveOK h q.moves j):=lh fun j hj=>by
     rcases Nat.lt_or_ge j k with l | l
     ·exact HA.out j l
     ·obtain rfl:j=k:=by omega
      exact moveB_iff.1 hmb2
    clear hmb2
    go_wp2_with fail
    go_roundw
    case rel=>
     repeat apply Exists.intro
     exact⟨⟨k+1,by go_num,by omega,HA2,hqc⟩,rfl⟩
    case measure=>simp[intOf];omega
  ·obtain rfl:k=q.moves.length:=by omega
   have HZ:Hid (rightB h q=true):=lh (rightB_iff.2 ⟨HHD.out,HA.out⟩)
   go_wp2_with fail
   go_ret;exact⟨ret_bool HZ.out.symm,HW.out _ hB⟩
end
section
open Go.RowKit Go.Shelf Go.Maps Go.WideMaps
theorem bl_tri:∀x y:List UInt8,Op.bytesLess x y=true∨x=y∨Op.bytesLess y x=true
 | [],[]=>.inr (.inl rfl)
 | [],_::_=>.inl rfl
 | _::_,[]=>.inr (.inr rfl)
 | a::x,b::y=>by
  unfold Op.bytesLess;simp only[Bool.or_eq_true,Bool.and_eq_true,decide_eq_true_eq,beq_iff_eq,UInt8.lt_iff_toNat_lt];rcases Nat.lt_trichotomy a.toNat b.toNat with l | l | l
  ·exact .inl (.inl l)
  ·have e:a=b:=UInt8.toNat_inj.1 l
   subst e;rcases bl_tri x y with h | h | h
   ·exact .inl (.inr ⟨rfl,h⟩)
   ·exact .inr (.inl (by rw[h]))
   ·exact .inr (.inr (.inr ⟨rfl,h⟩))
  ·exact .inr (.inr (.inl l))
theorem bl_asym:∀x y:List UInt8,Op.bytesLess x y=true→Op.bytesLess y x=false
 | [],[],h=>by cases h
 | [],_::_,_=>rfl
 | _::_,[],h=>by cases h
 | a::x,b::y,h=>by
  unfold Op.bytesLess at h⊢;simp only[Bool.or_eq_true,Bool.and_eq_true,decide_eq_true_eq,beq_iff_eq,UInt8.lt_iff_toNat_lt]at h;simp only[Bool.or_eq_false_iff,Bool.and_eq_false_iff,decide_eq_false_iff_not,beq_eq_false_iff_ne,UInt8.lt_iff_toNat_lt];rcases h with l | ⟨e,h⟩
  ·exact⟨by omega,.inl fun e=>by subst e;omega⟩
  ·subst e
   exact⟨by omega,.inr (bl_asym x y h)⟩
def ordB(x:ByteArray×ByteArray):Bool:=Op.bytesLess x.1.toList x.2.toList||x.1.toList==x.2.toList
def normP(x:ByteArray×ByteArray):ByteArray×ByteArray:=if ordB x=true then x else(x.2,x.1)
theorem toList_inj{a b:ByteArray}(h:a.toList=b.toList):a=b:=by
 have:=str_eq a b;rw[show(a.toList==b.toList)=true from beq_iff_eq.2 h]at this;exact of_decide_eq_true this.symm
theorem norm_swap(a b:ByteArray):normP (a,b)=normP (b,a):=by
 unfold normP ordB;rcases bl_tri a.toList b.toList with h | h | h
 ·rw[h,bl_asym _ _ h]
  have hne:(b.toList==a.toList)=false:=beq_eq_false_iff_ne.2 fun e=>by
   have:=bl_asym _ _ h;rw[e]at this;rw[e]at h;rw[h]at this;cases this
  rw[hne];rfl
 ·obtain rfl:=toList_inj h
  rfl
 ·rw[h,bl_asym _ _ h]
  have hne:(a.toList==b.toList)=false:=beq_eq_false_iff_ne.2 fun e=>by
   have:=bl_asym _ _ h;rw[e]at this;rw[e]at h;rw[h]at this;cases this
  rw[hne];rfl
theorem norm_same(x y:ByteArray×ByteArray):normP x=normP y↔samePair x y:=by
 constructor
 ·intro h
  unfold normP at h;obtain⟨a,b⟩:=x;obtain⟨c,d⟩:=y;unfold samePair
  split at h<;>split at h<;>simp only[Prod.mk.injEq]at h⊢
  ·exact .inl h
  ·exact .inr ⟨h.1,h.2⟩
  ·exact .inr ⟨h.2,h.1⟩
  ·exact .inl ⟨h.2,h.1⟩
 ·rintro (h | ⟨h1,h2⟩)
  ·rw[h]
  ·obtain⟨a,b⟩:=x
   obtain⟨c,d⟩:=y;simp only at h1 h2;subst h1 h2;exact norm_swap _ _
theorem pairKey:ArrKey Tryz.prog 149 9 2:=⟨Tryz.underlying149,by kernel_rfl,by kernel_rfl,by kernel_rfl⟩
theorem pairLaw:KeyLaw Tryz.prog 149:=pairKey.law
theorem pairKeyed:Keyed Tryz.prog 149:=Keyed.of_law pairLaw
def pairL(x:ByteArray×ByteArray):Lit:=.string (keyBytes [.string x.1.data.toList,.string x.2.data.toList])
theorem types_some:∃m,(Tryz.prog).types.size=m+1:=⟨(Tryz.prog).types.size-1,by have h:0<(Tryz.prog).types.size:=of_decide_eq_true (by kernel_rfl);omega⟩
theorem keyOf_spair(x:ByteArray×ByteArray)(h1:x.1.size≤maxLen)(h2:x.2.size≤maxLen):keyOf Tryz.prog 149 (.agg #[.string x.1,.string x.2])=some (pairL x):=by
 have A:=pairKey;have he:(Tryz.prog).underlying 9=some .string:=Tryz.underlying9;have hkt:=A.keyType types_some;obtain⟨m,hm⟩:=types_some;unfold keyOf;simp only[A.hu];rw[if_pos (by simp[hkt,Value.formed,A.hu,A.size]),hm];unfold Program.keyLits;simp only[A.hu,Value.cells];rw[if_pos (by rw[A.size];rfl),show List.range 2=[0,1]from rfl,List.mapM_cons,List.mapM_cons,List.mapM_nil]
 simp[A.one,Program.keyLits,he,h1,h2,pairL]
theorem pairL_inj{x y:ByteArray×ByteArray}(hx:x.1.size≤maxLen∧x.2.size≤maxLen)(hy:y.1.size≤maxLen∧y.2.size≤maxLen)(h:pairL x=pairL y):x=y:=by
 have:=pairLaw.inj (keyOf_spair x hx.1 hx.2) (by rw[h];exact keyOf_spair y hy.1 hy.2);simp only[Value.agg.injEq,Array.mk.injEq,List.cons.injEq,Value.string.injEq,and_true]at this;exact Prod.ext this.1 this.2
def pairKs(A:List (ByteArray×ByteArray))(k:Nat):List Lit:=(A.take k).map fun x=>pairL (normP x)
theorem pairKs_is(A:List (ByteArray×ByteArray))(k:Nat):∀x∈pairKs A k,WideAt.IsKeyLit x:=by
 intro x hx;unfold pairKs at hx;obtain⟨y,_,rfl⟩:=List.mem_map.1 hx
 trivial
def PairD(A:List (ByteArray×ByteArray))(k:Nat):DataW Unit:=setOf (.agg []) (pairKs A k)
theorem pairD_next(A:List (ByteArray×ByteArray)){k:Nat}(h:k<A.length):(PairD A k).put (pairL (normP (pg A k))) (.agg [])=PairD A (k+1):=by
 unfold PairD pairKs;rw[List.take_succ_eq_append_getElem h,List.map_append,List.map_cons,List.map_nil,setOf_snoc,pg_eq A k h]
def NamesOK(A:List (ByteArray×ByteArray)):Prop:=∀i,i<A.length→(pg A i).1.size≤1000∧(pg A i).2.size≤1000
theorem norm_size{x:ByteArray×ByteArray}(h:x.1.size≤1000∧x.2.size≤1000):(normP x).1.size≤maxLen∧(normP x).2.size≤maxLen:=by
 unfold normP maxLen
 split
 ·omega
 ·show x.2.size≤_∧x.1.size≤_
  omega
theorem pair_has{A:List (ByteArray×ByteArray)}(hn:NamesOK A){k:Nat}(h:k<A.length):Maps.has (PairD A k) (pairL (normP (pg A k)))=true↔∃j,j<k∧samePair (pg A j) (pg A k):=by
 unfold PairD;rw[has_setOf _ _ _ (pairKs_is A k),any_mem (pairKs A k) (pairL (normP (pg A k))) (show WideAt.IsKeyLit (Lit.string _)from trivial)];unfold pairKs;rw[List.mem_map]
 constructor
 ·rintro ⟨y,hy,e⟩
  obtain⟨j,hj,rfl⟩:=List.mem_take_iff_getElem.1 hy;refine⟨j,by omega,?_⟩;have:=hn j (by omega);rw[pg_eq A j (by omega)]at this⊢;exact(norm_same _ _).1 (pairL_inj (norm_size this) (norm_size (hn k h)) e)
 ·rintro ⟨j,hj,e⟩
  exact⟨pg A j,List.mem_take_iff_getElem.2 ⟨j,by omega,(pg_eq A j (by omega)).symm⟩,by rw[(norm_same _ _).2 e]⟩
theorem pair_ok_norm{C:List CueR}{A:List (ByteArray×ByteArray)}{k:Nat}{x p:ByteArray×ByteArray}{t:Bool}(hx:pg A k=x)(h:p=x∨p=(x.2,x.1))(ht:t=true↔∃j,j<k∧samePair (pg A j) x):
  PairAtOK C A k↔t=false∧p.1≠p.2∧0≤findI C p.1∧0≤findI C p.2:=by
 unfold PairAtOK;rw[hx]
 have e:t=false↔∀j,j<k→¬samePair (pg A j) x:=by
  constructor
  ·intro h j hj q
   rw[ht.2 ⟨j,hj,q⟩]at h;cases h
  ·intro h
   cases q:t
   ·rfl
   ·obtain⟨j,hj,z⟩:=ht.1 q
    exact absurd z (h j hj)
 rw[e];rcases h with rfl | rfl
 ·exact⟨fun ⟨a,b,c,d⟩=>⟨d,a,b,c⟩,fun ⟨d,a,b,c⟩=>⟨a,b,c,d⟩⟩
 ·exact⟨fun ⟨a,b,c,d⟩=>⟨d,fun q=>a q.symm,c,b⟩,fun ⟨d,a,b,c⟩=>⟨fun q=>a q.symm,c,b,d⟩⟩
end
section
open Go.RowKit Go.Shelf Go.Maps Go.WideMaps
attribute [local go_sem] Oper.semAt_some
def PrAt(w:World)(b:Nat)(p:ByteArray×ByteArray):Prop:=w.cell? ⟨b,0,none⟩=some (.string p.1)∧w.cell? ⟨b,1,none⟩=some (.string p.2)
theorem PrAt.carry{W w:World}{b:Nat}{p:ByteArray×ByteArray}(c:PrAt W b p)(h:Below W.heap.size W w):PrAt w b p:=
 ⟨(h.cell (p:=⟨b,0,none⟩) (wl c.1)).trans c.1,(h.cell (p:=⟨b,1,none⟩) (wl c.2)).trans c.2⟩
theorem zeroU(w:World):(zeroValue 208).run Tryz.prog w=.ok (.agg #[]) w:=by kernel_rfl
theorem capart_any(s:SheetR)(w:World)(hs:SheetIn0 w s)(hcl:s.cues.length≤1000)(hn:NamesOK s.pairs):
  Calls Tryz.prog 97 #[.agg #[.slice s.ca s.cues.length s.cc,.slice s.pa s.pairs.length s.pc]] w fun e w'=>e=.returned (.bool (pairsB s.cues s.pairs))∧Below w.heap.size w w':=by
 have hb0:=below_new w (LSh s);have hat:SheetAt (w.alloc (LSh s)) w.heap.size s:=by unfold SheetAt;simp
 have HX:Hid (∀w',Below (w.alloc (LSh s)).heap.size (w.alloc (LSh s)) w'→SheetAt w' w.heap.size s∧SheetIn0 w' s∧Below w.heap.size w w'):=lh fun w' z=>⟨hat.carry z,(hs.grow hb0).grow z,hb0.trans (z.mono hb0.size)⟩;have HNN:=lh hn;clear hs hat hb0 hn;have hmm:=@run_makeMap Tryz.prog
 go_enter Tryz.func97,Tryz.ntmps97
 go_upto_region 1 with (fail)
 have HW:Hid (∀w',Below (w.alloc (LSh s)).heap.size (w.alloc (LSh s)) w'→Below w.heap.size w w'):=lh fun w' z=>(HX.out w' z).2.2;generalize w.alloc (LSh s)=W0 at *;obtain⟨B,hB⟩:=nm (w.heap.size);rw[hB]at HX⊢;clear hB;obtain⟨⟨s0,s1⟩,-,-⟩:=HX.out _ br;obtain⟨pa,hpa⟩:=nm (s.pa);have HPA:=lh hpa;rw[hpa]at s1⊢;clear hpa
 by_cases hl:1000<s.pairs.length
 ·have HZ:=lh (pairs_no (C:=s.cues) (A:=s.pairs) fun z=>by have:=z.1;omega)
  have g1:decide ((1000:Int)<(s.pairs.length:Int))=true:=dT (by omega);clear hl
  go_wp2_with fail
  go_ret;exact⟨ret_bool HZ.out.symm,HW.out _ br⟩
 have g1:decide ((1000:Int)<(s.pairs.length:Int))=false:=dF (by omega);have hlt0:B<W0.heap.size:=wl s0
 go_upto_region 5 with (fail)
 clear s0 s1;obtain⟨BM,hBM⟩:=nm (W0.heap.size);have HM0:Hid ((W0.alloc (.map #[] 0)).ownsMap Tryz.prog 149 unitElem BM 0 (PairD s.pairs 0)):=lh (by rw[←hBM];exact World.ownsMap_made _ _ _ _);have hB0:Below BM W0 (W0.alloc (.map #[] 0)):=by rw[←hBM];exact below_new W0 _
 have hs0:BM<(W0.alloc (.map #[] 0)).heap.size:=by rw[←hBM];simp
 have HXX:Hid (∀w',Below BM W0 w'→SheetAt w' B s∧SheetIn0 w' s):=lh fun w' z=>by rw[←hBM]at z;exact⟨(HX.out w' z).1,(HX.out w' z).2.1⟩
 have HWW:Hid (∀w',Below BM W0 w'→Below w.heap.size w w'):=lh fun w' z=>by rw[←hBM]at z;exact HW.out w' z
 rw[hBM];clear HX HW hBM
 go_loopw [16,5,6,7] (fun iv _ _ _ wr=>∃k:Nat,iv=.int .i64 k∧k≤s.pairs.length∧Hid (∀j,j<k→PairAtOK s.cues s.pairs j)∧Below BM W0 wr∧BM<wr.heap.size∧Hid (wr.ownsMap Tryz.prog 149 unitElem BM k (PairD s.pairs k))) (fun iv _ _ _ _=>s.pairs.length-(intOf iv).toNat)
 case atStart=>exact⟨0,rfl,Nat.zero_le _,lh (fun _ z=>absurd z (Nat.not_lt_zero _)),hB0,hs0,HM0⟩
 case round=>
  clear hB0 hs0 HM0;obtain⟨k,rfl,hk,HA,hB,hbs,HO⟩:=hrel
  by_cases hlt:k<s.pairs.length
  ·obtain⟨xb,xo,hxa,hxb,hxc⟩:=(HXX.out _ hB).2.plies (by omega)
   rw[HPA.out]at hxa;subst hxa;obtain⟨d0,d1⟩:=hxc k hlt;have HNO:Hid (¬PairAtOK s.cues s.pairs k→pairsB s.cues s.pairs=false):=lh fun n=>pairs_no fun z=>n (z.2 k hlt)
   have HNX:Hid (PairAtOK s.cues s.pairs k→∀j,j<k+1→PairAtOK s.cues s.pairs j):=lh fun z j hj=>by
    rcases Nat.lt_or_ge j k with l | l
    ·exact HA.out j l
    ·obtain rfl:j=k:=by omega
     exact z
   have HHS:=lh (pair_has HNN.out hlt);have HDN:=lh (pairD_next s.pairs hlt);have HSZ:=lh (norm_size (HNN.out k hlt));obtain⟨x,hx⟩:=nm (pg s.pairs k);have HXK:=lh hx;rw[hx]at d0 d1 HHS HDN HSZ;clear hx hxc;obtain⟨p,hp⟩:=nm (normP x);have HNP:=lh hp;rw[hp]at HHS HDN HSZ;clear hp;obtain⟨o,ho⟩:=nm ((Op.bytesLess x.1.toList x.2.toList||x.1.toList==x.2.toList));have HPO:Hid (p=if o=true then x else(x.2,x.1)):=lh (by rw[←HNP.out,←ho];rfl);have HB3:=lh (hB.alloc (Nat.le_of_lt hbs) (.cells #[.string p.1,.string p.2] 149));have HO1:=lh (below_map HO.out (below_new wr (.cells #[.string p.1,.string p.2] 149)));have HP1:Hid (PrAt (wr.alloc (.cells #[.string p.1,.string p.2] 149)) wr.heap.size p):=lh ⟨by simp,by simp⟩;clear HO HA
   cases o
   case' false=>
    have e1:x.2=p.1:=by rw[HPO.out];rfl
    have e2:x.1=p.2:=by rw[HPO.out];rfl
    have HPX:Hid (p=(x.2,x.1)):=lh (HPO.out.trans rfl)
   case' true=>
    have e1:x.1=p.1:=by rw[HPO.out];rfl
    have e2:x.2=p.2:=by rw[HPO.out];rfl
    have HPX:Hid (p=x):=lh (HPO.out.trans rfl)
   all_goals
    have E1:=lh e1;have E2:=lh e2;clear e1 e2
    go_upto_region 9 with (fail)
    clear ho;rw[E1.out,E2.out];have HBS:Hid (BM≤(wr.alloc (.cells #[.string p.1,.string p.2] 149)).heap.size):=lh (by simp;omega);generalize wr.alloc (.cells #[.string p.1,.string p.2] 149)=W3 at *;obtain⟨B5,hB5⟩:=nm (wr.heap.size);rw[hB5]at HP1⊢;have HKP:Hid (keyOf Tryz.prog 149 (.agg #[.string p.1,.string p.2])=some (pairL p)):=lh (keyOf_spair p HSZ.out.1 HSZ.out.2);obtain⟨q0,q1⟩:=HP1.out;obtain⟨t,ht⟩:=nm (Maps.has (PairD s.pairs k) (pairL p));rw[ht]at HHS;have HT:=lh ht;clear ht hB5 d0 d1
    go_upto_region 10 with (at_lookup;refine wpList_lookup_own_unit _ rfl _ _ 207 rfl 149 208 pairKeyed Tryz.underlying207 (zeroU _) BM k (PairD s.pairs k) rfl HO1.out _ (pairL p) rfl HKP.out ?_;rw[HT.out])
    have HQQ:Hid (PairAtOK s.cues s.pairs k↔t=false∧p.1≠p.2∧0≤findI s.cues p.1∧0≤findI s.cues p.2):=lh (pair_ok_norm HXK.out (by first | exact .inl HPX.out | exact .inr HPX.out) HHS.out);have hb34:=below_new W3 (.cells #[] 208);have HB4:=lh (HB3.out.alloc ((HBS.out)) (.cells #[] 208));have HO4:=lh (below_map HO1.out hb34);have HP4:=lh (HP1.out.carry hb34);have hs4:BM≤(W3.alloc (.cells #[] 208)).heap.size:=Nat.le_trans (HBS.out) hb34.size;clear q0 q1 hb34 HB3 HO1 HP1;generalize W3.alloc (.cells #[] 208)=W4 at *;obtain⟨q0,q1⟩:=HP4.out;obtain⟨⟨s0,s1⟩,-⟩:=HXX.out _ HB4.out;have HCU:Hid (∀w',Below BM W0 w'→Cues w'.heap.size w' s.ca s.cues):=lh fun w' z=>(HXX.out w' z).2.lies
    cases t
    case' true=>
     have HZ:=lh (HNO.out fun z=>by cases (HQQ.out.1 z).1)
     go_wp2_with fail
     go_ret;exact⟨ret_bool HZ.out.symm,HWW.out _ HB4.out⟩
    have hse:=str_eq p.1 p.2
    by_cases he:p.1=p.2
    case' pos=>
     have HZ:=lh (HNO.out fun z=>(HQQ.out.1 z).2.1 he);rw[decide_eq_true he]at hse;clear he
     go_wp2_with fail
     go_ret;exact⟨ret_bool HZ.out.symm,HWW.out _ HB4.out⟩
    rw[decide_eq_false he]at hse;have HNE:=lh he;obtain⟨f1,hf1⟩:=nm (findI s.cues p.1);obtain⟨f2,hf2⟩:=nm (findI s.cues p.2);have HF1:=lh hf1;have HF2:=lh hf2;rw[hf1,hf2]at HQQ;clear he hf1 hf2
    by_cases hg1:f1<0
    case' pos=>
     have HZ:=lh (HNO.out fun z=>by have:=(HQQ.out.1 z).2.2.1;omega);have g2:decide (f1<0)=true:=decide_eq_true hg1;clear hg1
     go_wp2_with (go_at_call 96;(with_reducible refine(cfind_any _ s.cues _ p.1 _ (HCU.out _ HB4.out) hcl).mono ?_);rintro e w5 ⟨rfl,hb5⟩;rw[HF1.out];have hB5:=HB4.out.trans (hb5.mono hs4);have hP5:=HP4.out.carry hb5;have HO5:=lh (below_map HO4.out hb5);have hs5:=Nat.le_trans hs4 hb5.size;obtain⟨⟨y0,y1⟩,-⟩:=HXX.out _ hB5;obtain⟨z0,z1⟩:=hP5)
     go_ret;exact⟨ret_bool HZ.out.symm,HWW.out _ hB5⟩
    have g2:decide (f1<0)=false:=decide_eq_false hg1
    by_cases hg2:f2<0
    case' pos=>
     have HZ:=lh (HNO.out fun z=>by have:=(HQQ.out.1 z).2.2.2;omega);have g3:decide (f2<0)=true:=decide_eq_true hg2;clear hg2 hg1
     go_wp2_with (first
      | (go_at_call 96;(with_reducible refine(cfind_any _ s.cues _ p.2 _ (HCU.out _ hB5) hcl).mono ?_);rintro e w6 ⟨rfl,hb6⟩;rw[HF2.out];have hB6:=hB5.trans (hb6.mono hs5);have hP6:=PrAt.carry ⟨z0,z1⟩ hb6;have HO6:=lh (below_map HO5.out hb6);have hs6:=Nat.le_trans hs5 hb6.size;obtain⟨v0,v1⟩:=hP6)
      | (go_at_call 96;(with_reducible refine(cfind_any _ s.cues _ p.1 _ (HCU.out _ HB4.out) hcl).mono ?_);rintro e w5 ⟨rfl,hb5⟩;rw[HF1.out];have hB5:=HB4.out.trans (hb5.mono hs4);have hP5:=HP4.out.carry hb5;have HO5:=lh (below_map HO4.out hb5);have hs5:=Nat.le_trans hs4 hb5.size;obtain⟨⟨y0,y1⟩,-⟩:=HXX.out _ hB5;obtain⟨z0,z1⟩:=hP5))
     go_ret;exact⟨ret_bool HZ.out.symm,HWW.out _ hB6⟩
    have g3:decide (f2<0)=false:=decide_eq_false hg2;have HNXT:=lh (HNX.out (HQQ.out.2 ⟨rfl,HNE.out,by omega,by omega⟩));clear hg1 hg2
    go_upto_region 12 with (first
     | (go_at_call 96;(with_reducible refine(cfind_any _ s.cues _ p.2 _ (HCU.out _ hB5) hcl).mono ?_);rintro e w6 ⟨rfl,hb6⟩;rw[HF2.out];have hB6:=hB5.trans (hb6.mono hs5);have hP6:=PrAt.carry ⟨z0,z1⟩ hb6;have HO6:=lh (below_map HO5.out hb6);have hs6:=Nat.le_trans hs5 hb6.size;obtain⟨v0,v1⟩:=hP6)
     | (go_at_call 96;(with_reducible refine(cfind_any _ s.cues _ p.1 _ (HCU.out _ HB4.out) hcl).mono ?_);rintro e w5 ⟨rfl,hb5⟩;rw[HF1.out];have hB5:=HB4.out.trans (hb5.mono hs4);have hP5:=HP4.out.carry hb5;have HO5:=lh (below_map HO4.out hb5);have hs5:=Nat.le_trans hs4 hb5.size;obtain⟨⟨y0,y1⟩,-⟩:=HXX.out _ hB5;obtain⟨z0,z1⟩:=hP5))
    go_wp2_with (at_mapUpdate;refine wpList_mapUpdate_own _ rfl _ _ _ 207 rfl 149 208 pairKeyed Tryz.underlying207 unitElem BM k (PairD s.pairs k) rfl HO6.out (by unfold maxLen;omega) (.agg #[.string p.1,.string p.2]) (.agg #[]) (pairL p) rfl rfl HKP.out (.agg []) [] unitElem_mk ?_;intro w7 hown7 hgrow7;rw[HDN.out]at hown7;have HO7:=lh hown7;have HG7:=lh hgrow7;clear hown7 hgrow7)
    have hB7:Below BM W0 w7:=hB6.grown HG7.out hs6 (fun j hj=>by cases hj;exact Nat.le_refl _);go_roundw
    case rel=>exact⟨k+1,by go_num,by omega,HNXT,hB7,(HO7.out.lt),HO7⟩
    case measure=>simp[intOf];omega
  ·obtain rfl:k=s.pairs.length:=by omega
   have HZ:Hid (pairsB s.cues s.pairs=true):=lh (pairsB_iff.2 ⟨by omega,HA.out⟩)
   go_wp2_with fail
   go_ret;exact⟨ret_bool HZ.out.symm,HWW.out _ hB⟩
end
end Go.Proofs.YtebofaenlhhkaaaGreat
