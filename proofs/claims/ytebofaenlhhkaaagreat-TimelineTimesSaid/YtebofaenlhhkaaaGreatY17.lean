import Derived.Deep.DeepCutAuto
import Derived.WideKeyPair
import Derived.Test.YtebofaenlhhkaaaGreatY16
namespace Go.Proofs.YtebofaenlhhkaaaGreat
set_option maxRecDepth 100000
set_option maxHeartbeats 80000000
set_option linter.unusedSimpArgs false
section
open Go.RowKit Go.Shelf
def Cj(L:List An)(s:ByteArray):Int:=Gu L (fun r=>decide (r.name=s))
theorem On{w w':World}{v u:Value}{t:TypeId}(h:Below (w.alloc (.cells #[v,u] t)).heap.size (w.alloc (.cells #[v,u] t)) w'):w'.cell? ⟨w.heap.size,0,none⟩=some v∧w'.cell? ⟨w.heap.size,1,none⟩=some u:=
 ⟨(h.cell (p:=⟨w.heap.size,0,none⟩) (by simp)).trans (by simp),(h.cell (p:=⟨w.heap.size,1,none⟩) (by simp)).trans (by simp)⟩

theorem ALk{g:Nat}(bx:Nat)(s:ByteArray)(n₀:Nat)(w:World)(hbx:bx<n₀)(hc:w.cell? ⟨bx,0,none⟩=some (.string s))(hg:g=162):
  APj g #[.pointer (some ⟨bx,0,none⟩)] n₀ w (fun r=>decide (r.name=s)):=by
 subst hg;intro W r hB;have hc':=(ct hB hc hbx);have hc2:∀o,(W.alloc o).cell? ⟨bx,0,none⟩=some (.string s):=fun o=>((Below.refl W.heap.size W).alloc nr o |>.cell (p:=⟨bx,0,none⟩) (World.block_lt_of_cell? W _ hc')).trans hc';have H:=lh (Dj r.name s);show Calls _ _ #[AUm r,.pointer (some ⟨bx,0,none⟩)] _ _;unfold AUm
 go_enter Tryz.func162,Tryz.ntmps162
 go_wp2
 go_ret;exact⟨Ab H.out,(br).alloc nr _⟩

theorem Dc(ca:Option Addr)(L:List An)(cc:Nat)(v:Value)(s:ByteArray)(w:World)(hlen:L.length≤1100)(hI:Gs w.heap.size w ca L):
  Calls Tryz.prog 116 #[.agg #[.slice ca L.length cc,v],.string s] w fun e w'=>e=.returned (.int .i64 (Cj L s))∧Below w.heap.size w w':=by
 have HI:=lh hI;clear hI;have hb0:Below w.heap.size w ((w.alloc (.cells #[.slice ca L.length cc,v] 29)).alloc (.cells #[.string s] 9)):=((Aa w _)).alloc (by simp) _;have HB:=lh hb0;clear hb0
 go_enter Tryz.func116,Tryz.ntmps116
 go_wp2_with (go_at_call 65;(refine(Qf _ L _ _ _ _ (fun r=>decide (r.name=s)) _ (enters_of Tryz.func162 (by kernel_rfl) rfl) hlen nr (HI.out.grow HB.out) (ALk (w.heap.size+1) s _ _ (by simp) (by simp) rfl)).mono ?_);rintro e w4 ⟨rfl,hb4⟩)
 go_ret;exact⟨rfl,HB.out.trans (hb4.mono HB.out.size)⟩

theorem Pb(ca:Option Addr)(L:List An)(cc:Nat)(v:Value)(s:ByteArray)(w:World)(hlen:L.length≤1100)(hI:Gs w.heap.size w ca L):
  Calls Tryz.prog 134 #[.agg #[.slice ca L.length cc,v],.string s] w fun e w'=>e=.returned (.int .i64 (Cj L s))∧Below w.heap.size w w':=by
 have hb0:Below w.heap.size w (w.alloc (.cells #[.slice ca L.length cc,v] 29)):=Aa w _;have HI:=lh (hI.below hb0);clear hI;have HB:=lh hb0;clear hb0
 go_enter Tryz.func134,Tryz.ntmps134
 go_wp2
 go_loop [5] (fun i=>∃k:Nat,k≤L.length∧i=.int .i64 k∧Hid (∀j,j<k→decide ((cg L j).name=s)=false)) (fun i=>L.length-(intOf i).toNat)
 case atStart=>exact⟨0,nz,rfl,lh (fun _ h=>absurd h (Nat.not_lt_zero _))⟩
 case round=>
  obtain⟨k,hk,rfl,HA⟩:=hrel
  by_cases hlt:k<L.length
  ·obtain⟨b,off,rfl,hb,hc⟩:=HI.out (by omega)
   obtain⟨d0,_⟩:=hc k hlt;have H:=lh (Dj (cg L k).name s);have hs:=Dj (cg L k).name s;clear hc
   by_cases hx:(cg L k).name=s
   ·have H:=lh (Jk L (fun r=>decide (r.name=s)) k hlt (dT hx) HA.out)
    rw[dT hx]at hs;clear hx
    go_wp2
    go_ret;exact⟨Cu H.out.symm,HB.out⟩
   ·rw[dF hx]at hs
    have HB':Hid (∀j,j<k+1→decide ((cg L j).name=s)=false):=lh fun j hj=>by
     rcases Nat.lt_or_ge j k with l | l
     ·exact HA.out j l
     ·obtain rfl:j=k:=by omega
      exact dF hx
    clear hx
    go_wp2
    go_round
    case rel=>exact⟨k+1,by omega,by go_num,HB'⟩
    case measure=>simp[intOf];omega
  ·obtain rfl:k=L.length:=by omega
   have H:=lh (Iv L (fun r=>decide (r.name=s)) HA.out)
   go_wp2
   go_ret;exact⟨Cu H.out.symm,HB.out⟩

def Rr(n:Int):Bool:=decide (0≤n∧n≤2147483648)
theorem Gl(n:Int)(w:World):Calls Tryz.prog 114 #[.int .i64 n] w fun e w'=>e=.returned (.bool (Rr n))∧w=w':=by
 go_enter Tryz.func114,Tryz.ntmps114
 go_wp2
 all_goals (go_ret;exact⟨Ab (by rw[Bool.eq_iff_iff];simp[Rr];try omega),rfl⟩)
theorem ABa(n m:Int)(w:World):Calls Tryz.prog 172 #[.int .i64 n,.int .i64 m] w fun e w'=>e=.returned (.bool (decide (0≤n∧n≤m)))∧w=w':=by
 go_enter Tryz.func172,Tryz.ntmps172
 go_wp2
 all_goals (go_ret;exact⟨Ab (by rw[Bool.eq_iff_iff];simp;try omega),rfl⟩)
def Lm(L:List An)(k:Nat):Bool:=Ao (cg L k).name&&(Cj L (cg L k).name==k)&&Rr (cg L k).delay&&
 (if(cg L k).link=1 then decide ((cg L k).after=⟨#[]⟩)else if(cg L k).link=2∨(cg L k).link=3 then decide (0≤Cj L (cg L k).after)&&!(Cj L (cg L k).after==k)else false)
def Wz(L:List An):Nat→Bool
 | 0=>true
 | k+1=>Wz L k&&Lm L k
theorem Wv(L:List An)(k n:Nat)(hk:k<n)(h:Lm L k=false):Wz L n=false:=by
 induction n with
 | zero=>omega
 | succ n ih=>
  simp only[Wz];rcases Nat.lt_or_ge k n with l | l
  ·rw[ih l];rfl
  ·obtain rfl:k=n:=by omega
   rw[h,Bool.and_false]
theorem ARc(L:List An)(n:Nat)(h:Wz L n=true)(k:Nat)(hk:k<n):Lm L k=true:=by
 cases e:Lm L k
 ·rw[Wv L k n hk e]at h;cases h
 ·rfl
def Hr(L:List An)(x:ByteArray×ByteArray):Bool:=decide (x.1=x.2)||decide (Cj L x.1<0)||decide (Cj L x.2<0)
def Da(L:List An)(A:List (ByteArray×ByteArray)):Bool:=decide (L.length≤60)&&decide (A.length≤1000)&&Wz L L.length&&!Kw A (Hr L)
theorem Kh(s:ByteArray):s.toList=[]↔s=⟨#[]⟩:=by
 rw[ByteArray.toList_eq];obtain⟨⟨x⟩⟩:=s
 simp

theorem AEi(bx:Nat)(ca pa:Option Addr)(L:List An)(A:List (ByteArray×ByteArray))(cc pc n₀:Nat)(w:World)(hlen:L.length≤1100)(hn:n₀≤w.heap.size)(hbx:bx<n₀)(c0:w.cell? ⟨bx,0,none⟩=some (.slice ca L.length cc))(c1:w.cell? ⟨bx,1,none⟩=some (.slice pa A.length pc))(hI:Gs n₀ w ca L):
  AOo 160 #[.pointer (some ⟨bx,0,none⟩)] n₀ w (Hr L):=by
 intro W r hB;have d0:=(ct hB c0 hbx);have d1:=(ct hB c1 hbx);have hl:=World.block_lt_of_cell? W _ d0;have hb0:Below W.heap.size W (W.alloc (.cells #[.string r.1,.string r.2] 149)):=Aa W _;have e0:=(ct hb0 d0 hl);have e1:=(ct hb0 d1 hl);have hz:=hB.size;have HI:Hid (Gs W.heap.size (W.alloc (.cells #[.string r.1,.string r.2] 149)) ca L):=lh (((hI.below hB).mono (by omega)).below hb0);have HB0:=lh hb0;have hs:=Dj r.1 r.2;obtain⟨f1,hf1⟩:=nm (Cj L r.1);obtain⟨f2,hf2⟩:=nm (Cj L r.2);have H1:=lh hf1;have H2:=lh hf2;have HP:Hid (Hr L r=(decide (r.1=r.2)||decide (f1<0)||decide (f2<0))):=lh (by unfold Hr;rw[hf1,hf2]);clear hf1 hf2 hb0 hI c0 c1 d0 d1 hB;show Calls _ _ #[ANq r,.pointer (some ⟨bx,0,none⟩)] _ _;unfold ANq
 by_cases q0:r.1=r.2
 ·have HE:Hid (Hr L r=true):=lh (by rw[HP.out,dT q0];rfl)
  rw[dT q0]at hs;clear q0
  go_enter Tryz.func160,Tryz.ntmps160
  go_wp2_with fail
  go_ret;exact⟨Ab HE.out.symm,HB0.out⟩
 ·rw[dF q0]at hs
  by_cases q1:f1<0
  ·have HE:Hid (Hr L r=true):=lh (by rw[HP.out,dT q1,Bool.or_true];rfl)
   clear q0
   go_enter Tryz.func160,Tryz.ntmps160
   go_wp2_with (go_at_call 116;go_fit (Dc _ L _ _ r.1 _ hlen (HI.out.mono (Aa W _).size));rintro e w1 ⟨rfl,hb1⟩;rw[H1.out])
   go_ret;exact⟨Ab HE.out.symm,HB0.out.trans (hb1.mono HB0.out.size)⟩
  ·have HE:Hid (Hr L r=decide (f2<0)):=lh (by rw[HP.out,dF q0,dF q1];rfl)
   clear q0
   go_enter Tryz.func160,Tryz.ntmps160
   go_wp2_with (first
    | (go_at_call 116;go_fit (Dc _ L _ _ r.2 _ hlen ((HI.out.mono (Aa W _).size).grow hb1));rintro e w2 ⟨rfl,hb2⟩;rw[H2.out])
    | (go_at_call 116;go_fit (Dc _ L _ _ r.1 _ hlen (HI.out.mono (Aa W _).size));rintro e w1 ⟨rfl,hb1⟩;rw[H1.out];have g0:=(ct hb1 e0 (wl e0));have g1:=(ct hb1 e1 (wl e1));have x1:=(hb1.cell (p:=⟨W.heap.size,1,none⟩) (by simp)).trans (show _=some (.string r.2)by simp)))
   all_goals
    go_ret;exact⟨Ab (by rw[HE.out];first | rfl | (rw[show decide (f1<0)=false from dF (by omega)];rfl)),HB0.out.trans ((hb1.mono HB0.out.size).trans (hb2.mono (by have:=HB0.out.size;have:=hb1.size;omega)))⟩

theorem Xx(ca pa:Option Addr)(L:List An)(A:List (ByteArray×ByteArray))(cc pc:Nat)(w:World)(hlen:L.length≤1100)(hI:Gs w.heap.size w ca L)(hP:Hp w.heap.size w pa A):
  Calls Tryz.prog 112 #[.agg #[.slice ca L.length cc,.slice pa A.length pc]] w fun e w'=>e=.returned (.bool (Da L A))∧Below w.heap.size w w':=by
 have hb0:Below w.heap.size w (w.alloc (.cells #[.slice ca L.length cc,.slice pa A.length pc] 29)):=Aa w _;have HI:=lh (hI.grow hb0);have HP:=lh (hP.grow hb0);have HB0:=lh hb0;clear hb0 hI hP
 by_cases s1:(60:Int)<L.length
 ·have HNO:Hid (Da L A=false):=lh (by unfold Da;rw[dF (show ¬L.length≤60 by omega)];rfl)
  have g:=dT s1
  go_enter Tryz.func112,Tryz.ntmps112
  go_wp2_with fail
  go_ret;exact⟨Ab HNO.out.symm,HB0.out⟩
 ·by_cases s2:(1000:Int)<A.length
  ·have HNO:Hid (Da L A=false):=lh (by unfold Da;rw[dF (show ¬A.length≤1000 by omega),Bool.and_false];rfl)
   have g:=dT s2
   go_enter Tryz.func112,Tryz.ntmps112
   go_wp2_with fail
   go_ret;exact⟨Ab HNO.out.symm,HB0.out⟩
  ·have HL:Hid (Da L A=(Wz L L.length&&!Kw A (Hr L))):=lh (by unfold Da;rw[dT (show L.length≤60 by omega),dT (show A.length≤1000 by omega)];rfl)
   go_enter Tryz.func112,Tryz.ntmps112
   go_wp2_with fail
   go_loopw [19] (fun i wr=>∃k:Nat,k≤L.length∧i=.int .i64 k∧Below (w.alloc (.cells #[.slice ca L.length cc,.slice pa A.length pc] 29)).heap.size (w.alloc (.cells #[.slice ca L.length cc,.slice pa A.length pc] 29)) wr∧Hid (Wz L k=true)) (fun i _=>L.length-(intOf i).toNat)
   case atStart=>exact⟨0,nz,rfl,br,lh rfl⟩
   case round=>
    obtain⟨k,hk,rfl,hB,HO⟩:=hrel;obtain⟨z0,z1⟩:=On hB;have hbz:w.heap.size<wr.heap.size:=wl z0;have HIR:=lh (HI.out.grow hB)
    by_cases hlt:k<L.length
    ·obtain⟨b,off,rfl,hbl,hc⟩:=HIR.out (by omega)
     obtain⟨d0,d1,d2,d3,d4,d5,d6⟩:=hc k hlt;have hBa:Below wr.heap.size wr (wr.alloc (.cells #[.string (cg L k).name,.string (cg L k).after,.int .i64 (cg L k).link,.int .i64 (cg L k).delay,.slice (cg L k).ma (cg L k).moves.length (cg L k).mc,.int .i64 (cg L k).crew,.int .i64 (cg L k).power] 86)):=Aa wr _;have HBA:=lh hBa;have HNOF:Hid (Lm L k=false→Hid (Da L A=false)):=lh fun h=>lh (by rw[HL.out,Wv L k _ hlt h];rfl);have HYES:Hid (Lm L k=true→Hid (Wz L (k+1)=true)):=lh fun h=>lh (by unfold Wz;rw[HO.out,h];rfl);clear hc hBa
     cases hnm:Ao (cg L k).name
     ·have HNM:=lh hnm
      have HNO:Hid (Da L A=false):=HNOF.out (by unfold Lm;rw[hnm];rfl);clear hnm
      go_wp2_with (first
       | (go_at_call 143;go_fit (Ah _ _);rintro e w' ⟨rfl,rfl⟩;rw[HNM.out]))
      go_ret;exact⟨Ab HNO.out.symm,Dh _ (hB.trans (HBA.out.mono hB.size))⟩
     ·have HNM:=lh hnm
      by_cases g1:Cj L (cg L k).name=k
      ·have HF1:=lh g1
       cases htm:Rr (cg L k).delay
       ·have HTM:=lh htm
        have HNO:Hid (Da L A=false):=HNOF.out (by unfold Lm;rw[htm,Bool.and_false];rfl);clear htm hnm g1
        go_wp2_with (first
         | (go_at_call 143;go_fit (Ah _ _);rintro e w' ⟨rfl,rfl⟩;rw[HNM.out])
         | (go_at_call 116;go_fit (Dc _ L _ _ (cg L k).name _ hlen (HIR.out.grow HBA.out));rintro e w1 ⟨rfl,hb1⟩;rw[HF1.out];have hB1:=HBA.out.trans (hb1.mono HBA.out.size);have x1:=(hb1.cell (p:=⟨wr.heap.size,1,none⟩) (by simp)).trans (show _=some (.string (cg L k).after)by simp);have x2:=(hb1.cell (p:=⟨wr.heap.size,2,none⟩) (by simp)).trans (show _=some (.int .i64 (cg L k).link)by simp);have x3:=(hb1.cell (p:=⟨wr.heap.size,3,none⟩) (by simp)).trans (show _=some (.int .i64 (cg L k).delay)by simp);obtain⟨y0,y1⟩:=On (hB.trans (hB1.mono hB.size)))
         | (go_at_call 114;go_fit (Gl _ _);rintro e w' ⟨rfl,rfl⟩;rw[HTM.out]))
        go_ret;exact⟨Ab HNO.out.symm,Dh _ (hB.trans (hB1.mono hB.size))⟩
       ·have HTM:=lh htm
        have HC:Hid (Lm L k=(if(cg L k).link=1 then decide ((cg L k).after=⟨#[]⟩)else if(cg L k).link=2∨(cg L k).link=3 then decide (0≤Cj L (cg L k).after)&&!(Cj L (cg L k).after==k)else false)):=lh (by unfold Lm;rw[hnm,htm,g1,beq_self_eq_true];rfl);clear htm hnm g1
        by_cases l1:(cg L k).link=1
        ·have m1:((cg L k).link==1)=true:=beq_iff_eq.2 l1
         by_cases hs:(cg L k).after.toList=[]
         ·have HOK:=HYES.out (by rw[HC.out,if_pos l1];exact dT ((Kh _).1 hs))
          have hs2:(!(cg L k).after.toList.isEmpty)=false:=by rw[hs];rfl
          clear l1 hs
          go_wp2_with (first
           | (go_at_call 143;go_fit (Ah _ _);rintro e w' ⟨rfl,rfl⟩;rw[HNM.out])
           | (go_at_call 116;go_fit (Dc _ L _ _ (cg L k).name _ hlen (HIR.out.grow HBA.out));rintro e w1 ⟨rfl,hb1⟩;rw[HF1.out];have hB1:=HBA.out.trans (hb1.mono HBA.out.size);have x1:=(hb1.cell (p:=⟨wr.heap.size,1,none⟩) (by simp)).trans (show _=some (.string (cg L k).after)by simp);have x2:=(hb1.cell (p:=⟨wr.heap.size,2,none⟩) (by simp)).trans (show _=some (.int .i64 (cg L k).link)by simp);have x3:=(hb1.cell (p:=⟨wr.heap.size,3,none⟩) (by simp)).trans (show _=some (.int .i64 (cg L k).delay)by simp);obtain⟨y0,y1⟩:=On (hB.trans (hB1.mono hB.size)))
           | (go_at_call 114;go_fit (Gl _ _);rintro e w' ⟨rfl,rfl⟩;rw[HTM.out]))
          go_roundw
          case rel=>exact⟨k+1,by omega,by go_num,hB.trans (hB1.mono hB.size),HOK⟩
          case measure=>simp[intOf];omega
         ·have HNO:=HNOF.out (by rw[HC.out,if_pos l1];exact dF (fun e=>hs ((Kh _).2 e)))
          have hs2:(!(cg L k).after.toList.isEmpty)=true:=by simpa using hs
          clear l1 hs
          go_wp2_with (first
           | (go_at_call 143;go_fit (Ah _ _);rintro e w' ⟨rfl,rfl⟩;rw[HNM.out])
           | (go_at_call 116;go_fit (Dc _ L _ _ (cg L k).name _ hlen (HIR.out.grow HBA.out));rintro e w1 ⟨rfl,hb1⟩;rw[HF1.out];have hB1:=HBA.out.trans (hb1.mono HBA.out.size);have x1:=(hb1.cell (p:=⟨wr.heap.size,1,none⟩) (by simp)).trans (show _=some (.string (cg L k).after)by simp);have x2:=(hb1.cell (p:=⟨wr.heap.size,2,none⟩) (by simp)).trans (show _=some (.int .i64 (cg L k).link)by simp);have x3:=(hb1.cell (p:=⟨wr.heap.size,3,none⟩) (by simp)).trans (show _=some (.int .i64 (cg L k).delay)by simp);obtain⟨y0,y1⟩:=On (hB.trans (hB1.mono hB.size)))
           | (go_at_call 114;go_fit (Gl _ _);rintro e w' ⟨rfl,rfl⟩;rw[HTM.out]))
          go_ret;exact⟨Ab HNO.out.symm,Dh _ (hB.trans (hB1.mono hB.size))⟩
        ·have m1:((cg L k).link==1)=false:=beq_eq_false_iff_ne.2 l1
         obtain⟨fa,hfa⟩:=nm (Cj L (cg L k).after);have HF2:=lh hfa;have HC2:=lh HC.out;rw[if_neg l1,hfa]at HC2;clear hfa
         by_cases l2:(cg L k).link=2
         ·have m2:((cg L k).link==2)=true:=beq_iff_eq.2 l2
          have HC3:=lh HC2.out;rw[if_pos (.inl l2)]at HC3;clear l1 l2
          by_cases f0:fa<0
          ·have HNO:=HNOF.out (by rw[HC3.out,show decide (0≤fa)=false from dF (by omega)];rfl)
           go_wp2_with (first
            | (go_at_call 143;go_fit (Ah _ _);rintro e w' ⟨rfl,rfl⟩;rw[HNM.out])
            | (go_at_call 116;go_fit (Dc _ L _ _ (cg L k).after _ hlen (HIR.out.grow hB1));rintro e w2 ⟨rfl,hb2⟩;rw[HF2.out];have hB2:=hB1.trans (hb2.mono hB1.size))
            | (go_at_call 116;go_fit (Dc _ L _ _ (cg L k).name _ hlen (HIR.out.grow HBA.out));rintro e w1 ⟨rfl,hb1⟩;rw[HF1.out];have hB1:=HBA.out.trans (hb1.mono HBA.out.size);have x1:=(hb1.cell (p:=⟨wr.heap.size,1,none⟩) (by simp)).trans (show _=some (.string (cg L k).after)by simp);have x2:=(hb1.cell (p:=⟨wr.heap.size,2,none⟩) (by simp)).trans (show _=some (.int .i64 (cg L k).link)by simp);have x3:=(hb1.cell (p:=⟨wr.heap.size,3,none⟩) (by simp)).trans (show _=some (.int .i64 (cg L k).delay)by simp);obtain⟨y0,y1⟩:=On (hB.trans (hB1.mono hB.size)))
            | (go_at_call 114;go_fit (Gl _ _);rintro e w' ⟨rfl,rfl⟩;rw[HTM.out]))
           go_ret;exact⟨Ab HNO.out.symm,Dh _ (hB.trans (hB2.mono hB.size))⟩
          ·by_cases fk:fa=k
           ·have HNO:=HNOF.out (by rw[HC3.out,show(fa==(k:Int))=true from beq_iff_eq.2 fk,Bool.not_true,Bool.and_false])
            have m4:(fa==(k:Int))=true:=beq_iff_eq.2 fk;clear fk
            go_wp2_with (first
             | (go_at_call 143;go_fit (Ah _ _);rintro e w' ⟨rfl,rfl⟩;rw[HNM.out])
             | (go_at_call 116;go_fit (Dc _ L _ _ (cg L k).after _ hlen (HIR.out.grow hB1));rintro e w2 ⟨rfl,hb2⟩;rw[HF2.out];have hB2:=hB1.trans (hb2.mono hB1.size))
             | (go_at_call 116;go_fit (Dc _ L _ _ (cg L k).name _ hlen (HIR.out.grow HBA.out));rintro e w1 ⟨rfl,hb1⟩;rw[HF1.out];have hB1:=HBA.out.trans (hb1.mono HBA.out.size);have x1:=(hb1.cell (p:=⟨wr.heap.size,1,none⟩) (by simp)).trans (show _=some (.string (cg L k).after)by simp);have x2:=(hb1.cell (p:=⟨wr.heap.size,2,none⟩) (by simp)).trans (show _=some (.int .i64 (cg L k).link)by simp);have x3:=(hb1.cell (p:=⟨wr.heap.size,3,none⟩) (by simp)).trans (show _=some (.int .i64 (cg L k).delay)by simp);obtain⟨y0,y1⟩:=On (hB.trans (hB1.mono hB.size)))
             | (go_at_call 114;go_fit (Gl _ _);rintro e w' ⟨rfl,rfl⟩;rw[HTM.out]))
            go_ret;exact⟨Ab HNO.out.symm,Dh _ (hB.trans (hB2.mono hB.size))⟩
           ·have m4:(fa==(k:Int))=false:=beq_eq_false_iff_ne.2 fk
            have HOK:=HYES.out (by rw[HC3.out,m4,show decide (0≤fa)=true from dT (by omega)];rfl);clear fk
            go_wp2_with (first
             | (go_at_call 143;go_fit (Ah _ _);rintro e w' ⟨rfl,rfl⟩;rw[HNM.out])
             | (go_at_call 116;go_fit (Dc _ L _ _ (cg L k).after _ hlen (HIR.out.grow hB1));rintro e w2 ⟨rfl,hb2⟩;rw[HF2.out];have hB2:=hB1.trans (hb2.mono hB1.size))
             | (go_at_call 116;go_fit (Dc _ L _ _ (cg L k).name _ hlen (HIR.out.grow HBA.out));rintro e w1 ⟨rfl,hb1⟩;rw[HF1.out];have hB1:=HBA.out.trans (hb1.mono HBA.out.size);have x1:=(hb1.cell (p:=⟨wr.heap.size,1,none⟩) (by simp)).trans (show _=some (.string (cg L k).after)by simp);have x2:=(hb1.cell (p:=⟨wr.heap.size,2,none⟩) (by simp)).trans (show _=some (.int .i64 (cg L k).link)by simp);have x3:=(hb1.cell (p:=⟨wr.heap.size,3,none⟩) (by simp)).trans (show _=some (.int .i64 (cg L k).delay)by simp);obtain⟨y0,y1⟩:=On (hB.trans (hB1.mono hB.size)))
             | (go_at_call 114;go_fit (Gl _ _);rintro e w' ⟨rfl,rfl⟩;rw[HTM.out]))
            go_roundw
            case rel=>exact⟨k+1,by omega,by go_num,hB.trans (hB2.mono hB.size),HOK⟩
            case measure=>simp[intOf];omega
         ·have m2:((cg L k).link==2)=false:=beq_eq_false_iff_ne.2 l2
          by_cases l3:(cg L k).link=3
          ·have m3:((cg L k).link==3)=true:=beq_iff_eq.2 l3
           have HC3:=lh HC2.out;rw[if_pos (.inr l3)]at HC3;clear l1 l2 l3
           by_cases f0:fa<0
           ·have HNO:=HNOF.out (by rw[HC3.out,show decide (0≤fa)=false from dF (by omega)];rfl)
            go_wp2_with (first
             | (go_at_call 143;go_fit (Ah _ _);rintro e w' ⟨rfl,rfl⟩;rw[HNM.out])
             | (go_at_call 116;go_fit (Dc _ L _ _ (cg L k).after _ hlen (HIR.out.grow hB1));rintro e w2 ⟨rfl,hb2⟩;rw[HF2.out];have hB2:=hB1.trans (hb2.mono hB1.size))
             | (go_at_call 116;go_fit (Dc _ L _ _ (cg L k).name _ hlen (HIR.out.grow HBA.out));rintro e w1 ⟨rfl,hb1⟩;rw[HF1.out];have hB1:=HBA.out.trans (hb1.mono HBA.out.size);have x1:=(hb1.cell (p:=⟨wr.heap.size,1,none⟩) (by simp)).trans (show _=some (.string (cg L k).after)by simp);have x2:=(hb1.cell (p:=⟨wr.heap.size,2,none⟩) (by simp)).trans (show _=some (.int .i64 (cg L k).link)by simp);have x3:=(hb1.cell (p:=⟨wr.heap.size,3,none⟩) (by simp)).trans (show _=some (.int .i64 (cg L k).delay)by simp);obtain⟨y0,y1⟩:=On (hB.trans (hB1.mono hB.size)))
             | (go_at_call 114;go_fit (Gl _ _);rintro e w' ⟨rfl,rfl⟩;rw[HTM.out]))
            go_ret;exact⟨Ab HNO.out.symm,Dh _ (hB.trans (hB2.mono hB.size))⟩
           ·by_cases fk:fa=k
            ·have HNO:=HNOF.out (by rw[HC3.out,show(fa==(k:Int))=true from beq_iff_eq.2 fk,Bool.not_true,Bool.and_false])
             have m4:(fa==(k:Int))=true:=beq_iff_eq.2 fk;clear fk
             go_wp2_with (first
              | (go_at_call 143;go_fit (Ah _ _);rintro e w' ⟨rfl,rfl⟩;rw[HNM.out])
              | (go_at_call 116;go_fit (Dc _ L _ _ (cg L k).after _ hlen (HIR.out.grow hB1));rintro e w2 ⟨rfl,hb2⟩;rw[HF2.out];have hB2:=hB1.trans (hb2.mono hB1.size))
              | (go_at_call 116;go_fit (Dc _ L _ _ (cg L k).name _ hlen (HIR.out.grow HBA.out));rintro e w1 ⟨rfl,hb1⟩;rw[HF1.out];have hB1:=HBA.out.trans (hb1.mono HBA.out.size);have x1:=(hb1.cell (p:=⟨wr.heap.size,1,none⟩) (by simp)).trans (show _=some (.string (cg L k).after)by simp);have x2:=(hb1.cell (p:=⟨wr.heap.size,2,none⟩) (by simp)).trans (show _=some (.int .i64 (cg L k).link)by simp);have x3:=(hb1.cell (p:=⟨wr.heap.size,3,none⟩) (by simp)).trans (show _=some (.int .i64 (cg L k).delay)by simp);obtain⟨y0,y1⟩:=On (hB.trans (hB1.mono hB.size)))
              | (go_at_call 114;go_fit (Gl _ _);rintro e w' ⟨rfl,rfl⟩;rw[HTM.out]))
             go_ret;exact⟨Ab HNO.out.symm,Dh _ (hB.trans (hB2.mono hB.size))⟩
            ·have m4:(fa==(k:Int))=false:=beq_eq_false_iff_ne.2 fk
             have HOK:=HYES.out (by rw[HC3.out,m4,show decide (0≤fa)=true from dT (by omega)];rfl);clear fk
             go_wp2_with (first
              | (go_at_call 143;go_fit (Ah _ _);rintro e w' ⟨rfl,rfl⟩;rw[HNM.out])
              | (go_at_call 116;go_fit (Dc _ L _ _ (cg L k).after _ hlen (HIR.out.grow hB1));rintro e w2 ⟨rfl,hb2⟩;rw[HF2.out];have hB2:=hB1.trans (hb2.mono hB1.size))
              | (go_at_call 116;go_fit (Dc _ L _ _ (cg L k).name _ hlen (HIR.out.grow HBA.out));rintro e w1 ⟨rfl,hb1⟩;rw[HF1.out];have hB1:=HBA.out.trans (hb1.mono HBA.out.size);have x1:=(hb1.cell (p:=⟨wr.heap.size,1,none⟩) (by simp)).trans (show _=some (.string (cg L k).after)by simp);have x2:=(hb1.cell (p:=⟨wr.heap.size,2,none⟩) (by simp)).trans (show _=some (.int .i64 (cg L k).link)by simp);have x3:=(hb1.cell (p:=⟨wr.heap.size,3,none⟩) (by simp)).trans (show _=some (.int .i64 (cg L k).delay)by simp);obtain⟨y0,y1⟩:=On (hB.trans (hB1.mono hB.size)))
              | (go_at_call 114;go_fit (Gl _ _);rintro e w' ⟨rfl,rfl⟩;rw[HTM.out]))
             go_roundw
             case rel=>exact⟨k+1,by omega,by go_num,hB.trans (hB2.mono hB.size),HOK⟩
             case measure=>simp[intOf];omega
          ·have m3:((cg L k).link==3)=false:=beq_eq_false_iff_ne.2 l3
           have HNO:=HNOF.out (by rw[HC2.out,if_neg (by omega)]);clear l1 l2 l3
           go_wp2_with (first
            | (go_at_call 143;go_fit (Ah _ _);rintro e w' ⟨rfl,rfl⟩;rw[HNM.out])
            | (go_at_call 116;go_fit (Dc _ L _ _ (cg L k).name _ hlen (HIR.out.grow HBA.out));rintro e w1 ⟨rfl,hb1⟩;rw[HF1.out];have hB1:=HBA.out.trans (hb1.mono HBA.out.size);have x1:=(hb1.cell (p:=⟨wr.heap.size,1,none⟩) (by simp)).trans (show _=some (.string (cg L k).after)by simp);have x2:=(hb1.cell (p:=⟨wr.heap.size,2,none⟩) (by simp)).trans (show _=some (.int .i64 (cg L k).link)by simp);have x3:=(hb1.cell (p:=⟨wr.heap.size,3,none⟩) (by simp)).trans (show _=some (.int .i64 (cg L k).delay)by simp);obtain⟨y0,y1⟩:=On (hB.trans (hB1.mono hB.size)))
            | (go_at_call 114;go_fit (Gl _ _);rintro e w' ⟨rfl,rfl⟩;rw[HTM.out]))
           go_ret;exact⟨Ab HNO.out.symm,Dh _ (hB.trans (hB1.mono hB.size))⟩
      ·obtain⟨fi,hfi⟩:=nm (Cj L (cg L k).name)
       have HF1:=lh hfi;have HNO:Hid (Da L A=false):=HNOF.out (by unfold Lm;rw[beq_eq_false_iff_ne.2 g1,Bool.and_false];rfl);rw[hfi]at g1;have m0:(fi !=(k:Int))=true:=bne_iff_ne.2 g1;clear hfi hnm g1
       go_wp2_with (first
        | (go_at_call 143;go_fit (Ah _ _);rintro e w' ⟨rfl,rfl⟩;rw[HNM.out])
        | (go_at_call 116;go_fit (Dc _ L _ _ (cg L k).name _ hlen (HIR.out.grow HBA.out));rintro e w1 ⟨rfl,hb1⟩;rw[HF1.out];have hB1:=HBA.out.trans (hb1.mono HBA.out.size);have x1:=(hb1.cell (p:=⟨wr.heap.size,1,none⟩) (by simp)).trans (show _=some (.string (cg L k).after)by simp);have x2:=(hb1.cell (p:=⟨wr.heap.size,2,none⟩) (by simp)).trans (show _=some (.int .i64 (cg L k).link)by simp);have x3:=(hb1.cell (p:=⟨wr.heap.size,3,none⟩) (by simp)).trans (show _=some (.int .i64 (cg L k).delay)by simp);obtain⟨y0,y1⟩:=On (hB.trans (hB1.mono hB.size))))
       go_ret;exact⟨Ab HNO.out.symm,Dh _ (hB.trans (hB1.mono hB.size))⟩
    ·obtain rfl:k=L.length:=by omega
     have HLL:Hid (Da L A=!Kw A (Hr L)):=lh (by rw[HL.out,HO.out];rfl);have hlA:A.length≤1100:=by omega
     go_wp2_with (go_at_call 159;(refine(Rm _ A _ _ _ _ (Hr L) _ (enters_of Tryz.func160 (by kernel_rfl) rfl) hlA nr (HP.out.grow hB) (AEi w.heap.size ca pa L A cc pc _ _ hlen nr (wl z0) z0 z1 HIR.out)).mono ?_);rintro e w4 ⟨rfl,hb4⟩)
     go_ret;exact⟨Ab HLL.out.symm,Dh _ (hB.trans (hb4.mono hB.size))⟩
end
section
open Go.RowKit
def AAn(h:Ae)(m:Mv):Ds:=hg h.sets (Cv h.sets m.name).toNat
def Hf(h:Ae)(M:List Mv)(i:Nat):Prop:=Ct (mg M i)=true∧0≤Cv h.sets (mg M i).name∧(AAn h (mg M i)).low≤(mg M i).to∧(mg M i).to≤(AAn h (mg M i)).high∧∀j,j<i→(mg M j).name≠(mg M i).name
structure Rd(q:An):Prop where
 name:Ao q.name=true
 link:q.link=1∨q.link=2∨q.link=3
 delay:0≤q.delay∧q.delay≤2147483648
 crew:0≤q.crew∧q.crew≤100
 power:0≤q.power∧q.power≤100
def Nk(h:Ae)(q:An):Prop:=Rd q∧∀i,i<q.moves.length→Hf h q.moves i
noncomputable def Ix(h:Ae)(q:An):Bool:=@decide (Nk h q) (Classical.propDecidable _)
theorem Ef{h:Ae}{q:An}:Ix h q=true↔Nk h q:=by exact @decide_eq_true_iff (Nk h q) (Classical.propDecidable _)
theorem Fy{h:Ae}{q:An}(n:¬Nk h q):Ix h q=false:=by
 cases e:Ix h q
 ·rfl
 ·exact absurd (Ef.1 e) n
def Dx(C:List An):List Mv:=C.flatMap (·.moves)
theorem Rp(C:List An){k:Nat}(h:k<C.length):Dx (C.take (k+1))=Dx (C.take k)++(cg C k).moves:=by
 unfold Dx;rw[List.take_succ_eq_append_getElem h,List.flatMap_append,ATc C k h]
 simp
theorem Sq(C:List An)(k:Nat):(Dx (C.take k)).length≤(Dx C).length:=by
 conv=>rhs;rw[←List.take_append_drop k C]
 unfold Dx;rw[List.flatMap_append,List.length_append];omega
def Jj(C:List An)(k:Nat):Prop:=((cg C k).link=1→(cg C k).after=⟨#[]⟩)∧((cg C k).link≠1→0≤Cj C (cg C k).after∧Cj C (cg C k).after<(k:Int))
def Jh(h:Ae)(C:List An)(k:Nat):Prop:=Nk h (cg C k)∧Cj C (cg C k).name=(k:Int)∧Jj C k
def Ft(x y:ByteArray×ByteArray):Prop:=x=y∨(x.1=y.2∧x.2=y.1)
def Fx(C:List An)(A:List (ByteArray×ByteArray))(i:Nat):Prop:=(pg A i).1≠(pg A i).2∧0≤Cj C (pg A i).1∧0≤Cj C (pg A i).2∧∀k,k<i→¬Ft (pg A k) (pg A i)
def Si(C:List An)(A:List (ByteArray×ByteArray)):Prop:=A.length≤1000∧∀i,i<A.length→Fx C A i
noncomputable def Ph(C:List An)(A:List (ByteArray×ByteArray)):Bool:=@decide (Si C A) (Classical.propDecidable _)
theorem Nc{C:List An}{A:List (ByteArray×ByteArray)}:Ph C A=true↔Si C A:=by exact @decide_eq_true_iff (Si C A) (Classical.propDecidable _)
theorem ACy{C:List An}{A:List (ByteArray×ByteArray)}(n:¬Si C A):Ph C A=false:=by
 cases e:Ph C A
 ·rfl
 ·exact absurd (Nc.1 e) n
structure Hv(h:Ae)(s:Aq):Prop where
 house:Dz h=true
 cues:s.cues.length≤60
 moves:(Dx s.cues).length≤100
 each:∀k,k<s.cues.length→Jh h s.cues k
 pairs:Si s.cues s.pairs
noncomputable def Fd(h:Ae)(s:Aq):Bool:=@decide (Hv h s) (Classical.propDecidable _)
theorem Em{h:Ae}{s:Aq}:Fd h s=true↔Hv h s:=by exact @decide_eq_true_iff (Hv h s) (Classical.propDecidable _)
theorem ADq{h:Ae}{s:Aq}(n:¬Hv h s):Fd h s=false:=by
 cases e:Fd h s
 ·rfl
 ·exact absurd (Em.1 e) n
theorem AIe{L:List An}:∀n,(∀k,k<n→Lm L k=true)→Wz L n=true
 | 0,_=>rfl
 | n+1,h=>by
  unfold Wz;rw[AIe n fun k hk=>h k (by omega),h n (by omega)]
  rfl
theorem ABf{h:Ae}{s:Aq}(ok:Hv h s):Da s.cues s.pairs=true:=by
 unfold Da;rw[dT ok.cues,dT ok.pairs.1,AIe _ fun k hk=>?_,show Kw s.pairs (Hr s.cues)=false from ?_]
 ·rfl
 ·rw[ABx,List.any_eq_false]
  intro x hx;obtain⟨i,hi,rfl⟩:=List.getElem_of_mem hx;obtain⟨a,b,c,_⟩:=ok.pairs.2 i hi;rw[Yy _ i hi]at a b c;unfold Hr;simp only[Bool.or_eq_true,decide_eq_true_eq,not_or];exact⟨⟨a,by omega⟩,by omega⟩
 ·obtain⟨⟨hd,_⟩,hf,h1,h2⟩:=ok.each k hk
  unfold Lm Rr;rw[hd.name,hf,dT hd.delay];have e:((k:Int)==(k:Int))=true:=beq_self_eq_true _;rw[e]
  by_cases l:(cg s.cues k).link=1
  ·rw[if_pos l,dT (h1 l)];rfl
  ·rw[if_neg l,if_pos (by have:=hd.link;omega)]
   have:=h2 l;rw[dT this.1,show(Cj s.cues (cg s.cues k).after==(k:Int))=false from beq_eq_false_iff_ne.2 (by omega)]
   rfl
/-! ### Trims -/
def Ee(h:Ae):List Int:=h.sets.map (·.high)
def Dq(h:Ae)(t:List Int)(M:List Mv):List Int:=M.foldl (fun t m=>t.set (Cv h.sets m.name).toNat m.to) t
theorem Jc(h:Ae):∀(M:List Mv) (t:List Int),(Dq h t M).length=t.length
 | [],_=>rfl
 | m::M,t=>by
  show(Dq h (t.set _ m.to) M).length=_;rw[Jc h M,List.length_set]
theorem Oe(h:Ae)(t:List Int)(M:List Mv){k:Nat}(hk:k<M.length):Dq h t (M.take (k+1))=(Dq h t (M.take k)).set (Cv h.sets (mg M k).name).toNat (mg M k).to:=by
 unfold Dq;rw[List.take_succ_eq_append_getElem hk,List.foldl_append,Yt M k hk]
 rfl
def Ez(h:Ae)(C:List An):Nat→List Int
 | 0=>Ee h
 | k+1=>Dq h (Ez h C k) (cg C k).moves
theorem Me(h:Ae)(C:List An):∀k,(Ez h C k).length=h.sets.length
 | 0=>by unfold Ez Ee;rw[List.length_map]
 | k+1=>by unfold Ez;rw[Jc,Me h C k]
theorem Yb(h:Ae){k:Nat}(hk:k<h.sets.length):(h.sets.take (k+1)).map (·.high)=(h.sets.take k).map (·.high)++[(hg h.sets k).high]:=by
 rw[List.take_succ_eq_append_getElem hk,List.map_append,AMz h.sets k hk]
 rfl
def Ka(h:Ae)(t:List Int):Prop:=t.length=h.sets.length∧∀i,i<t.length→(hg h.sets i).low≤ig t i∧ig t i≤(hg h.sets i).high
theorem Qb{h:Ae}(hb:Dz h=true){i:Nat}(hi:i<h.sets.length):ASn (hg h.sets i)∧(hg h.sets i).high≤h.height:=by
 obtain⟨a,b,_⟩:=(Hw.1 hb).2.2.2.2.2 i hi;exact⟨ADe.1 a,b⟩
theorem APm{h:Ae}(hb:Dz h=true):Ka h (Ee h):=by
 have hl:(Ee h).length=h.sets.length:=by unfold Ee;rw[List.length_map]
 refine⟨hl,fun i hi=>?_⟩;have hi':i<h.sets.length:=by omega
 have e:ig (Ee h) i=(hg h.sets i).high:=by
  unfold ig Ee;rw[List.getElem?_map,AUn hi']
  rfl
 have:=(Qb hb hi').1.low;rw[e];omega
theorem Jb{h:Ae}{s:ByteArray}(h0:0≤Cv h.sets s):(Cv h.sets s).toNat<h.sets.length∧(hg h.sets (Cv h.sets s).toNat).name=s:=by
 unfold Cv at *;rcases Jz h.sets (fun y=>decide (y.name=s))with ⟨e,_⟩ | ⟨i,hi,e,hn,_⟩
 ·omega
 ·rw[e]at h0⊢
  exact⟨by simpa using hi,by simpa using hn⟩
theorem ADj{h:Ae}{M:List Mv}(hM:∀i,i<M.length→Hf h M i){t:List Int}(ht:Ka h t):∀k,k≤M.length→Ka h (Dq h t (M.take k))
 | 0,_=>by rw[List.take_zero];exact ht
 | k+1,hk=>by
  have ih:=ADj hM ht k (by omega);have hm:=hM k (by omega);rw[Oe h t M (by omega)];refine⟨by rw[List.length_set];exact ih.1,fun i hi=>?_⟩;rw[List.length_set]at hi
  have e:ig ((Dq h t (M.take k)).set (Cv h.sets (mg M k).name).toNat (mg M k).to) i=if(Cv h.sets (mg M k).name).toNat=i then(mg M k).to else ig (Dq h t (M.take k)) i:=by
   unfold ig;rw[List.getElem?_set]
   by_cases q:(Cv h.sets (mg M k).name).toNat=i
   ·rw[if_pos q,if_pos q,if_pos (by omega)];rfl
   ·rw[if_neg q,if_neg q]
  rw[e]
  by_cases q:(Cv h.sets (mg M k).name).toNat=i
  ·rw[if_pos q]
   subst q;exact⟨hm.2.2.1,hm.2.2.2.1⟩
  ·rw[if_neg q]
   exact ih.2 i hi
theorem Ro{h:Ae}{C:List An}(hb:Dz h=true)(hC:∀k,k<C.length→Nk h (cg C k)):∀k,k≤C.length→Ka h (Ez h C k)
 | 0,_=>APm hb
 | k+1,hk=>by
  have:=ADj (hC k (by omega)).2 (Ro hb hC k (by omega)) (cg C k).moves.length nr;rw[List.take_length]at this;exact this
end
section
open Go.RowKit Go.Shelf
attribute [local go_sem] Oper.semAt_some
theorem Bu(n lo hi:Int)(w:World):
  Calls Tryz.prog 147 #[.int .i64 n,.int .i64 lo,.int .i64 hi] w fun e w'=>e=.returned (.bool (Ai n lo hi))∧w=w':=by
 go_enter Tryz.func147,Tryz.ntmps147
 go_wp2_with fail
 all_goals (go_ret;exact⟨Ab (by rw[Bool.eq_iff_iff,Am];simp;try omega),rfl⟩)
theorem AOt(args:Array Value)(w:World):(callFunc 152 args).run Tryz.prog w=.ok (.enter 152 args) w:=enters_of Tryz.func152 (by kernel_rfl) rfl args w
theorem ALy(args:Array Value)(w:World):(callFunc 151 args).run Tryz.prog w=.ok (.enter 151 args) w:=enters_of Tryz.func151 (by kernel_rfl) rfl args w
theorem AFm(args:Array Value)(w:World):(callFunc 150 args).run Tryz.prog w=.ok (.enter 150 args) w:=enters_of Tryz.func150 (by kernel_rfl) rfl args w
theorem AKp{w:World}{b:Nat}{s:ByteArray}(h:w.cell? ⟨b,0,none⟩=some (.string s)):Vl 152 #[.pointer (some ⟨b,0,none⟩)] w.heap.size w (fun y=>decide (y.name=s)):=by
 intro W y hb;have hlt:=wl h;have h':=(ct hb h hlt);have hlt':b<W.heap.size:=wl h';show Calls _ _ #[.agg #[.string y.name,.int .i64 y.depth,.int .i64 y.low,.int .i64 y.high,.int .i64 y.length,.slice y.la y.lines.length y.lc,.int .i64 y.pipe,.int .i64 y.arbor,.int .i64 y.purchase,.int .i64 y.most,.int .i64 y.brake,.slice y.ia y.items.length y.ic,.slice y.ba y.bricks.length y.bc],.pointer (some ⟨b,0,none⟩)] _ _;clear h hb hlt
 go_enter Tryz.func152,Tryz.ntmps152
 go_wp2_with fail
 go_ret;exact⟨Ab (Dj _ _),Aa _ _⟩
theorem AFq{w:World}{b:Nat}{s:ByteArray}(h:w.cell? ⟨b,0,none⟩=some (.string s)):APj 151 #[.pointer (some ⟨b,0,none⟩)] w.heap.size w (fun y=>decide (y.name=s)):=by
 intro W q hb;have hlt:=wl h;have h':=(ct hb h hlt);have hlt':b<W.heap.size:=wl h';show Calls _ _ #[.agg #[.string q.name,.string q.after,.int .i64 q.link,.int .i64 q.delay,.slice q.ma q.moves.length q.mc,.int .i64 q.crew,.int .i64 q.power],.pointer (some ⟨b,0,none⟩)] _ _;clear h hb hlt
 go_enter Tryz.func151,Tryz.ntmps151
 go_wp2_with fail
 go_ret;exact⟨Ab (Dj _ _),Aa _ _⟩
theorem AEu{w:World}{b:Nat}{s:ByteArray}(h:w.cell? ⟨b,0,none⟩=some (.string s)):Vp 150 #[.pointer (some ⟨b,0,none⟩)] w.heap.size w (fun y=>decide (y.name=s)):=by
 intro W x hb;have hlt:=wl h;have h':=(ct hb h hlt);have hlt':b<W.heap.size:=wl h';show Calls _ _ #[.agg #[.string x.name,.int .i64 x.to,.int .i64 x.spd,.int .i64 x.rise,.int .i64 x.fall],.pointer (some ⟨b,0,none⟩)] _ _;clear h hb hlt
 go_enter Tryz.func150,Tryz.ntmps150
 go_wp2_with fail
 go_ret;exact⟨Ab (Dj _ _),Aa _ _⟩
theorem Xs(h:Ae)(s:ByteArray)(w:World)(hh:HouseIn0 w h)(hl:h.sets.length≤1000):
  Calls Tryz.prog 98 #[.agg #[.string h.name,.int .i64 h.height,.slice h.sa h.sets.length h.sc,.slice h.ra h.roofs.length h.rc],.string s] w fun e w'=>e=.returned (.int .i64 (Cv h.sets s))∧Below w.heap.size w w':=by
 have hB:=(Aa w (Ex h)).alloc (by simp) (.cells #[.string s] 9);have hs0:((w.alloc (Ex h)).alloc (.cells #[.string s] 9)).cell? ⟨w.heap.size+1,0,none⟩=some (.string s):=by simp
 have HI:=lh (Ly h.sa h.sets h.sc _ _ _ (fun y=>decide (y.name=s)) _ AOt (by omega) nr (hh.sets.grow hB) (AKp hs0));have HBB:=lh hB;clear hs0 hB hh
 go_enter Tryz.func98,Tryz.ntmps98
 go_wp2_with (go_at_call 45;go_fit HI.out;rintro e w1 ⟨rfl,hb1⟩)
 go_ret;exact⟨rfl,HBB.out.trans (hb1.mono HBB.out.size)⟩
theorem Hz(a:Option Addr)(L:List An)(cap:Nat)(s:ByteArray)(w:World)(hL:Gs w.heap.size w a L)(hl:L.length≤1000):
  Calls Tryz.prog 96 #[.slice a L.length cap,.string s] w fun e w'=>e=.returned (.int .i64 (Cj L s))∧Below w.heap.size w w':=by
 have hB:=Aa w (.cells #[.string s] 9);have hs0:(w.alloc (.cells #[.string s] 9)).cell? ⟨w.heap.size,0,none⟩=some (.string s):=by simp
 have HI:=lh (Qf a L cap _ _ _ (fun y=>decide (y.name=s)) _ ALy (by omega) nr (hL.grow hB) (AFq hs0));have HBB:=lh hB;clear hs0 hB hL
 go_enter Tryz.func96,Tryz.ntmps96
 go_wp2_with (go_at_call 65;go_fit HI.out;rintro e w1 ⟨rfl,hb1⟩)
 go_ret;exact⟨rfl,HBB.out.trans (hb1.mono HBB.out.size)⟩
def Cx(w:World)(b:Nat)(q:An):Prop:=w.cell? ⟨b,0,none⟩=some (.string q.name)∧w.cell? ⟨b,1,none⟩=some (.string q.after)∧w.cell? ⟨b,2,none⟩=some (.int .i64 q.link)∧w.cell? ⟨b,3,none⟩=some (.int .i64 q.delay)∧w.cell? ⟨b,4,none⟩=some (.slice q.ma q.moves.length q.mc)∧w.cell? ⟨b,5,none⟩=some (.int .i64 q.crew)∧w.cell? ⟨b,6,none⟩=some (.int .i64 q.power)
theorem Cx.carry{w w':World}{b:Nat}{q:An}(x:Cx w b q)(hb:Below w.heap.size w w'):Cx w' b q:=by
 have hlt:b<w.heap.size:=wl x.1;obtain⟨a0,a1,a2,a3,a4,a5,a6⟩:=x;exact⟨ct hb a0 hlt,ct hb a1 hlt,ct hb a2 hlt,ct hb a3 hlt,ct hb a4 hlt,ct hb a5 hlt,ct hb a6 hlt⟩
theorem Cx.new(w:World)(q:An)(t:TypeId)(n:Nat)(hn:w.heap.size=n):Cx (w.alloc (.cells #[.string q.name,.string q.after,.int .i64 q.link,.int .i64 q.delay,.slice q.ma q.moves.length q.mc,.int .i64 q.crew,.int .i64 q.power] t)) n q:=by
 subst hn;unfold Cx
 simp
end
section
section
variable {P:Program} {ops:Array Oper} {Q:Exit→Act→World→Prop} {md:Region.Mode} {S:World→Prop}
theorem tk(i:Nat){oi:Oper}{v:Value}{fuel:Nat}{listed:Array Bool}{a a':Act}{w:World}(h:wpAnyH P md ops Q S fuel (listed.setIfInBounds i true) a' w)
  (hi:ops[i]? =some oi:=by first | (simp only[List.getElem?_toArray,List.getElem?_cons_zero];rfl) | (simp only[List.getElem?_toArray,List.getElem?_cons_succ,List.getElem?_cons_zero];rfl))
  (hs:Region.noSelect ops=true:=by kernel_rfl) (hf:Region.free md ops listed i=true:=by kernel_rfl) (hr:(Region.ready md ops listed).contains i=true:=by kernel_rfl)
  (hQ:∀c a w,Q (.panic c) (a.put oi.dst v) w→Q (.panic c) a w:=by exact fun _ _ _ h=>h)
  (hy:YieldsIf P ops S oi v a:=by refine Or.inl ⟨by rfl,?_⟩;(intro w hSw;(try dsimp only at hSw);go_split_ands;(try simp only[List.getElem_toArray,List.getElem_cons_succ,List.getElem_cons_zero]);go_simp;try with_reducible rfl))
  (ha:a.put oi.dst v=a':=by simp only[Act.put,List.setIfInBounds_toArray,List.set_cons_zero,List.set_cons_succ,List.getElem_toArray,List.getElem_cons_succ,List.getElem_cons_zero];rfl)
  (hS:S w:=by assumption):wpAnyH P md ops Q S (fuel+1) listed a w:=wpAnyH_take hi hs hf hr hQ hy hS (ha▸h)
theorem sk(i:Nat){oi:Oper}{fuel:Nat}{listed:Array Bool}{a a':Act}{w:World}(h:wpAnyH P md ops Q S fuel (listed.setIfInBounds i true) a' w)
  (hi:ops[i]? =some oi:=by first | (simp only[List.getElem?_toArray,List.getElem?_cons_zero];rfl) | (simp only[List.getElem?_toArray,List.getElem?_cons_succ,List.getElem?_cons_zero];rfl))
  (hs:Region.noSelect ops=true:=by kernel_rfl) (hf:Region.free md ops listed i=true:=by kernel_rfl) (hr:(Region.ready md ops listed).contains i=true:=by kernel_rfl)
  (hQ:∀c a w,Q (.panic c) (a.put oi.dst undef) w→Q (.panic c) a w:=by exact fun _ _ _ h=>h)
  (hy:YieldsIf P ops S oi undef a:=by exact Or.inr ⟨by rfl,rfl⟩)
  (ha:a.put oi.dst undef=a':=by simp only[Act.put,List.setIfInBounds_toArray,List.set_cons_zero,List.set_cons_succ,List.getElem_toArray,List.getElem_cons_succ,List.getElem_cons_zero];rfl)
  (hS:S w:=by assumption):wpAnyH P md ops Q S (fuel+1) listed a w:=wpAnyH_take hi hs hf hr hQ hy hS (ha▸h)
end
end
section
open Go.RowKit Go.Shelf
attribute [local go_sem] Oper.semAt_some
noncomputable def Xu(q:An):Bool:=@decide (Rd q) (Classical.propDecidable _)
theorem Pn{q:An}:Xu q=true↔Rd q:=by exact @decide_eq_true_iff (Rd q) (Classical.propDecidable _)
theorem ARa{q:An}(n:¬Rd q):Xu q=false:=by
 cases e:Xu q
 ·rfl
 ·exact absurd (Pn.1 e) n
noncomputable def Yd(h:Ae)(M:List Mv)(i:Nat):Bool:=@decide (Hf h M i) (Classical.propDecidable _)
theorem Pm{h:Ae}{M:List Mv}{i:Nat}:Yd h M i=true↔Hf h M i:=by exact @decide_eq_true_iff (Hf h M i) (Classical.propDecidable _)
theorem ARy{h:Ae}{M:List Mv}{i:Nat}(n:¬Hf h M i):Yd h M i=false:=by
 cases e:Yd h M i
 ·rfl
 ·exact absurd (Pm.1 e) n
theorem ABe(S:List Ds)(s:ByteArray):Cv S s=-1∨∃k:Nat,k<S.length∧Cv S s=k:=by
 unfold Cv;rcases Jz S (fun y=>decide (y.name=s))with ⟨e,_⟩ | ⟨i,hi,e,_⟩
 ·exact .inl e
 ·exact .inr ⟨i,hi,e⟩
theorem Zw(M:List Mv)(k:Nat)(s:ByteArray):Pk (M.take k) (fun y=>decide (y.name=s))=false↔∀j,j<k→j<M.length→(mg M j).name≠s:=by
 rw[AHs,List.any_eq_false]
 constructor
 ·intro h j hj hl e
  have hm:mg M j∈M.take k:=List.mem_take_iff_getElem.2 ⟨j,by omega,(Yt M j hl).symm⟩;exact h _ hm (dT e)
 ·intro h x hx
  obtain⟨j,hj,e⟩:=List.mem_take_iff_getElem.1 hx;have:=h j (by omega) (by omega);rw[Yt M j (by omega),e]at this
  simpa using this
theorem Ps(h:Ae)(q:An)(w:World)(hh:HouseIn0 w h)(hl:h.sets.length≤1000)(hm:Ei w.heap.size w q.ma q.moves)(hml:q.moves.length≤1000)(hmc:q.moves.length≤q.mc):
  Calls Tryz.prog 95 #[.agg #[.string h.name,.int .i64 h.height,.slice h.sa h.sets.length h.sc,.slice h.ra h.roofs.length h.rc],.agg #[.string q.name,.string q.after,.int .i64 q.link,.int .i64 q.delay,.slice q.ma q.moves.length q.mc,.int .i64 q.crew,.int .i64 q.power]] w fun e w'=>e=.returned (.bool (Ix h q))∧Below w.heap.size w w':=by
 have hb0:Below w.heap.size w ((w.alloc (Ex h)).alloc (Eu q)):=(Aa w _).alloc (by simp) _
 have HX:Hid (∀w',Below ((w.alloc (Ex h)).alloc (Eu q)).heap.size ((w.alloc (Ex h)).alloc (Eu q)) w'→Au w' w.heap.size h∧Cx w' (w.heap.size+1) q∧HouseIn0 w' h∧Ei w'.heap.size w' q.ma q.moves):=lh fun w' z=>
  ⟨((Au.new w h _).carry (Aa _ _)).carry z,(Cx.new (w.alloc _) q _ _ (by simp)).carry z,(hh.grow hb0).grow z,(hm.grow hb0).grow z⟩
 have HW:Hid (∀w',Below ((w.alloc (Ex h)).alloc (Eu q)).heap.size ((w.alloc (Ex h)).alloc (Eu q)) w'→Below w.heap.size w w'):=lh fun w' z=>hb0.trans (z.mono hb0.size);have HRN:Hid (Xu q=false→Ix h q=false):=lh fun e=>Fy fun z=>by rw[Pn.2 z.1]at e;cases e
 clear hh hb0 hm
 go_enter Tryz.func95,Tryz.ntmps95
 go_upto_region 1 with (fail)
 obtain⟨W0,hW0⟩:=nm ((w.alloc (Ex h)).alloc (Eu q):World);simp only[hW0]at HX HW⊢;clear hW0;obtain⟨B1,hB1⟩:=nm (w.heap.size);obtain⟨B2,hB2⟩:=nm (w.heap.size+1);rw[hB2]at HX⊢;rw[hB1]at HX⊢;clear hB1 hB2;obtain⟨-,⟨c0,c1,c2,c3,c4,c5,c6⟩,-,-⟩:=HX.out _ br;obtain⟨qa,hqa⟩:=nm (q.ma);have HQA:=lh hqa;rw[hqa]at HX c4⊢;clear hqa
 go_cut [44] (fun v wx=>v=.bool (!Xu q)∧W0=wx)
 case first=>
  have HNO:=lh fun (n:¬Rd q)=>ARa n
  cases h1:Ao q.name
  case false=>
   have H1:=lh h1;have HZ:=lh (HNO.out fun z=>by have:=z.name;rw[H1.out]at this;cases this);clear h1
   go_wp2_with (go_at_call 143;go_fit (Ah q.name _);rintro e w1 ⟨rfl,rfl⟩;rw[H1.out])
   go_meet
   exact⟨by rw[HZ.out];rfl,rfl⟩
  have H1:=lh h1;clear h1
  by_cases hlk:q.link=1∨q.link=2∨q.link=3
  case neg=>
   have HZ:=lh (HNO.out fun z=>hlk z.link);have l1:(q.link !=1)=true:=bne_iff_ne.2 (by omega);have l2:(q.link !=2)=true:=bne_iff_ne.2 (by omega);have l3:(q.link !=3)=true:=bne_iff_ne.2 (by omega);clear hlk
   go_wp2_with (go_at_call 143;go_fit (Ah q.name _);rintro e w1 ⟨rfl,rfl⟩;rw[H1.out])
   go_meet
   exact⟨by rw[HZ.out];rfl,rfl⟩
  have HLK:=lh hlk
  cases h2:Ai q.delay 0 2147483648
  case false=>
   have H2:=lh h2;have HZ:=lh (HNO.out fun z=>by have:=Am.2 z.delay;rw[H2.out]at this;cases this);clear h2;rcases hlk with hl1 | hl1 | hl1
   ·have l1:(q.link !=1)=false:=by rw[hl1];rfl
    clear hl1
    go_wp2_with (first
     | (go_at_call 143;go_fit (Ah q.name _);rintro e w1 ⟨rfl,rfl⟩;rw[H1.out])
     | (go_at_call 147;go_fit (Bu q.delay 0 2147483648 _);rintro e w1 ⟨rfl,rfl⟩;rw[H2.out]))
    go_meet
    exact⟨by rw[HZ.out];rfl,rfl⟩
   ·have l1:(q.link !=1)=true:=by rw[hl1];rfl
    have l2:(q.link !=2)=false:=by rw[hl1];rfl
    clear hl1
    go_wp2_with (first
     | (go_at_call 143;go_fit (Ah q.name _);rintro e w1 ⟨rfl,rfl⟩;rw[H1.out])
     | (go_at_call 147;go_fit (Bu q.delay 0 2147483648 _);rintro e w1 ⟨rfl,rfl⟩;rw[H2.out]))
    go_meet
    exact⟨by rw[HZ.out];rfl,rfl⟩
   ·have l1:(q.link !=1)=true:=by rw[hl1];rfl
    have l2:(q.link !=2)=true:=by rw[hl1];rfl
    have l3:(q.link !=3)=false:=by rw[hl1];rfl
    clear hl1
    go_wp2_with (first
     | (go_at_call 143;go_fit (Ah q.name _);rintro e w1 ⟨rfl,rfl⟩;rw[H1.out])
     | (go_at_call 147;go_fit (Bu q.delay 0 2147483648 _);rintro e w1 ⟨rfl,rfl⟩;rw[H2.out]))
    go_meet
    exact⟨by rw[HZ.out];rfl,rfl⟩
  have H2:=lh h2;clear h2
  cases h3:Ai q.crew 0 100
  case false=>
   have H3:=lh h3;have HZ:=lh (HNO.out fun z=>by have:=Am.2 z.crew;rw[H3.out]at this;cases this);clear h3;rcases hlk with hl1 | hl1 | hl1
   ·have l1:(q.link !=1)=false:=by rw[hl1];rfl
    clear hl1
    go_wp2_with (first
     | (go_at_call 143;go_fit (Ah q.name _);rintro e w1 ⟨rfl,rfl⟩;rw[H1.out])
     | (go_at_call 147;go_fit (Bu q.delay 0 2147483648 _);rintro e w1 ⟨rfl,rfl⟩;rw[H2.out])
     | (go_at_call 147;go_fit (Bu q.crew 0 100 _);rintro e w1 ⟨rfl,rfl⟩;rw[H3.out]))
    go_meet
    exact⟨by rw[HZ.out];rfl,rfl⟩
   ·have l1:(q.link !=1)=true:=by rw[hl1];rfl
    have l2:(q.link !=2)=false:=by rw[hl1];rfl
    clear hl1
    go_wp2_with (first
     | (go_at_call 143;go_fit (Ah q.name _);rintro e w1 ⟨rfl,rfl⟩;rw[H1.out])
     | (go_at_call 147;go_fit (Bu q.delay 0 2147483648 _);rintro e w1 ⟨rfl,rfl⟩;rw[H2.out])
     | (go_at_call 147;go_fit (Bu q.crew 0 100 _);rintro e w1 ⟨rfl,rfl⟩;rw[H3.out]))
    go_meet
    exact⟨by rw[HZ.out];rfl,rfl⟩
   ·have l1:(q.link !=1)=true:=by rw[hl1];rfl
    have l2:(q.link !=2)=true:=by rw[hl1];rfl
    have l3:(q.link !=3)=false:=by rw[hl1];rfl
    clear hl1
    go_wp2_with (first
     | (go_at_call 143;go_fit (Ah q.name _);rintro e w1 ⟨rfl,rfl⟩;rw[H1.out])
     | (go_at_call 147;go_fit (Bu q.delay 0 2147483648 _);rintro e w1 ⟨rfl,rfl⟩;rw[H2.out])
     | (go_at_call 147;go_fit (Bu q.crew 0 100 _);rintro e w1 ⟨rfl,rfl⟩;rw[H3.out]))
    go_meet
    exact⟨by rw[HZ.out];rfl,rfl⟩
  have H3:=lh h3;clear h3
  cases h4:Ai q.power 0 100
  case false=>
   have H4:=lh h4;have HZ:=lh (HNO.out fun z=>by have:=Am.2 z.power;rw[H4.out]at this;cases this);clear h4;rcases hlk with hl1 | hl1 | hl1
   ·have l1:(q.link !=1)=false:=by rw[hl1];rfl
    clear hl1
    go_wp2_with (first
     | (go_at_call 143;go_fit (Ah q.name _);rintro e w1 ⟨rfl,rfl⟩;rw[H1.out])
     | (go_at_call 147;go_fit (Bu q.delay 0 2147483648 _);rintro e w1 ⟨rfl,rfl⟩;rw[H2.out])
     | (go_at_call 147;go_fit (Bu q.crew 0 100 _);rintro e w1 ⟨rfl,rfl⟩;rw[H3.out])
     | (go_at_call 147;go_fit (Bu q.power 0 100 _);rintro e w1 ⟨rfl,rfl⟩;rw[H4.out]))
    go_meet
    exact⟨by rw[HZ.out];rfl,rfl⟩
   ·have l1:(q.link !=1)=true:=by rw[hl1];rfl
    have l2:(q.link !=2)=false:=by rw[hl1];rfl
    clear hl1
    go_wp2_with (first
     | (go_at_call 143;go_fit (Ah q.name _);rintro e w1 ⟨rfl,rfl⟩;rw[H1.out])
     | (go_at_call 147;go_fit (Bu q.delay 0 2147483648 _);rintro e w1 ⟨rfl,rfl⟩;rw[H2.out])
     | (go_at_call 147;go_fit (Bu q.crew 0 100 _);rintro e w1 ⟨rfl,rfl⟩;rw[H3.out])
     | (go_at_call 147;go_fit (Bu q.power 0 100 _);rintro e w1 ⟨rfl,rfl⟩;rw[H4.out]))
    go_meet
    exact⟨by rw[HZ.out];rfl,rfl⟩
   ·have l1:(q.link !=1)=true:=by rw[hl1];rfl
    have l2:(q.link !=2)=true:=by rw[hl1];rfl
    have l3:(q.link !=3)=false:=by rw[hl1];rfl
    clear hl1
    go_wp2_with (first
     | (go_at_call 143;go_fit (Ah q.name _);rintro e w1 ⟨rfl,rfl⟩;rw[H1.out])
     | (go_at_call 147;go_fit (Bu q.delay 0 2147483648 _);rintro e w1 ⟨rfl,rfl⟩;rw[H2.out])
     | (go_at_call 147;go_fit (Bu q.crew 0 100 _);rintro e w1 ⟨rfl,rfl⟩;rw[H3.out])
     | (go_at_call 147;go_fit (Bu q.power 0 100 _);rintro e w1 ⟨rfl,rfl⟩;rw[H4.out]))
    go_meet
    exact⟨by rw[HZ.out];rfl,rfl⟩
  have H4:=lh h4;have HZ:Hid (Xu q=true):=lh (Pn.2 ⟨H1.out,HLK.out,Am.1 H2.out,Am.1 H3.out,Am.1 H4.out⟩);clear h4;rcases hlk with hl1 | hl1 | hl1
  ·have l1:(q.link !=1)=false:=by rw[hl1];rfl
   clear hl1
   go_wp2_with (first
    | (go_at_call 143;go_fit (Ah q.name _);rintro e w1 ⟨rfl,rfl⟩;rw[H1.out])
    | (go_at_call 147;go_fit (Bu q.delay 0 2147483648 _);rintro e w1 ⟨rfl,rfl⟩;rw[H2.out])
    | (go_at_call 147;go_fit (Bu q.crew 0 100 _);rintro e w1 ⟨rfl,rfl⟩;rw[H3.out])
    | (go_at_call 147;go_fit (Bu q.power 0 100 _);rintro e w1 ⟨rfl,rfl⟩;rw[H4.out]))
   go_meet
   exact⟨by rw[HZ.out];rfl,rfl⟩
  ·have l1:(q.link !=1)=true:=by rw[hl1];rfl
   have l2:(q.link !=2)=false:=by rw[hl1];rfl
   clear hl1
   go_wp2_with (first
    | (go_at_call 143;go_fit (Ah q.name _);rintro e w1 ⟨rfl,rfl⟩;rw[H1.out])
    | (go_at_call 147;go_fit (Bu q.delay 0 2147483648 _);rintro e w1 ⟨rfl,rfl⟩;rw[H2.out])
    | (go_at_call 147;go_fit (Bu q.crew 0 100 _);rintro e w1 ⟨rfl,rfl⟩;rw[H3.out])
    | (go_at_call 147;go_fit (Bu q.power 0 100 _);rintro e w1 ⟨rfl,rfl⟩;rw[H4.out]))
   go_meet
   exact⟨by rw[HZ.out];rfl,rfl⟩
  ·have l1:(q.link !=1)=true:=by rw[hl1];rfl
   have l2:(q.link !=2)=true:=by rw[hl1];rfl
   have l3:(q.link !=3)=false:=by rw[hl1];rfl
   clear hl1
   go_wp2_with (first
    | (go_at_call 143;go_fit (Ah q.name _);rintro e w1 ⟨rfl,rfl⟩;rw[H1.out])
    | (go_at_call 147;go_fit (Bu q.delay 0 2147483648 _);rintro e w1 ⟨rfl,rfl⟩;rw[H2.out])
    | (go_at_call 147;go_fit (Bu q.crew 0 100 _);rintro e w1 ⟨rfl,rfl⟩;rw[H3.out])
    | (go_at_call 147;go_fit (Bu q.power 0 100 _);rintro e w1 ⟨rfl,rfl⟩;rw[H4.out]))
   go_meet
   exact⟨by rw[HZ.out];rfl,rfl⟩
 case rest=>
 obtain⟨rfl,rfl⟩:=hcut
 cases hhd:Xu q
 ·have HZ:=lh (HRN.out hhd)
  clear hhd
  go_wp2_with fail
  go_ret;exact⟨Ab HZ.out.symm,HW.out _ br⟩
 have HHD:=lh (Pn.1 hhd);clear hhd
 go_upto_region 4 with (fail)
 clear c0 c1 c2 c3 c4 c5 c6
 go_loopw [48,5,6,7] (fun iv _ _ _ wr=>∃k:Nat,iv=.int .i64 k∧k≤q.moves.length∧Hid (∀j,j<k→Hf h q.moves j)∧Below W0.heap.size W0 wr) (fun iv _ _ _ _=>q.moves.length-(intOf iv).toNat)
 case atStart=>exact⟨0,rfl,nz,lh (fun _ z=>absurd z (Nat.not_lt_zero _)),br⟩
 case round=>
  obtain⟨k,rfl,hk,HA,hB⟩:=hrel;obtain⟨⟨a0,a1,a2,a3⟩,-,-,hmv⟩:=HX.out _ hB;have hb1w:B1<wr.heap.size:=wl a0
  by_cases hlt:k<q.moves.length
  ·obtain⟨mb,mo,hma,hmb,hmx⟩:=hmv (by omega)
   subst hma;obtain⟨d0,d1,d2,d3,d4⟩:=hmx k hlt;have HRNO:Hid (Yd h q.moves k=false→Ix h q=false):=lh fun e=>Fy fun z=>by rw[Pm.2 (z.2 k hlt)]at e;cases e
   have HNOT:=lh fun (n:¬Hf h q.moves k)=>ARy n;obtain⟨x,hx⟩:=nm (mg q.moves k);have HXK:=lh hx;rw[hx]at d0 d1 d2 d3 d4;clear hx hmx hmv;obtain⟨f,hf⟩:=nm (Cv h.sets x.name);have HF:=lh hf;have hfr:=ABe h.sets x.name;rw[hf]at hfr;have HFR:=lh hfr;have HBX:=lh (hB.alloc hB.size (.cells #[.string x.name,.int .i64 x.to,.int .i64 x.spd,.int .i64 x.rise,.int .i64 x.fall] 94));have HAX:Hid (Jx (wr.alloc (.cells #[.string x.name,.int .i64 x.to,.int .i64 x.spd,.int .i64 x.rise,.int .i64 x.fall] 94)) wr.heap.size x):=lh (Jx.new wr x _);clear hf hfr
   go_upto_region 7 with (go_at_call 98;go_fit (Xs h x.name _ (HX.out _ HBX.out).2.2.1 hl);rintro e W2 ⟨rfl,hb2⟩;rw[HF.out])
   have hq2:=HBX.out.trans (hb2.mono HBX.out.size);have HAX2:=lh (HAX.out.carry hb2);obtain⟨B4,hB4⟩:=nm (wr.heap.size);rw[hB4]at HAX2⊢;clear hB4 d0 d1 d2 d3 d4 a0 a1 a2 a3 hb2 hb1w hB HBX HAX
   have HY:Hid (∀w',Below W2.heap.size W2 w'→Au w' B1 h∧Cx w' B2 q∧HouseIn0 w' h∧Ei w'.heap.size w' (some ⟨mb,mo,none⟩) q.moves∧Jx w' B4 x):=lh fun w' z=>by
    obtain⟨a,b,c,d⟩:=HX.out w' (hq2.trans (z.mono hq2.size));exact⟨a,b,c,d,HAX2.out.carry z⟩
   have HQ2:=lh hq2
   go_cut [89] (fun v wx=>v=.bool (!Yd h q.moves k)∧Below W2.heap.size W2 wx)
   case first=>
    have x0:∀w',Below W2.heap.size W2 w'→w'.cell? ⟨B1,0,none⟩=some (.string h.name):=fun w' z=>(HY.out w' z).1.1;have x1:∀w',Below W2.heap.size W2 w'→w'.cell? ⟨B1,1,none⟩=some (.int .i64 h.height):=fun w' z=>(HY.out w' z).1.2.1;have x2:∀w',Below W2.heap.size W2 w'→w'.cell? ⟨B1,2,none⟩=some (.slice h.sa h.sets.length h.sc):=fun w' z=>(HY.out w' z).1.2.2.1;have y4:∀w',Below W2.heap.size W2 w'→w'.cell? ⟨B2,4,none⟩=some (.slice (some ⟨mb,mo,none⟩) q.moves.length q.mc):=fun w' z=>by rw[←HQA.out];exact(HY.out w' z).2.1.2.2.2.2.1
    have z0:∀w',Below W2.heap.size W2 w'→w'.cell? ⟨B4,0,none⟩=some (.string x.name):=fun w' z=>(HY.out w' z).2.2.2.2.1;have z1:∀w',Below W2.heap.size W2 w'→w'.cell? ⟨B4,1,none⟩=some (.int .i64 x.to):=fun w' z=>(HY.out w' z).2.2.2.2.2.1;have z2:∀w',Below W2.heap.size W2 w'→w'.cell? ⟨B4,2,none⟩=some (.int .i64 x.spd):=fun w' z=>(HY.out w' z).2.2.2.2.2.2.1;have z3:∀w',Below W2.heap.size W2 w'→w'.cell? ⟨B4,3,none⟩=some (.int .i64 x.rise):=fun w' z=>(HY.out w' z).2.2.2.2.2.2.2.1;have z4:∀w',Below W2.heap.size W2 w'→w'.cell? ⟨B4,4,none⟩=some (.int .i64 x.fall):=fun w' z=>(HY.out w' z).2.2.2.2.2.2.2.2;have HLT:=lh hlt;clear hlt hk hq2
    cases hv:Ct x
    case false=>
     have HV:=lh hv;have HMB:=lh (HNOT.out fun z=>by have:=z.1;rw[HXK.out,HV.out]at this;cases this);clear hv;refine wp_region_held_drew (S:=(fun w'=>Below W2.heap.size W2 w')) (by kernel_rfl) ((br).drew) (fun hHeld=>?_);refine tk 0 ?_;refine r1 1 (fun K hK=>?_)
     try simp only[Ba,Bc,Az]
     go_simp
     (go_at_call 148;go_split_ands;go_fit (Gr x _);rintro e w5 ⟨rfl,hb5⟩;rw[HV.out])
     go_wp2_with fail
     refine hK.out _ _ (hHeld.trans (hb5.mono hHeld.size)) (fun hHeld=>?_);clear hK K
     try simp only[Act.put,Co,Cp,Cn,Ba,Bc,Az]
     refine tk 2 ?_;refine tk 3 ?_;refine sk 4 ?_;refine sk 5 ?_;refine tk 6 ?_;refine tk 7 ?_;refine sk 8 ?_;refine sk 9 ?_;refine sk 10 ?_;refine sk 11 ?_;refine sk 12 ?_;refine sk 13 ?_;refine sk 14 ?_;refine sk 15 ?_;refine sk 16 ?_;refine sk 17 ?_;refine sk 18 ?_;refine sk 19 ?_;refine sk 20 ?_;refine sk 21 ?_;refine sk 22 ?_;refine sk 23 ?_;refine tk 24 ?_;refine tk 25 ?_;refine sk 26 ?_;refine sk 27 ?_;refine sk 28 ?_;refine sk 29 ?_;refine sk 30 ?_;refine sk 31 ?_;refine tk 32 ?_;refine wpAnyH_done (by kernel_rfl) ?_ _
     go_wp2_with fail
     go_meet
     exact⟨by rw[HMB.out];rfl,hHeld⟩
    have HV:=lh hv;clear hv
    by_cases hneg:f<0
    ·have HMB:=lh (HNOT.out fun z=>by have:=z.2.1;rw[HXK.out,HF.out]at this;omega)
     have g1:decide (f<0)=true:=dT hneg;clear hneg;refine wp_region_held_drew (S:=(fun w'=>Below W2.heap.size W2 w')) (by kernel_rfl) ((br).drew) (fun hHeld=>?_);refine tk 0 ?_;refine r1 1 (fun K hK=>?_)
     try simp only[Ba,Bc,Az]
     go_simp
     (go_at_call 148;go_split_ands;go_fit (Gr x _);rintro e w5 ⟨rfl,hb5⟩;rw[HV.out])
     go_wp2_with fail
     refine hK.out _ _ (hHeld.trans (hb5.mono hHeld.size)) (fun hHeld=>?_);clear hK K
     try simp only[Act.put,Co,Cp,Cn,Ba,Bc,Az]
     refine tk 2 ?_;refine tk 3 ?_;refine tk 4 ?_;refine tk 5 ?_;refine tk 6 ?_;refine tk 7 ?_;refine sk 8 ?_;refine sk 9 ?_;refine sk 10 ?_;refine sk 11 ?_;refine sk 12 ?_;refine sk 13 ?_;refine sk 14 ?_;refine sk 15 ?_;refine sk 16 ?_;refine sk 17 ?_;refine sk 18 ?_;refine sk 19 ?_;refine sk 20 ?_;refine sk 21 ?_;refine sk 22 ?_;refine sk 23 ?_;refine tk 24 ?_;refine tk 25 ?_;refine sk 26 ?_;refine sk 27 ?_;refine sk 28 ?_;refine sk 29 ?_;refine sk 30 ?_;refine sk 31 ?_;refine tk 32 ?_;refine wpAnyH_done (by kernel_rfl) ?_ _
     go_wp2_with fail
     go_meet
     exact⟨by rw[HMB.out];rfl,hHeld⟩
    have g1:decide (f<0)=false:=dF hneg
    have hj:f.toNat<h.sets.length:=by
     rcases HFR.out with e | ⟨j,hj,e⟩
     ·omega
     ·omega
    have j0:0≤f:=by omega
    have j1:f<(h.sets.length:Int):=by omega
    have HSETX:Hid (AAn h x=hg h.sets f.toNat):=lh (by unfold AAn;rw[HF.out]);obtain⟨sb,so,hsa,hsb,-⟩:=(HY.out _ br).2.2.1.sets (by omega);have HSA:=lh hsa
    have s2:∀w',Below W2.heap.size W2 w'→w'.cell? ⟨sb,so+f.toNat*13+2,none⟩=some (.int .i64 (hg h.sets f.toNat).low):=fun w' z=>by
     obtain⟨b',o',e,-,hc⟩:=(HY.out w' z).2.2.1.sets (by omega);rw[HSA.out]at e
     cases e
     exact(hc _ hj).2.2.1
    have s3:∀w',Below W2.heap.size W2 w'→w'.cell? ⟨sb,so+f.toNat*13+3,none⟩=some (.int .i64 (hg h.sets f.toNat).high):=fun w' z=>by
     obtain⟨b',o',e,-,hc⟩:=(HY.out w' z).2.2.1.sets (by omega);rw[HSA.out]at e
     cases e
     exact(hc _ hj).2.2.2.1
    rw[hsa]at x2;obtain⟨y,hy⟩:=nm (hg h.sets f.toNat);rw[hy]at s2 s3 HSETX;have HJ0:=lh j0;clear hsa hy hneg
    cases ht:Ai x.to y.low y.high
    case false=>
     have HT:=lh ht
     have HMB:=lh (HNOT.out fun z=>by
      have a:=z.2.2.1;have b:=z.2.2.2.1;rw[HXK.out,HSETX.out]at a b;have:=Am.2 ⟨a,b⟩;rw[HT.out]at this
      cases this)
     clear ht;refine wp_region_held_drew (S:=(fun w'=>Below W2.heap.size W2 w')) (by kernel_rfl) ((br).drew) (fun hHeld=>?_);refine tk 0 ?_;refine r1 1 (fun K hK=>?_)
     try simp only[Ba,Bc,Az]
     go_simp
     (go_at_call 148;go_split_ands;go_fit (Gr x _);rintro e w5 ⟨rfl,hb5⟩;rw[HV.out])
     go_wp2_with fail
     refine hK.out _ _ (hHeld.trans (hb5.mono hHeld.size)) (fun hHeld=>?_);clear hK K
     try simp only[Act.put,Co,Cp,Cn,Ba,Bc,Az]
     refine tk 2 ?_;refine tk 3 ?_;refine tk 4 ?_;refine tk 5 ?_;refine tk 6 ?_;refine tk 7 ?_;refine tk 8 ?_;refine tk 9 ?_;refine tk 10 ?_;refine tk 11 ?_;refine tk 12 ?_;refine tk 13 ?_;refine tk 14 ?_;refine tk 15 ?_;refine tk 16 ?_;refine tk 17 ?_;refine tk 18 ?_;refine tk 19 ?_;refine tk 20 ?_;refine tk 21 ?_;refine r1 22 (fun K hK=>?_)
     try simp only[Ba,Bc,Az]
     go_simp
     (go_at_call 147;go_split_ands;go_fit (Bu x.to y.low y.high _);rintro e w6 ⟨rfl,rfl⟩;rw[HT.out])
     go_wp2_with fail
     refine hK.out _ _ (hHeld) (fun hHeld=>?_);clear hK K
     try simp only[Act.put,Co,Cp,Cn,Ba,Bc,Az]
     refine tk 23 ?_;refine tk 24 ?_;refine tk 25 ?_;refine sk 26 ?_;refine sk 27 ?_;refine sk 28 ?_;refine sk 29 ?_;refine sk 30 ?_;refine sk 31 ?_;refine tk 32 ?_;refine wpAnyH_done (by kernel_rfl) ?_ _
     go_wp2_with fail
     go_meet
     exact⟨by rw[HMB.out];rfl,hHeld⟩
    have HT:=lh ht;clear ht;have HTK:Hid ((q.moves.take k).length=k):=lh (by rw[List.length_take];have:=HLT.out;omega)
    have HCF:Hid (∀w',Below W2.heap.size W2 w'→Calls Tryz.prog 149 #[.slice (some ⟨mb,mo,none⟩) k q.mc,.func (.func 150) #[] #[.pointer (some ⟨B4,0,none⟩)]] w' fun e w2=>e=.returned (.bool (Pk (q.moves.take k) (fun y=>decide (y.name=x.name))))∧Below w'.heap.size w' w2):=lh fun w' z=>by
     have:=Tg (some ⟨mb,mo,none⟩) (q.moves.take k) q.mc _ _ _ (fun y=>decide (y.name=x.name)) w' AFm (by rw[HTK.out];have:=HLT.out;omega) nr ((HY.out w' z).2.2.2.1.take k) (AEu (HY.out w' z).2.2.2.2.1);rw[HTK.out]at this;exact this
    have k0:(0:Int)≤(k:Int):=by omega
    have k1:(k:Int)≤(q.mc:Int):=by have:=HLT.out;omega
    cases hn:Pk (q.moves.take k) (fun y=>decide (y.name=x.name))
    case true=>
     have HN:=lh hn
     have HMB:=lh (HNOT.out fun z=>by
      have:=(Zw q.moves k x.name).2 fun j hj _=>by have:=z.2.2.2.2 j hj;rw[HXK.out]at this;exact this
      rw[HN.out]at this
      cases this)
     clear hn;refine wp_region_held_drew (S:=(fun w'=>Below W2.heap.size W2 w')) (by kernel_rfl) ((br).drew) (fun hHeld=>?_);refine tk 0 ?_;refine r1 1 (fun K hK=>?_)
     try simp only[Ba,Bc,Az]
     go_simp
     (go_at_call 148;go_split_ands;go_fit (Gr x _);rintro e w5 ⟨rfl,hb5⟩;rw[HV.out])
     go_wp2_with fail
     refine hK.out _ _ (hHeld.trans (hb5.mono hHeld.size)) (fun hHeld=>?_);clear hK K
     try simp only[Act.put,Co,Cp,Cn,Ba,Bc,Az]
     refine tk 2 ?_;refine tk 3 ?_;refine tk 4 ?_;refine tk 5 ?_;refine tk 6 ?_;refine tk 7 ?_;refine tk 8 ?_;refine tk 9 ?_;refine tk 10 ?_;refine tk 11 ?_;refine tk 12 ?_;refine tk 13 ?_;refine tk 14 ?_;refine tk 15 ?_;refine tk 16 ?_;refine tk 17 ?_;refine tk 18 ?_;refine tk 19 ?_;refine tk 20 ?_;refine tk 21 ?_;refine r1 22 (fun K hK=>?_)
     try simp only[Ba,Bc,Az]
     go_simp
     (go_at_call 147;go_split_ands;go_fit (Bu x.to y.low y.high _);rintro e w6 ⟨rfl,rfl⟩;rw[HT.out])
     go_wp2_with fail
     refine hK.out _ _ (hHeld) (fun hHeld=>?_);clear hK K
     try simp only[Act.put,Co,Cp,Cn,Ba,Bc,Az]
     refine tk 23 ?_;refine tk 24 ?_;refine tk 25 ?_;refine tk 26 ?_;refine tk 27 ?_;refine tk 28 ?_;refine tk 29 ?_;refine tk 30 ?_;refine r1 31 (fun K hK=>?_)
     try simp only[Ba,Bc,Az]
     go_simp
     (go_at_call 149;go_split_ands;go_fit (HCF.out _ hHeld);rintro e w7 ⟨rfl,hb7⟩;rw[HN.out])
     go_wp2_with fail
     refine hK.out _ _ (hHeld.trans (hb7.mono hHeld.size)) (fun hHeld=>?_);clear hK K
     try simp only[Act.put,Co,Cp,Cn,Ba,Bc,Az]
     refine tk 32 ?_;refine wpAnyH_done (by kernel_rfl) ?_ _
     go_wp2_with fail
     go_meet
     exact⟨by rw[HMB.out];rfl,hHeld⟩
    ·have HN:=lh hn
     have HMB:Hid (Yd h q.moves k=true):=lh (Pm.2 (by
      refine⟨by rw[HXK.out];exact HV.out,by rw[HXK.out,HF.out];exact HJ0.out,?_,?_,fun j hj=>?_⟩
      ·rw[HXK.out,HSETX.out];exact(Am.1 HT.out).1
      ·rw[HXK.out,HSETX.out];exact(Am.1 HT.out).2
      ·rw[HXK.out];exact(Zw q.moves k x.name).1 HN.out j hj (by have:=HLT.out;omega)))
     clear hn;refine wp_region_held_drew (S:=(fun w'=>Below W2.heap.size W2 w')) (by kernel_rfl) ((br).drew) (fun hHeld=>?_);refine tk 0 ?_;refine r1 1 (fun K hK=>?_)
     try simp only[Ba,Bc,Az]
     go_simp
     (go_at_call 148;go_split_ands;go_fit (Gr x _);rintro e w5 ⟨rfl,hb5⟩;rw[HV.out])
     go_wp2_with fail
     refine hK.out _ _ (hHeld.trans (hb5.mono hHeld.size)) (fun hHeld=>?_);clear hK K
     try simp only[Act.put,Co,Cp,Cn,Ba,Bc,Az]
     refine tk 2 ?_;refine tk 3 ?_;refine tk 4 ?_;refine tk 5 ?_;refine tk 6 ?_;refine tk 7 ?_;refine tk 8 ?_;refine tk 9 ?_;refine tk 10 ?_;refine tk 11 ?_;refine tk 12 ?_;refine tk 13 ?_;refine tk 14 ?_;refine tk 15 ?_;refine tk 16 ?_;refine tk 17 ?_;refine tk 18 ?_;refine tk 19 ?_;refine tk 20 ?_;refine tk 21 ?_;refine r1 22 (fun K hK=>?_)
     try simp only[Ba,Bc,Az]
     go_simp
     (go_at_call 147;go_split_ands;go_fit (Bu x.to y.low y.high _);rintro e w6 ⟨rfl,rfl⟩;rw[HT.out])
     go_wp2_with fail
     refine hK.out _ _ (hHeld) (fun hHeld=>?_);clear hK K
     try simp only[Act.put,Co,Cp,Cn,Ba,Bc,Az]
     refine tk 23 ?_;refine tk 24 ?_;refine tk 25 ?_;refine tk 26 ?_;refine tk 27 ?_;refine tk 28 ?_;refine tk 29 ?_;refine tk 30 ?_;refine r1 31 (fun K hK=>?_)
     try simp only[Ba,Bc,Az]
     go_simp
     (go_at_call 149;go_split_ands;go_fit (HCF.out _ hHeld);rintro e w7 ⟨rfl,hb7⟩;rw[HN.out])
     go_wp2_with fail
     refine hK.out _ _ (hHeld.trans (hb7.mono hHeld.size)) (fun hHeld=>?_);clear hK K
     try simp only[Act.put,Co,Cp,Cn,Ba,Bc,Az]
     refine tk 32 ?_;refine wpAnyH_done (by kernel_rfl) ?_ _
     go_wp2_with fail
     go_meet
     exact⟨by rw[HMB.out];rfl,hHeld⟩
   case rest=>
   obtain⟨rfl,hbc⟩:=hcut;have hqc:=HQ2.out.trans (hbc.mono HQ2.out.size)
   cases hmb2:Yd h q.moves k
   ·have HZ:=lh (HRNO.out hmb2)
    clear hmb2
    go_wp2_with fail
    go_ret;exact⟨Ab HZ.out.symm,HW.out _ hqc⟩
   ·have HA2:Hid (∀j,j<k+1→Hf h q.moves j):=lh fun j hj=>by
     rcases Nat.lt_or_ge j k with l | l
     ·exact HA.out j l
     ·obtain rfl:j=k:=by omega
      exact Pm.1 hmb2
    clear hmb2
    go_wp2_with fail
    go_roundw
    case rel=>
     repeat apply Exists.intro
     exact⟨⟨k+1,by go_num,by omega,HA2,hqc⟩,rfl⟩
    case measure=>simp[intOf];omega
  ·obtain rfl:k=q.moves.length:=by omega
   have HZ:Hid (Ix h q=true):=lh (Ef.2 ⟨HHD.out,HA.out⟩)
   go_wp2_with fail
   go_ret;exact⟨Ab HZ.out.symm,HW.out _ hB⟩
end
section
open Go.RowKit Go.Shelf Go.Maps Go.WideMaps
theorem APo:∀x y:List UInt8,Op.bytesLess x y=true∨x=y∨Op.bytesLess y x=true
 | [],[]=>.inr (.inl rfl)
 | [],_::_=>.inl rfl
 | _::_,[]=>.inr (.inr rfl)
 | a::x,b::y=>by
  unfold Op.bytesLess;simp only[Bool.or_eq_true,Bool.and_eq_true,decide_eq_true_eq,beq_iff_eq,UInt8.lt_iff_toNat_lt];rcases Nat.lt_trichotomy a.toNat b.toNat with l | l | l
  ·exact .inl (.inl l)
  ·have e:a=b:=UInt8.toNat_inj.1 l
   subst e;rcases APo x y with h | h | h
   ·exact .inl (.inr ⟨rfl,h⟩)
   ·exact .inr (.inl (by rw[h]))
   ·exact .inr (.inr (.inr ⟨rfl,h⟩))
  ·exact .inr (.inr (.inl l))
theorem Sh:∀x y:List UInt8,Op.bytesLess x y=true→Op.bytesLess y x=false
 | [],[],h=>by cases h
 | [],_::_,_=>rfl
 | _::_,[],h=>by cases h
 | a::x,b::y,h=>by
  unfold Op.bytesLess at h⊢;simp only[Bool.or_eq_true,Bool.and_eq_true,decide_eq_true_eq,beq_iff_eq,UInt8.lt_iff_toNat_lt]at h;simp only[Bool.or_eq_false_iff,Bool.and_eq_false_iff,decide_eq_false_iff_not,beq_eq_false_iff_ne,UInt8.lt_iff_toNat_lt];rcases h with l | ⟨e,h⟩
  ·exact⟨by omega,.inl fun e=>by subst e;omega⟩
  ·subst e
   exact⟨by omega,.inr (Sh x y h)⟩
def AVi(x:ByteArray×ByteArray):Bool:=Op.bytesLess x.1.toList x.2.toList||x.1.toList==x.2.toList
def Lr(x:ByteArray×ByteArray):ByteArray×ByteArray:=if AVi x=true then x else(x.2,x.1)
theorem AHh{a b:ByteArray}(h:a.toList=b.toList):a=b:=by
 have:=Dj a b;rw[show(a.toList==b.toList)=true from beq_iff_eq.2 h]at this;exact of_decide_eq_true this.symm
theorem AKv(a b:ByteArray):Lr (a,b)=Lr (b,a):=by
 unfold Lr AVi;rcases APo a.toList b.toList with h | h | h
 ·rw[h,Sh _ _ h]
  have hne:(b.toList==a.toList)=false:=beq_eq_false_iff_ne.2 fun e=>by
   have:=Sh _ _ h;rw[e]at this;rw[e]at h;rw[h]at this;cases this
  rw[hne];rfl
 ·obtain rfl:=AHh h
  rfl
 ·rw[h,Sh _ _ h]
  have hne:(a.toList==b.toList)=false:=beq_eq_false_iff_ne.2 fun e=>by
   have:=Sh _ _ h;rw[e]at this;rw[e]at h;rw[h]at this;cases this
  rw[hne];rfl
theorem AAh(x y:ByteArray×ByteArray):Lr x=Lr y↔Ft x y:=by
 constructor
 ·intro h
  unfold Lr at h;obtain⟨a,b⟩:=x;obtain⟨c,d⟩:=y;unfold Ft
  split at h<;>split at h<;>simp only[Prod.mk.injEq]at h⊢
  ·exact .inl h
  ·exact .inr ⟨h.1,h.2⟩
  ·exact .inr ⟨h.2,h.1⟩
  ·exact .inl ⟨h.2,h.1⟩
 ·rintro (h | ⟨h1,h2⟩)
  ·rw[h]
  ·obtain⟨a,b⟩:=x
   obtain⟨c,d⟩:=y;simp only at h1 h2;subst h1 h2;exact AKv _ _
theorem AIc:ArrKey Tryz.prog 149 9 2:=⟨Tryz.underlying149,by kernel_rfl,by kernel_rfl,by kernel_rfl⟩
theorem AIm:KeyLaw Tryz.prog 149:=AIc.law
theorem Zq:Keyed Tryz.prog 149:=Keyed.of_law AIm
def Ny(x:ByteArray×ByteArray):Lit:=.string (keyBytes [.string x.1.data.toList,.string x.2.data.toList])
theorem Ya:∃m,(Tryz.prog).types.size=m+1:=⟨(Tryz.prog).types.size-1,by have h:0<(Tryz.prog).types.size:=of_decide_eq_true (by kernel_rfl);omega⟩
theorem Oh(x:ByteArray×ByteArray)(h1:x.1.size≤maxLen)(h2:x.2.size≤maxLen):keyOf Tryz.prog 149 (.agg #[.string x.1,.string x.2])=some (Ny x):=by
 have A:=AIc;have he:(Tryz.prog).underlying 9=some .string:=Tryz.underlying9;have hkt:=A.keyType Ya;obtain⟨m,hm⟩:=Ya;unfold keyOf;simp only[A.hu];rw[if_pos (by simp[hkt,Value.formed,A.hu,A.size]),hm];unfold Program.keyLits;simp only[A.hu,Value.cells];rw[if_pos (by rw[A.size];rfl),show List.range 2=[0,1]from rfl,List.mapM_cons,List.mapM_cons,List.mapM_nil]
 simp[A.one,Program.keyLits,he,h1,h2,Ny]
theorem ALx{x y:ByteArray×ByteArray}(hx:x.1.size≤maxLen∧x.2.size≤maxLen)(hy:y.1.size≤maxLen∧y.2.size≤maxLen)(h:Ny x=Ny y):x=y:=by
 have:=AIm.inj (Oh x hx.1 hx.2) (by rw[h];exact Oh y hy.1 hy.2);simp only[Value.agg.injEq,Array.mk.injEq,List.cons.injEq,Value.string.injEq,and_true]at this;exact Prod.ext this.1 this.2
def Uh(A:List (ByteArray×ByteArray))(k:Nat):List Lit:=(A.take k).map fun x=>Ny (Lr x)
theorem ALl(A:List (ByteArray×ByteArray))(k:Nat):∀x∈Uh A k,WideAt.IsKeyLit x:=by
 intro x hx;unfold Uh at hx;obtain⟨y,_,rfl⟩:=List.mem_map.1 hx
 trivial
def Qs(A:List (ByteArray×ByteArray))(k:Nat):DataW Unit:=setOf (.agg []) (Uh A k)
theorem AHj(A:List (ByteArray×ByteArray)){k:Nat}(h:k<A.length):(Qs A k).put (Ny (Lr (pg A k))) (.agg [])=Qs A (k+1):=by
 unfold Qs Uh;rw[List.take_succ_eq_append_getElem h,List.map_append,List.map_cons,List.map_nil,setOf_snoc,Yy A k h]
def ABc(A:List (ByteArray×ByteArray)):Prop:=∀i,i<A.length→(pg A i).1.size≤1000∧(pg A i).2.size≤1000
theorem Tr{x:ByteArray×ByteArray}(h:x.1.size≤1000∧x.2.size≤1000):(Lr x).1.size≤maxLen∧(Lr x).2.size≤maxLen:=by
 unfold Lr maxLen
 split
 ·omega
 ·show x.2.size≤_∧x.1.size≤_
  omega
theorem AOa{A:List (ByteArray×ByteArray)}(hn:ABc A){k:Nat}(h:k<A.length):Maps.has (Qs A k) (Ny (Lr (pg A k)))=true↔∃j,j<k∧Ft (pg A j) (pg A k):=by
 unfold Qs;rw[has_setOf _ _ _ (ALl A k),ABr (Uh A k) (Ny (Lr (pg A k))) (show WideAt.IsKeyLit (Lit.string _)from trivial)];unfold Uh;rw[List.mem_map]
 constructor
 ·rintro ⟨y,hy,e⟩
  obtain⟨j,hj,rfl⟩:=List.mem_take_iff_getElem.1 hy;refine⟨j,by omega,?_⟩;have:=hn j (by omega);rw[Yy A j (by omega)]at this⊢;exact(AAh _ _).1 (ALx (Tr this) (Tr (hn k h)) e)
 ·rintro ⟨j,hj,e⟩
  exact⟨pg A j,List.mem_take_iff_getElem.2 ⟨j,by omega,(Yy A j (by omega)).symm⟩,by rw[(AAh _ _).2 e]⟩
theorem ABg{C:List An}{A:List (ByteArray×ByteArray)}{k:Nat}{x p:ByteArray×ByteArray}{t:Bool}(hx:pg A k=x)(h:p=x∨p=(x.2,x.1))(ht:t=true↔∃j,j<k∧Ft (pg A j) x):
  Fx C A k↔t=false∧p.1≠p.2∧0≤Cj C p.1∧0≤Cj C p.2:=by
 unfold Fx;rw[hx]
 have e:t=false↔∀j,j<k→¬Ft (pg A j) x:=by
  constructor
  ·intro h j hj q
   rw[ht.2 ⟨j,hj,q⟩]at h;cases h
  ·intro h
   cases q:t
   ·rfl
   ·obtain⟨j,hj,z⟩:=ht.1 q
    exact absurd z (h j hj)
 rw[e];rcases h with rfl | rfl
 ·exact⟨fun ⟨a,b,c,d⟩=>⟨d,a,b,c⟩,fun ⟨d,a,b,c⟩=>⟨a,b,c,d⟩⟩
 ·exact⟨fun ⟨a,b,c,d⟩=>⟨d,fun q=>a q.symm,c,b⟩,fun ⟨d,a,b,c⟩=>⟨fun q=>a q.symm,c,b,d⟩⟩
end
end Go.Proofs.YtebofaenlhhkaaaGreat
