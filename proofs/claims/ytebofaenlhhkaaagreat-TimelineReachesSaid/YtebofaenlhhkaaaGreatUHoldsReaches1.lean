/-
  THE WALK of the law TimelineReaches.
-/
import Derived.Test.YtebofaenlhhkaaaGreatU33
namespace Go.Proofs.YtebofaenlhhkaaaGreat
set_option maxRecDepth 100000
set_option maxHeartbeats 80000000
section
open Go.RowKit Go.Shelf
attribute [local go_sem] Oper.semAt_some
def mxTo(L:List Int):Nat→Int
 | 0=>0
 | n+1=>max (mxTo L n) (ig L n)
theorem mx_ge(L:List Int):∀n,0≤mxTo L n∧∀j,j<n→ig L j≤mxTo L n
 | 0=>⟨Int.le_refl _,fun j hj=>absurd hj (Nat.not_lt_zero _)⟩
 | n+1=>by
  obtain⟨a,b⟩:=mx_ge L n;refine⟨by rw[mxTo];omega,fun j hj=>?_⟩;rw[mxTo];rcases Nat.lt_or_ge j n with l | l
  ·have:=b j l;omega
  ·obtain rfl:j=n:=by omega
   omega
theorem atE_errs{h:HouseR}{s:SheetR}{G:List Int}(e:planE h s G=0){ms:Int}(m0:0≤ms)(m1:ms≤1099511627776):(atE h s G ms).2≠1:=by
 unfold atE;rw[if_pos e,if_neg (by omega)]
 split
 ·have:=atTo_errs h s.cues (planS h s G) m0 m1 h.sets.length
  omega
 ·decide
theorem atE_yes{h:HouseR}{s:SheetR}{G:List Int}{ms:Int}(e:(atE h s G ms).2=0):ordrB s.cues (planS h s G) (planN h s)=true∧atE h s G ms=atTo h s.cues (planS h s G) ms h.sets.length:=by
 unfold atE at e⊢
 split at e
 case isFalse q=>exact absurd e q
 next q=>
  rw[if_pos q]
  split at e
  ·cases e
  next r=>
   rw[if_neg r]
   split at e
   next o=>exact⟨o,by rw[if_pos o]⟩
   ·cases e
theorem lawreaches_law(h:HouseR)(s:SheetR)(ga:Option Addr)(G:List Int)(gc:Nat)(w:World)(hh:HouseIn0 w h)(hs:SheetIn0 w s)(hG:Nums w.heap.size w ga G):
  Calls Tryz.prog 5 #[.agg #[.string h.name,.int .i64 h.height,.slice h.sa h.sets.length h.sc,.slice h.ra h.roofs.length h.rc],.agg #[.slice s.ca s.cues.length s.cc,.slice s.pa s.pairs.length s.pc],.slice ga G.length gc] w fun e w'=>e=.returned (.bool true)∧Below w.heap.size w w':=by
 obtain⟨hb0,HX,HW⟩:=o3 hh hs hG;clear hh hs hG hb0
 cases hsm:smallA h s G
 case false=>
  have HSM:=lh hsm;clear hsm
  go_enter Tryz.func5,Tryz.ntmps5
  go_upto_region 1 with (fail)
  obtain⟨W0,hW0⟩:=nm ((LTw w h s):World);simp only[hW0]at HX HW⊢;clear hW0;obtain⟨B1,hB1⟩:=nm (w.heap.size);obtain⟨B2,hB2⟩:=nm (w.heap.size+1);rw[hB2]at HX⊢;rw[hB1]at HX⊢;clear hB1 hB2
  go_wp2_with (first
   | (go_at_call 10;(with_reducible refine(awake_any _).mono ?_);rintro e w1 ⟨rfl,hb1⟩;obtain⟨⟨a0,a1,a2,a3⟩,⟨s0,s1⟩,-,-,-⟩:=HX.out _ hb1)
   | (go_at_call 11;(with_reducible refine(lawsmall_any h s ga G _ _ (HX.out _ hb1).2.2.1 (HX.out _ hb1).2.2.2.1 (HX.out _ hb1).2.2.2.2).mono ?_);rintro e w2 ⟨rfl,hb2⟩;rw[HSM.out];have hq2:=hb1.trans (hb2.mono hb1.size)))
  go_ret;exact⟨rfl,HW.out _ hq2⟩
 have HSM:=lh hsm;obtain⟨z1,z2,z3⟩:=smallA_yes hsm
 have HXI:Hid (∀w',Below (LTw w h s).heap.size (LTw w h s) w'→HouseIn w' h∧SheetIn w' s∧Nums w'.heap.size w' ga G):=lh fun w' q=>
  ⟨smallH_in (by omega) (HX.out w' q).2.2.1 z1,smallC_in (by omega) (HX.out w' q).2.2.2.1 z2,(HX.out w' q).2.2.2.2⟩
 have hcl:s.cues.length≤6:=by have:=z2.cues;omega
 have hgl:G.length≤1000:=by omega
 have hhl:h.sets.length≤5:=by have:=z1.1;omega
 clear hsm z1 z2 z3
 by_cases he:planE h s G=0
 case neg=>
  have HN2:Hid (endsP h s G=[]):=lh (if_neg he);obtain⟨E,hE⟩:=nm (planE h s G);have HE:=lh hE;rw[hE]at he;have g0:(E !=0)=true:=bne_iff_ne.2 he;clear he hE
  cases hv:sheetB h s
  ·have HV:=lh hv
   clear hv
   go_enter Tryz.func5,Tryz.ntmps5
   go_upto_region 1 with (fail)
   obtain⟨W0,hW0⟩:=nm ((LTw w h s):World);simp only[hW0]at HX HXI HW⊢;clear hW0;obtain⟨B1,hB1⟩:=nm (w.heap.size);obtain⟨B2,hB2⟩:=nm (w.heap.size+1);rw[hB2]at HX⊢;rw[hB1]at HX⊢;clear hB1 hB2
   go_upto_region 5 with (first
    | (go_at_call 10;(with_reducible refine(awake_any _).mono ?_);rintro e w1 ⟨rfl,hb1⟩;obtain⟨⟨a0,a1,a2,a3⟩,⟨s0,s1⟩,-,-,-⟩:=HX.out _ hb1)
    | (go_at_call 11;(with_reducible refine(lawsmall_any h s ga G _ _ (HX.out _ hb1).2.2.1 (HX.out _ hb1).2.2.2.1 (HX.out _ hb1).2.2.2.2).mono ?_);rintro e w2 ⟨rfl,hb2⟩;rw[HSM.out];have hq2:=hb1.trans (hb2.mono hb1.size)))
   obtain⟨⟨x0,x1,x2,x3⟩,⟨y0,y1⟩,-,-,-⟩:=HX.out _ hq2;clear a0 a1 a2 a3 s0 s1
   go_upto_region 7 with (first
    | (go_at_call 18;(with_reducible refine(ends_any h s ga G gc _ (HXI.out _ hq2).1 (HXI.out _ hq2).2.1 (HXI.out _ hq2).2.2 hgl).mono ?_);rintro e w3 ⟨hx3,hb3⟩;rw[HE.out,HN2.out]at hx3;obtain⟨v3,rfl,hr3⟩:=hx3.out;obtain⟨a23,c23,rfl,-,-,-,hl3⟩:=num_of_row hr3;have HL3:=lh hl3;clear hx3 hr3 hl3;have hq3:=hq2.trans (hb3.mono hq2.size);obtain⟨⟨p30,p31,p32,p33⟩,⟨r30,r31⟩,-,-,-⟩:=HX.out _ hq3)
    | (go_at_call 19;(with_reducible refine(trims_no h s _ (HXI.out _ hq3).1 (HXI.out _ hq3).2.1 HV.out).mono ?_);rintro e w4 ⟨rfl,hb4⟩;have hq4:=hq3.trans (hb4.mono hq3.size)))
   clear x0 x1 x2 x3 y0 y1 p30 p31 p32 p33 r30 r31
   go_wp2_with fail
   go_ret;exact⟨rfl,HW.out _ hq4⟩
  ·have HV:=lh hv
   clear hv
   go_enter Tryz.func5,Tryz.ntmps5
   go_upto_region 1 with (fail)
   obtain⟨W0,hW0⟩:=nm ((LTw w h s):World);simp only[hW0]at HX HXI HW⊢;clear hW0;obtain⟨B1,hB1⟩:=nm (w.heap.size);obtain⟨B2,hB2⟩:=nm (w.heap.size+1);rw[hB2]at HX⊢;rw[hB1]at HX⊢;clear hB1 hB2
   go_upto_region 5 with (first
    | (go_at_call 10;(with_reducible refine(awake_any _).mono ?_);rintro e w1 ⟨rfl,hb1⟩;obtain⟨⟨a0,a1,a2,a3⟩,⟨s0,s1⟩,-,-,-⟩:=HX.out _ hb1)
    | (go_at_call 11;(with_reducible refine(lawsmall_any h s ga G _ _ (HX.out _ hb1).2.2.1 (HX.out _ hb1).2.2.2.1 (HX.out _ hb1).2.2.2.2).mono ?_);rintro e w2 ⟨rfl,hb2⟩;rw[HSM.out];have hq2:=hb1.trans (hb2.mono hb1.size)))
   obtain⟨⟨x0,x1,x2,x3⟩,⟨y0,y1⟩,-,-,-⟩:=HX.out _ hq2;clear a0 a1 a2 a3 s0 s1
   go_upto_region 7 with (first
    | (go_at_call 18;(with_reducible refine(ends_any h s ga G gc _ (HXI.out _ hq2).1 (HXI.out _ hq2).2.1 (HXI.out _ hq2).2.2 hgl).mono ?_);rintro e w3 ⟨hx3,hb3⟩;rw[HE.out,HN2.out]at hx3;obtain⟨v3,rfl,hr3⟩:=hx3.out;obtain⟨a23,c23,rfl,-,-,-,hl3⟩:=num_of_row hr3;have HL3:=lh hl3;clear hx3 hr3 hl3;have hq3:=hq2.trans (hb3.mono hq2.size);obtain⟨⟨p30,p31,p32,p33⟩,⟨r30,r31⟩,-,-,-⟩:=HX.out _ hq3)
    | (go_at_call 19;(with_reducible refine(trims_yes h s _ (HXI.out _ hq3).1 (HXI.out _ hq3).2.1 HV.out).mono ?_);rintro e w4 ⟨hx4,hb4⟩;obtain⟨ta,tc,P,rfl,ht4⟩:=hx4.out;have HT4:=lh ht4;clear hx4 ht4;(obtain⟨tn,htn⟩:=nm (s.cues.length+1));rw[htn];have HTN:=lh htn;clear htn;have hq4:=hq3.trans (hb4.mono hq3.size)))
   clear x0 x1 x2 x3 y0 y1 p30 p31 p32 p33 r30 r31
   go_wp2_with fail
   go_ret;exact⟨rfl,HW.out _ hq4⟩
 have HPL:=lh he;have HN2:Hid (endsP h s G=endsL h s G s.cues.length):=lh (if_pos he);have HV:Hid (sheetB h s=true):=lh (sheetB_iff.2 (plan_sheet he).1);clear he
 go_enter Tryz.func5,Tryz.ntmps5
 go_upto_region 1 with (fail)
 obtain⟨W0,hW0⟩:=nm ((LTw w h s):World);simp only[hW0]at HX HXI HW⊢;clear hW0;obtain⟨B1,hB1⟩:=nm (w.heap.size);obtain⟨B2,hB2⟩:=nm (w.heap.size+1);rw[hB2]at HX⊢;rw[hB1]at HX⊢;clear hB1 hB2
 go_upto_region 5 with (first
  | (go_at_call 10;(with_reducible refine(awake_any _).mono ?_);rintro e w1 ⟨rfl,hb1⟩;obtain⟨⟨a0,a1,a2,a3⟩,⟨s0,s1⟩,-,-,-⟩:=HX.out _ hb1)
  | (go_at_call 11;(with_reducible refine(lawsmall_any h s ga G _ _ (HX.out _ hb1).2.2.1 (HX.out _ hb1).2.2.2.1 (HX.out _ hb1).2.2.2.2).mono ?_);rintro e w2 ⟨rfl,hb2⟩;rw[HSM.out];have hq2:=hb1.trans (hb2.mono hb1.size)))
 obtain⟨⟨x0,x1,x2,x3⟩,⟨y0,y1⟩,-,-,-⟩:=HX.out _ hq2;clear a0 a1 a2 a3 s0 s1 hb1 hb2
 go_upto_region 11 with (first
  | (go_at_call 18;(with_reducible refine(ends_any h s ga G gc _ (HXI.out _ hq2).1 (HXI.out _ hq2).2.1 (HXI.out _ hq2).2.2 hgl).mono ?_);rintro e w3 ⟨hx3,hb3⟩;rw[HPL.out,HN2.out]at hx3;obtain⟨v3,rfl,hr3⟩:=hx3.out;obtain⟨a23,c23,rfl,-,-,-,hl3⟩:=num_of_row hr3;have HL3:=lh hl3;clear hx3 hr3 hl3;have hq3:=hq2.trans (hb3.mono hq2.size);obtain⟨⟨p30,p31,p32,p33⟩,⟨r30,r31⟩,-,-,-⟩:=HX.out _ hq3)
  | (go_at_call 19;(with_reducible refine(trims_yes h s _ (HXI.out _ hq3).1 (HXI.out _ hq3).2.1 HV.out).mono ?_);rintro e w4 ⟨hx4,hb4⟩;obtain⟨ta,tc,P,rfl,ht4⟩:=hx4.out;have HT4:=lh ht4;clear hx4 ht4;(obtain⟨tn,htn⟩:=nm (s.cues.length+1));rw[htn];have HTN:=lh htn;clear htn;have hq4:=hq3.trans (hb4.mono hq3.size)))
 clear x0 x1 x2 x3 y0 y1 p30 p31 p32 p33 r30 r31;have HQ4:=lh hq4;have HL4:=lh (HL3.out.grow hb4);clear HL3 hb3 hb4 hq2 hq3 hq4;simp only[endsL_len];obtain⟨LE,hLE⟩:=nm (endsL h s G s.cues.length);have HLE:=lh hLE;rw[hLE]at HL4;clear hLE
 go_loopw [11,13,50] (fun v11 _ iv wr=>∃(k:Nat),iv=.int .i64 k∧k≤s.cues.length∧v11=.int .i64 (mxTo LE k)∧w4=wr) (fun _ _ iv _=>s.cues.length-(intOf iv).toNat)
 case atStart=>exact⟨0,rfl,Nat.zero_le _,rfl,rfl⟩
 case round=>
  obtain⟨k,rfl,hk,rfl,rfl⟩:=hrel
  by_cases hlt:k<s.cues.length
  ·obtain⟨b,off,rfl,-,hc⟩:=HL4.out (by rw[←HLE.out,endsL_len];omega)
   have d0:=hc k (by rw[←HLE.out,endsL_len];omega);have HM:Hid (mxTo LE (k+1)=max (mxTo LE k) (ig LE k)):=lh rfl;clear hc
   go_wp2_with fail
   go_roundw
   case rel=>exact⟨k+1,by go_num,by omega,by rw[HM.out],by first | rfl | trivial⟩
   case measure=>simp[intOf];omega
  ·obtain rfl:k=s.cues.length:=by omega
   clear hlt hk
   have HEN:Hid (∀j,j<s.cues.length→ig (planS h s G) j+ig (planN h s) j≤mxTo LE s.cues.length):=lh fun j hj=>by
    have:=(mx_ge LE s.cues.length).2 j hj;rw[←HLE.out,ends_at h s G _ j hj]at this
    rwa [←HLE.out]
   have hE0:=(mx_ge LE s.cues.length).1;obtain⟨EN,hEN⟩:=nm (mxTo LE s.cues.length);rw[hEN]at hE0 HEN⊢;clear hEN HL4 HLE;obtain⟨⟨x0,x1,x2,x3⟩,⟨y0,y1⟩,-,-,-⟩:=HX.out _ HQ4.out
   by_cases hbig:1099511627776<EN
   ·have b1:decide (1099511627776<EN)=true:=decide_eq_true hbig
    clear hbig
    go_wp2_with fail
    go_ret;exact⟨rfl,HW.out _ HQ4.out⟩
   have b1:decide (1099511627776<EN)=false:=decide_eq_false hbig;have hE1:EN≤1099511627776:=by omega
   clear hbig;have HCV:=lh fun k (hk:k<h.sets.length) (pe:planE h s G=0) (oe:ordrB s.cues (planS h s G) (planN h s)=true) (e:(pathP h s.cues (planS h s G) k).2=0)=>path_curve (plan_sheet pe).1 (plan_sheet pe).2 (ordrB_iff.1 oe) hk e;obtain⟨L0,E0,hr0⟩:∃L E,atE h s G 0=(L,E):=⟨_,_,rfl⟩;obtain⟨L1,E1,hr1⟩:∃L E,atE h s G EN=(L,E):=⟨_,_,rfl⟩
   have HA0:Hid (∀w',(HouseIn w' h∧SheetIn w' s∧Nums w'.heap.size w' ga G)→Calls Tryz.prog 15 #[.agg #[.string h.name,.int .i64 h.height,.slice h.sa h.sets.length h.sc,.slice h.ra h.roofs.length h.rc],.agg #[.slice s.ca s.cues.length s.cc,.slice s.pa s.pairs.length s.pc],.slice ga G.length gc,.int .i64 0] w' fun e w2=>Hid (∃v,e=.returned (.tuple #[v,.int .i64 E0])∧AtV w' w2 v (L0,E0))∧Below w'.heap.size w' w2):=lh fun w' z=>by
    have:=tAt_any h s ga G gc 0 w' z.1 z.2.1 z.2.2 hgl (by omega) HCV.out
    rwa [hr0]at this
   have HA1:Hid (∀w',(HouseIn w' h∧SheetIn w' s∧Nums w'.heap.size w' ga G)→Calls Tryz.prog 15 #[.agg #[.string h.name,.int .i64 h.height,.slice h.sa h.sets.length h.sc,.slice h.ra h.roofs.length h.rc],.agg #[.slice s.ca s.cues.length s.cc,.slice s.pa s.pairs.length s.pc],.slice ga G.length gc,.int .i64 EN] w' fun e w2=>Hid (∃v,e=.returned (.tuple #[v,.int .i64 E1])∧AtV w' w2 v (L1,E1))∧Below w'.heap.size w' w2):=lh fun w' z=>by
    have:=tAt_any h s ga G gc EN w' z.1 z.2.1 z.2.2 hgl (by omega) HCV.out
    rwa [hr1]at this
   have e0:=atE_errs HPL.out (Int.le_refl 0) (show(0:Int)≤1099511627776 by decide);have e1:=atE_errs HPL.out hE0 hE1;rw[hr0]at e0;rw[hr1]at e1;have g01:(E0 !=1)=true:=bne_iff_ne.2 e0;have g11:(E1 !=1)=true:=bne_iff_ne.2 e1;have tn0:decide (0<(tn:Int))=true:=dT (by have:=HTN.out;omega);have tn1:decide (0<tn)=true:=dT (by have:=HTN.out;omega);have HR0:=lh hr0;have HR1:=lh hr1;clear e0 e1 hr0 hr1 HCV
   by_cases z0:E0=0
   case neg=>
    have g00:(E0 !=0)=true:=bne_iff_ne.2 z0;clear z0
    go_upto_region 19 with (first
     | (go_at_call 15;(with_reducible refine(HA0.out _ (HXI.out _ HQ4.out)).mono ?_);rintro e w5 ⟨hx5,hb5⟩;obtain⟨v5,rfl,hr5⟩:=hx5.out;have HR5:=lh hr5;clear hx5 hr5;have hq5:=HQ4.out.trans (hb5.mono HQ4.out.size);obtain⟨⟨p50,p51,p52,p53⟩,⟨r50,r51⟩,-,-,-⟩:=HX.out _ hq5)
     | (go_at_call 15;(with_reducible refine(HA1.out _ (HXI.out _ hq5)).mono ?_);rintro e w6 ⟨hx6,hb6⟩;obtain⟨v6,rfl,hr6⟩:=hx6.out;have HR6:=lh hr6;clear hx6 hr6;have hq6:=hq5.trans (hb6.mono hq5.size)))
    go_wp2_with fail
    go_ret;exact⟨rfl,HW.out _ hq6⟩
   subst z0;clear g01
   by_cases z1:E1=0
   case neg=>
    have g10:(E1 !=0)=true:=bne_iff_ne.2 z1;clear z1
    go_upto_region 19 with (first
     | (go_at_call 15;(with_reducible refine(HA0.out _ (HXI.out _ HQ4.out)).mono ?_);rintro e w5 ⟨hx5,hb5⟩;obtain⟨v5,rfl,hr5⟩:=hx5.out;have HR5:=lh hr5;clear hx5 hr5;have hq5:=HQ4.out.trans (hb5.mono HQ4.out.size);obtain⟨⟨p50,p51,p52,p53⟩,⟨r50,r51⟩,-,-,-⟩:=HX.out _ hq5)
     | (go_at_call 15;(with_reducible refine(HA1.out _ (HXI.out _ hq5)).mono ?_);rintro e w6 ⟨hx6,hb6⟩;obtain⟨v6,rfl,hr6⟩:=hx6.out;have HR6:=lh hr6;clear hx6 hr6;have hq6:=hq5.trans (hb6.mono hq5.size)))
    go_wp2_with fail
    go_ret;exact⟨rfl,HW.out _ hq6⟩
   subst z1;clear g11 tn0 tn1;have y0':=atE_yes (h:=h) (s:=s) (G:=G) (ms:=0) (by rw[HR0.out]);have y1':=atE_yes (h:=h) (s:=s) (G:=G) (ms:=EN) (by rw[HR1.out]);rw[HR0.out]at y0';rw[HR1.out]at y1';have l0:=atTo_len (h:=h) (C:=s.cues) (S:=planS h s G) (ms:=0) h.sets.length (by rw[←y0'.2]);have l1:=atTo_len (h:=h) (C:=s.cues) (S:=planS h s G) (ms:=EN) h.sets.length (by rw[←y1'.2]);rw[←y0'.2]at l0;rw[←y1'.2]at l1
   have HF0:Hid (∀k,k<h.sets.length→frg L0 k=((hg h.sets k).high,1)):=lh fun k hk=>by
    obtain⟨a,b⟩:=atTo_at h s.cues (planS h s G) 0 h.sets.length (by rw[←y0'.2]) k hk;rw[←y0'.2]at a;obtain⟨c,d⟩:=reach_first (plan_sheet HPL.out).1 (plan_sheet HPL.out).2 (ordrB_iff.1 y0'.1) hk b;rw[c,d]at a;exact a
   have HF1:Hid (∀k,k<h.sets.length→frg L1 k=(ig (trimL h s.cues s.cues.length) k,1)):=lh fun k hk=>by
    obtain⟨a,b⟩:=atTo_at h s.cues (planS h s G) EN h.sets.length (by rw[←y1'.2]) k hk;rw[←y1'.2]at a;obtain⟨c,d⟩:=reach_last hE0 hE1 (plan_sheet HPL.out).1 (plan_sheet HPL.out).2 (ordrB_iff.1 y1'.1) hk HEN.out b;rw[c,d]at a;exact a
   have HL0:Hid (L0.length=h.sets.length):=lh l0;have HL1:Hid (L1.length=h.sets.length):=lh l1;clear y0' y1' l0 l1 HEN
   go_upto_region 19 with (first
    | (go_at_call 15;(with_reducible refine(HA0.out _ (HXI.out _ HQ4.out)).mono ?_);rintro e w5 ⟨hx5,hb5⟩;obtain⟨v5,rfl,hr5⟩:=hx5.out;have HR5:=lh hr5;clear hx5 hr5;have hq5:=HQ4.out.trans (hb5.mono HQ4.out.size);obtain⟨⟨p50,p51,p52,p53⟩,⟨r50,r51⟩,-,-,-⟩:=HX.out _ hq5)
    | (go_at_call 15;(with_reducible refine(HA1.out _ (HXI.out _ hq5)).mono ?_);rintro e w6 ⟨hx6,hb6⟩;obtain⟨v6,rfl,hr6⟩:=hx6.out;have HR6:=lh hr6;clear hx6 hr6;have hq6:=hq5.trans (hb6.mono hq5.size)))
   obtain⟨f5,k5,rfl,-,-,-,hf5⟩:=fr_of_row (HR5.out.1 rfl);obtain⟨f6,k6,rfl,-,-,-,hf6⟩:=fr_of_row (HR6.out.1 rfl)
   have HXX:Hid (∀w',Below w6.heap.size w6 w'→Below w.heap.size w w'∧HouseAt w' B1 h∧SheetAt w' B2 s∧HouseIn w' h∧Frs w'.heap.size w' f5 L0∧Frs w'.heap.size w' f6 L1∧TrimsIn w' ta h s.cues P):=lh fun w' z=>by
    have y:=hq6.trans (z.mono hq6.size);exact⟨HW.out w' y,(HX.out w' y).1,(HX.out w' y).2.1,(HXI.out w' y).1,(hf5.grow hb6).grow z,hf6.grow z,((HT4.out.grow hb5).grow hb6).grow z⟩
   rw[show L0.length=h.sets.length from HL0.out,show L1.length=h.sets.length from HL1.out];clear HX HXI HW HA0 HA1 HT4 HR5 HR6 hf5 hf6 hb5 hb6 hq5 hq6 HQ4 x0 x1 x2 x3 y0 y1 p50 p51 p52 p53 r50 r51 HR0 HR1 b1 hE0 hE1;generalize w6=W2 at *;obtain⟨n₂,hn2⟩:=nm (W2.heap.size);rw[hn2]at HXX;have hB2:Below n₂ W2 W2:=by rw[←hn2];exact br
   have hnn:n₂≤W2.heap.size:=by omega
   clear hn2;obtain⟨sa,hsa⟩:=nm (h.sa);have HSA:=lh hsa;obtain⟨-,⟨x0,x1,x2,x3⟩,⟨s0,s1⟩,-⟩:=HXX.out _ hB2;rw[hsa]at x2;clear hsa;have n1:IntKind.i64.wrap ((s.cues.length:Int)+1)=(tn:Int):=by rw[IntWalk.i64_in _ (by omega)];have:=HTN.out;omega
   have n2:((tn:Int)!=(tn:Int))=false:=bne_self_eq_false _;have n3:((h.sets.length:Int)!=(h.sets.length:Int))=false:=bne_self_eq_false _
   go_upto_region 24 with (fail)
   clear x0 x1 x2 x3 s0 s1 n1 n2 n3;have hcn:s.cues.length<tn:=by have:=HTN.out;omega
   obtain⟨cn,hcn2⟩:=nm (s.cues.length);have HCN:=lh hcn2;rw[hcn2]at hcn HTN
   go_loopw [18,19,121] (fun _ _ iv wr=>∃(k:Nat),iv=.int .i64 k∧k≤h.sets.length∧Below n₂ W2 wr∧n₂≤wr.heap.size) (fun _ _ iv _=>h.sets.length-(intOf iv).toNat)
   case atStart=>exact⟨0,rfl,Nat.zero_le _,hB2,hnn⟩
   case round=>
    clear hB2 hnn hcn2;obtain⟨k,rfl,hk,hB,hnw⟩:=hrel
    by_cases hlt:k<h.sets.length
    ·obtain⟨-,-,-,hin,-⟩:=HXX.out _ hB
     obtain⟨b,off,ha,-,hc⟩:=hin.sets (by omega);rw[HSA.out]at ha;subst ha;obtain⟨d0,d1,d2,d3,d4,d5,d6,d7,d8,d9,d10,d11,d12⟩:=hc k hlt;have HK0:=lh (HF0.out k hlt);have HK1:=lh (HF1.out k hlt);obtain⟨q,hq⟩:=nm (hg h.sets k);rw[hq]at d0 d1 d2 d3 d4 d5 d6 d7 d8 d9 d10 d11 d12 HK0;clear hc hq hin;have hB3:=hB.alloc hnw (.cells #[.string q.name,.int .i64 q.depth,.int .i64 q.low,.int .i64 q.high,.int .i64 q.length,.slice q.la q.lines.length q.lc,.int .i64 q.pipe,.int .i64 q.arbor,.int .i64 q.purchase,.int .i64 q.most,.int .i64 q.brake,.slice q.ia q.items.length q.ic,.slice q.ba q.bricks.length q.bc] 59);have hn3:n₂≤(wr.alloc (.cells #[.string q.name,.int .i64 q.depth,.int .i64 q.low,.int .i64 q.high,.int .i64 q.length,.slice q.la q.lines.length q.lc,.int .i64 q.pipe,.int .i64 q.arbor,.int .i64 q.purchase,.int .i64 q.most,.int .i64 q.brake,.slice q.ia q.items.length q.ic,.slice q.ba q.bricks.length q.bc] 59)).heap.size:=by simp;omega
     have HC3:=SetAt.new wr q 59
     go_upto_region 26 with (fail)
     clear d0 d1 d2 d3 d4 d5 d6 d7 d8 d9 d10 d11 d12 hB hnw;generalize wr.alloc (.cells #[.string q.name,.int .i64 q.depth,.int .i64 q.low,.int .i64 q.high,.int .i64 q.length,.slice q.la q.lines.length q.lc,.int .i64 q.pipe,.int .i64 q.arbor,.int .i64 q.purchase,.int .i64 q.most,.int .i64 q.brake,.slice q.ia q.items.length q.ic,.slice q.ba q.bricks.length q.bc] 59)=W3 at *;obtain⟨B12,hB12⟩:=nm (wr.heap.size);rw[hB12]at HC3⊢;clear hB12;obtain⟨z,hz⟩:=nm (ig (trimL h s.cues s.cues.length) k);rw[hz]at HK1;obtain⟨-,-,-,-,hf5,hf6,hti⟩:=HXX.out _ hB3;obtain⟨b5,o5,rfl,-,-⟩:=hf5 (by rw[HL0.out];omega);obtain⟨b6,o6,rfl,-,-⟩:=hf6 (by rw[HL1.out];omega);have hpl:=hti.rows.len;obtain⟨tb,tf,rfl,-,-⟩:=hti.lies (by omega);have hpe:=hti.rows.eq cn (by rw[HCN.out];exact Nat.le_refl _);have hxl:(lg P cn).xs.length=h.sets.length:=by rw[hpe,trimL_len]
     obtain⟨zb,zf,hza,-,-⟩:=hti.each cn (by have:=HCN.out;omega) (by omega);obtain⟨trc,htrc⟩:=nm ((lg P cn).c)
     have HA:Hid (∀w',Below W3.heap.size W3 w'→w'.cell? ⟨b5,o5+k*2,none⟩=some (.int .i64 q.high)∧w'.cell? ⟨b5,o5+k*2+1,none⟩=some (.int .i64 1)∧w'.cell? ⟨b6,o6+k*2,none⟩=some (.int .i64 z)∧w'.cell? ⟨b6,o6+k*2+1,none⟩=some (.int .i64 1)∧w'.cell? ⟨tb,tf+cn,none⟩=some (.slice (some ⟨zb,zf,none⟩) h.sets.length trc)∧w'.cell? ⟨zb,zf+k,none⟩=some (.int .i64 z)∧w'.cell? ⟨B12,3,none⟩=some (.int .i64 q.high)):=lh fun w' y=>by
      obtain⟨-,-,-,-,hf5,hf6,hti⟩:=HXX.out _ (hB3.trans (y.mono hn3));obtain⟨b',o',e,-,x⟩:=hf5 (by rw[HL0.out];omega)
      cases e
      obtain⟨c0,c1⟩:=x k (by rw[HL0.out];exact hlt);obtain⟨b',o',e,-,x⟩:=hf6 (by rw[HL1.out];omega)
      cases e
      obtain⟨c2,c3⟩:=x k (by rw[HL1.out];exact hlt);obtain⟨b',o',e,-,x⟩:=hti.lies (by omega)
      cases e
      have c4:=x cn (by have:=HCN.out;omega);obtain⟨b',o',e,-,x⟩:=hti.each cn (by have:=HCN.out;omega) (by omega);rw[hza]at e c4
      cases e
      have c5:=x k (by omega);rw[hpe,←HCN.out,hz]at c5;rw[hxl,htrc]at c4;rw[HK0.out]at c0 c1;rw[HK1.out]at c2 c3;exact⟨c0,c1,c2,c3,c4,c5,((HC3.below y (wl HC3.1)).2.2.2.1)⟩
     clear hf5 hf6 hti hpl hpe hxl hza htrc hz HC3;have c0:=fun w' y=>(HA.out w' y).1;have c1:=fun w' y=>(HA.out w' y).2.1;have c2:=fun w' y=>(HA.out w' y).2.2.1;have c3:=fun w' y=>(HA.out w' y).2.2.2.1;have c4:=fun w' y=>(HA.out w' y).2.2.2.2.1;have c5:=fun w' y=>(HA.out w' y).2.2.2.2.2.1;have c6:=fun w' y=>(HA.out w' y).2.2.2.2.2.2;have m1:IntKind.i64.wrap ((tn:Int)-1)=(cn:Int):=by rw[IntWalk.i64_in _ (by have:=HTN.out;have:=HCN.out;omega)];have:=HTN.out;omega
     have m2:((h.sets.length:Int)!=(h.sets.length:Int))=false:=bne_self_eq_false _;have m3:(q.high==q.high)=true:=beq_self_eq_true _;have m4:(z==z)=true:=beq_self_eq_true _;have m5:(q.high !=q.high)=false:=bne_self_eq_false _;have m6:(z !=z)=false:=bne_self_eq_false _;have hD:Below W3.heap.size W3 W3.drew:=(br).drew;refine wp_region_held_drew (S:=fun w'=>Below W3.heap.size W3 w') (by kernel_rfl) hD (fun hHeld=>?_);refine tk 0 ?_;refine tk 1 ?_;refine tk 2 ?_;refine tk 3 ?_;refine tk 4 ?_;refine tk 5 ?_;refine tk 6 ?_;refine tk 7 ?_;refine tk 8 ?_;refine tk 9 ?_;refine tk 10 ?_;refine tk 11 ?_;refine tk 12 ?_;refine tk 13 ?_;refine tk 14 ?_;refine tk 15 ?_;refine tk 16 ?_;refine cl 17 (rof_any q.high _) (fun _ hb=>hHeld.trans (hb.mono hHeld.size)) (fun y1 hb1 hH1=>?_);refine tk 18 ?_;refine tk 19 ?_;refine tk 20 ?_;refine tk 21 ?_;refine tk 22 ?_;refine tk 23 ?_;refine tk 24 ?_;refine tk 25 ?_;refine tk 26 ?_;refine tk 27 ?_;refine tk 28 ?_;refine tk 29 ?_;refine tk 30 ?_;refine tk 31 ?_;refine tk 32 ?_;refine tk 33 ?_;refine cl 34 (rof_any z _) (fun _ hb=>hH1.trans (hb.mono hH1.size)) (fun y2 hb2 hH2=>?_);refine tk 35 ?_;refine tk 36 ?_;refine dn ?_;have hB9:=hB3.trans (hH2.mono hn3);have hn9:=Nat.le_trans hn3 hH2.size;clear c0 c1 c2 c3 c4 c5 c6 m1 m2 m3 m4 m5 m6 hb1 hb2 hD hHeld hH1 hH2
     go_wp2_with fail
     go_roundw
     case rel=>exact⟨k+1,by go_num,by omega,hB9,hn9⟩
     case measure=>simp[intOf];omega
    ·go_wp2_with fail
     go_ret;exact⟨rfl,(HXX.out _ hB).1⟩
end
section
open Go.ChangeShapes Go.WideShapes Go.ChangeAt Go.WideMaps Go.WideElems Go.RowKit
open Go.ChangeMaps (open_string shut_string)
theorem timelineReaches_lifted(os:Os)(started:os.Started)(H:Type)(enc:TypeId×Value→H):
  ReturnsInHanded {} Tryz.checked os 5 .any (Rows.timelineReachesSpec.pre6 enc Tryz.prog Tryz.f5 Rows.timelineReachesRow.domain false) (Rows.timelineReachesSpec.post enc Tryz.prog Tryz.f5 false true false false):=by
 refine returnsInHanded_of_change (C:=Tryz.checked) own started (by kernel_rfl) Tryz.func5
  (ChangeSpec.witness6 (enc:=enc) (C:=Tryz.checked) false ⟨#[],#[.agg #[.string ⟨#[]⟩,.int .i64 0,.slice none 0 0,.slice none 0 0],.agg #[.slice none 0 0,.slice none 0 0],.slice none 0 0],[]⟩ 8 (by kernel_rfl) (by kernel_rfl) (by kernel_rfl) (by kernel_rfl)) ?_
 intro W base args ds gs before hval0 hW hcnd _;have hval:∀(j:Nat) t v,Tryz.f5.params[j]? =some t→args[j]? =some v→Value.okWide Tryz.prog W .any base t v:=hval0;have hW':=hW;obtain⟨p,q,hA0,hV,rfl,hfz,hnd⟩:=hW;have hA:DataW.TrodAll enc Tryz.prog W 0 (fun _=>true) true Tryz.f5.params.toList args.toList ds p:=hA0;rw[Tryz.params5]at hA hval;obtain⟨v0,vs0,d0,ds0,p0,q0,hargs,rfl,rfl,h0,r0⟩:=trodAll_cons hA;obtain⟨v1,vs1,d1,ds1,p1,q1,rfl,rfl,rfl,h1,r1⟩:=trodAll_cons r0;obtain⟨v2,vs2,d2,ds2,p2,q2,rfl,rfl,rfl,h2,r2⟩:=trodAll_cons r1;obtain⟨rfl,rfl,rfl⟩:=trodAll_nil r2;obtain rfl:args=#[v0,v1,v2]:=by cases args;simp_all
 obtain⟨rfl,rfl⟩:=trodVars_none hV;obtain⟨h,rfl,hS0⟩:=open_house (hval 0 25 v0 rfl rfl) h0;obtain⟨s,rfl,hS1⟩:=open_sheet (hval 1 29 v1 rfl rfl) h1;obtain⟨ga,gc,g,rfl,hc2,hm2,hn2,hw2,hS2⟩:=open_numsA (hval 2 30 v2 rfl rfl) h2;clear hA0 hval0;simp only[List.append_nil]at hW';refine(lawreaches_law h s ga g gc W hS0 hS1 hS2).mono fun e W' ⟨he,hb⟩=>?_;subst he;exact⟨_,rfl,law_post laidOut (by kernel_rfl) hW' rfl rfl (by kernel_rfl) Tryz.underlying4 hb⟩

theorem timelineReaches_holds:Rows.TimelineReachesSaid:=
 OpenClaim.holds_of_wide 5 Tryz.f5 rfl rfl rfl rfl rfl rfl rfl ⟨rfl,rfl,rfl,rfl,rfl⟩ rfl rfl rfl rfl rfl (by kernel_rfl) Tryz.func5 (by kernel_rfl)
  (of_decide_eq_true (by kernel_rfl)) (by unfold Func.isWrapper;first | (rw[if_pos (by decide+kernel)];kernel_rfl) | (rw[if_neg (by decide+kernel)];exact⟨rfl,rfl⟩))
  (fun os started H enc _=>timelineReaches_lifted os started H enc)
end
end Go.Proofs.YtebofaenlhhkaaaGreat
