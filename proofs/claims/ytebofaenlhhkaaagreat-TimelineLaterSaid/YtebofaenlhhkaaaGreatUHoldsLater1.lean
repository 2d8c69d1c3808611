/-
  PLAIN: given times that are all later by the same time make starts, ends and trims later.
-/
import Derived.Test.YtebofaenlhhkaaaGreatU33
namespace Go.Proofs.YtebofaenlhhkaaaGreat
set_option maxRecDepth 100000
set_option maxHeartbeats 80000000
section
open Go.RowKit
def addG(G:List Int)(b:Int):List Int:=G.map (·+b)
theorem addG_len(G:List Int)(b:Int):(addG G b).length=G.length:=by unfold addG;rw[List.length_map]
theorem addG_at(G:List Int)(b:Int){k:Nat}(hk:k<G.length):ig (addG G b) k=ig G k+b:=by
 unfold addG ig;rw[List.getElem?_map,List.getElem?_eq_getElem hk]
 rfl
def farT(n:Int):Bool:=decide (n<0)||decide (1073741824<n)
theorem far_no{G:List Int}(h:num_any G farT=false){k:Nat}(hk:k<G.length):0≤ig G k∧ig G k≤1073741824:=by
 rw[num_any_eq]at h;have:=List.any_eq_false.1 h (ig G k) (by rw[ig_eq G k hk];exact List.getElem_mem hk);unfold farT at this;simp only[Bool.or_eq_true,decide_eq_true_eq]at this;omega
theorem wrong_any{G:List Int}(h:∀k,k<G.length→0≤ig G k∧ig G k≤2147483648):G.any wrongT=false:=by
 rw[List.any_eq_false];intro x hx;obtain⟨k,hk,rfl⟩:=List.getElem_of_mem hx;have:=h k hk;rw[ig_eq G k hk]at this;unfold wrongT timeB
 simp
 omega
theorem later_planE{h:HouseR}{s:SheetR}{G:List Int}{b:Int}(hG:num_any G farT=false)(b0:0≤b)(b1:b≤65535):planE h s (addG G b)=planE h s G:=by
 have w1:G.any wrongT=false:=wrong_any fun k hk=>by have:=far_no hG hk;omega
 have w2:(addG G b).any wrongT=false:=wrong_any fun k hk=>by
  rw[addG_len]at hk;have:=far_no hG hk;rw[addG_at G b hk];omega
 unfold planE startsP;rw[w1,w2,addG_len]
 split
 ·split
  ·split
   ·split
    ·rfl
    ·split<;>rfl
   ·rfl
  ·rfl
 ·rfl
theorem later_start{h:HouseR}{s:SheetR}{G:List Int}{b:Int}(e:planE h s G=0)(e':planE h s (addG G b)=0):∀n k,k<n→k<s.cues.length→ig (planS h s (addG G b)) k=ig (planS h s G) k+b
 | 0,k,hk,_=>absurd hk (Nat.not_lt_zero _)
 | n+1,k,hk,hl=>by
  by_cases l:(cg s.cues k).link=1
  ·obtain⟨a1,a2⟩:=start_man e hl l
   obtain⟨c1,c2⟩:=start_man e' hl l;rw[a1,c1,addG_at G b a2];omega
  ·obtain⟨f,hf,ff,ef⟩:=start_off e hl l
   obtain⟨f',hf',ff',ef'⟩:=start_off e' hl l;obtain rfl:f'=f:=by omega
   have ih:=later_start e e' n f' (by omega) (by omega);rw[ef,ef',ih]
   split<;>omega
theorem later_ordr{C:List CueR}{S S' N:List Int}{b:Int}(hS:∀k,k<C.length→ig S' k=ig S k+b):ordrB C S' N=ordrB C S N:=by
 have e:OrdrOK C S' N↔OrdrOK C S N:=by
  unfold OrdrOK ordrAt
  constructor
  ·intro z i hi k hk j hj q
   have:=z i hi k hk j hj q;rw[hS k (by omega),hS i hi]at this;omega
  ·intro z i hi k hk j hj q
   have:=z i hi k hk j hj q;rw[hS k (by omega),hS i hi];omega
 by_cases z:OrdrOK C S N
 ·rw[ordrB_iff.2 z,ordrB_iff.2 (e.2 z)]
 ·rw[ordr_no z,ordr_no (fun y=>z (e.1 y))]
theorem later_pos{h:HouseR}{C:List CueR}{S S':List Int}{b:Int}{k:Nat}(hS:∀k,k<C.length→ig S' k=ig S k+b)(x:Rat):∀n,n≤C.length→posTo h C S' k (x+(b:Rat)/1000) n=posTo h C S k x n
 | 0,_=>rfl
 | n+1,hn=>by
  have ih:=later_pos (h:=h) (k:=k) hS x n (by omega)
  have e:((ig S' n:Int):Rat)/1000=((ig S n:Int):Rat)/1000+(b:Rat)/1000:=by
   rw[hS n (by omega),Rat.intCast_add]
   grind
  by_cases g:goesK h C k n∧((ig S n:Int):Rat)/1000≤x
  ·rw[pos_go g.1 g.2,pos_go g.1 (by rw[e];grind)]
   rw[show x+(b:Rat)/1000-((ig S' n:Int):Rat)/1000=x-((ig S n:Int):Rat)/1000 by rw[e];grind]
  ·rw[pos_stay g,pos_stay (fun q=>g ⟨q.1,by have:=q.2;rw[e]at this;grind⟩),ih]
theorem atTo_err5{h:HouseR}{C:List CueR}{S:List Int}{ms:Int}(hl:C.length≤6)(m0:0≤ms)(m1:ms≤1099511627776):∀n,(atTo h C S ms n).2=0∨(atTo h C S ms n).2=5
 | 0=>.inl rfl
 | n+1=>by
  by_cases a:(atTo h C S ms n).2=0
  ·by_cases b:(setAt h C S ms n).2.2=0
   ·rw[atTo_next a b];exact .inl rfl
   ·rw[atTo_fail a b]
    right
    have e:=setAt_errs h C S m0 m1 n;rcases e with e | e | e
    ·exact absurd e b
    ·exfalso
     unfold setAt at e
     by_cases p:(pathP h C S n).2=0
     ·rw[if_pos p]at e
      have:=atP_err (L:=(pathP h C S n).1) (sec_vF m0 (by omega));omega
     ·rw[if_neg p]at e
      unfold pathP at e p
      by_cases q:(pathTo h C S n C.length).2=0
      ·have:=(pathTo_len h C S n C.length q).2
       rw[if_pos q,if_neg (by omega)]at e;rw[q]at e;exact absurd e (by decide)
      ·rw[if_neg q]at e
       have:=pathTo_errs h C S n C.length;have e':(pathTo h C S n C.length).2=4:=e;omega
    ·exact e
  ·rw[atTo_err a (n+1) (Nat.le_succ n)];exact atTo_err5 hl m0 m1 n
theorem later_at{h:HouseR}{s:SheetR}{G:List Int}{b ms:Int}(e:planE h s G=0)(e':planE h s (addG G b)=0)(hl:s.cues.length≤6)(b0:0≤b)(b1:b≤65535)(m0:0≤ms)(m1:ms≤4294967295):
  (atE h s G ms).2=5∨(atE h s (addG G b) (ms+b)).2=5∨((atE h s G ms).2=0∧atE h s (addG G b) (ms+b)=atE h s G ms∧(atE h s G ms).1.length=h.sets.length)∨((atE h s G ms).2=13∧(atE h s (addG G b) (ms+b)).2=13):=by
 have hS:∀k,k<s.cues.length→ig (planS h s (addG G b)) k=ig (planS h s G) k+b:=fun k hk=>later_start e e' (k+1) k (by omega) hk;have ho:=later_ordr (N:=planN h s) hS;unfold atE;rw[if_pos e,if_pos e',if_neg (show ¬(ms<0∨1099511627776<ms)by omega),if_neg (show ¬(ms+b<0∨1099511627776<ms+b)by omega),ho]
 by_cases o:ordrB s.cues (planS h s G) (planN h s)=true
 case neg=>
  rw[if_neg o,if_neg o];exact .inr (.inr (.inr ⟨rfl,rfl⟩))
 rw[if_pos o,if_pos o];rcases atTo_err5 (h:=h) (S:=planS h s G) hl m0 (show ms≤1099511627776 by omega) h.sets.length with a | a
 case inr=>exact .inl a
 rcases atTo_err5 (h:=h) (S:=planS h s (addG G b)) hl (show 0≤ms+b by omega) (show ms+b≤1099511627776 by omega) h.sets.length with a' | a'
 case inr=>exact .inr (.inl a')
 refine .inr (.inr (.inl ⟨a,?_,atTo_len _ a⟩));obtain⟨ok,po⟩:=plan_sheet e;have po':=(plan_sheet e').2;have l:=atTo_len _ a;have l':=atTo_len _ a';refine Prod.ext (frg_ext _ _ (by rw[l,l']) fun k hk=>?_) (by rw[a,a']);rw[l']at hk;obtain⟨c1,c2⟩:=atTo_at h s.cues (planS h s G) ms _ a k hk;obtain⟨d1,d2⟩:=atTo_at h s.cues (planS h s (addG G b)) (ms+b) _ a' k hk;rw[c1,d1];obtain⟨v1,f1⟩:=setAt_pos m0 (by omega) ok po (ordrB_iff.1 o) hk c2;obtain⟨v2,f2⟩:=setAt_pos (show 0≤ms+b by omega) (by omega) ok po' (ordrB_iff.1 (by rw[ho];exact o)) hk d2;refine frq_inj v2 v1 ?_;rw[f1,f2,←later_pos (h:=h) (k:=k) hS _ _ (Nat.le_refl _),Rat.intCast_add]
 congr 1
 grind
end
section
open Go.RowKit Go.Shelf
attribute [local go_sem] Oper.semAt_some
theorem asks_far(n₀:Nat)(w:World):AsksN 22 #[] n₀ w farT:=by
 intro W r hB;show Calls _ _ #[numV r] _ _;unfold numV farT
 by_cases a:r<0
 ·have b1:decide (r<0)=true:=decide_eq_true a
  go_enter Tryz.func22,Tryz.ntmps22
  go_wp2_with fail
  go_ret;exact⟨by first | rfl | (rw[b1];rfl),br⟩
 ·have b1:decide (r<0)=false:=decide_eq_false a
  go_enter Tryz.func22,Tryz.ntmps22
  go_wp2_with fail
  go_ret;exact⟨by first | rfl | (rw[b1];rfl),br⟩
theorem ent_far(args:Array Value)(w:World):(callFunc 22 args).run Tryz.prog w=.ok (.enter 22 args) w:=enters_of Tryz.func22 (by kernel_rfl) rfl args w
theorem begins_n(h:HouseR)(s:SheetR)(ga:Option Addr)(G:List Int)(gc n:Nat)(hn:G.length=n)(w:World)(hh:HouseIn w h)(hs:SheetIn w s)(hG:Nums w.heap.size w ga G)(hgl:G.length≤1000):
  Calls Tryz.prog 24 #[.agg #[.string h.name,.int .i64 h.height,.slice h.sa h.sets.length h.sc,.slice h.ra h.roofs.length h.rc],.agg #[.slice s.ca s.cues.length s.cc,.slice s.pa s.pairs.length s.pc],.slice ga n gc] w fun e w'=>Hid (∃v,e=.returned (.tuple #[v,.int .i64 (planE h s G)])∧w'.ownsRow w.heap.size 70 2 v (begsP h s G).length (begflat (begsP h s G)))∧Below w.heap.size w w':=by
 subst hn;exact begins_any h s ga G gc w hh hs hG hgl
theorem ends_n(h:HouseR)(s:SheetR)(ga:Option Addr)(G:List Int)(gc n:Nat)(hn:G.length=n)(w:World)(hh:HouseIn w h)(hs:SheetIn w s)(hG:Nums w.heap.size w ga G)(hgl:G.length≤1000):
  Calls Tryz.prog 18 #[.agg #[.string h.name,.int .i64 h.height,.slice h.sa h.sets.length h.sc,.slice h.ra h.roofs.length h.rc],.agg #[.slice s.ca s.cues.length s.cc,.slice s.pa s.pairs.length s.pc],.slice ga n gc] w fun e w'=>Hid (∃v,e=.returned (.tuple #[v,.int .i64 (planE h s G)])∧w'.ownsRow w.heap.size 3 1 v (endsP h s G).length (nflat (endsP h s G)))∧Below w.heap.size w w':=by
 subst hn;exact ends_any h s ga G gc w hh hs hG hgl
def mixG(G:List Int)(b:Int)(k:Nat):List Int:=(G.take k).map (·+b)++G.drop k
theorem mixG_all(G:List Int)(b:Int):mixG G b G.length=addG G b:=by unfold mixG addG;rw[List.take_length,List.drop_length,List.append_nil]
theorem mixG_len(G:List Int)(b:Int)(k:Nat):(mixG G b k).length=G.length:=by unfold mixG;simp;omega
theorem mixG_next(G:List Int)(b:Int){k:Nat}(hk:k<G.length):ig (mixG G b k) k=ig G k∧(mixG G b k).set k (ig G k+b)=mixG G b (k+1):=by
 have hl:((G.take k).map (·+b)).length=k:=by simp;omega
 have hd:G.drop k=ig G k::G.drop (k+1):=by rw[List.drop_eq_getElem_cons hk,ig_eq G k hk]
 have ht:G.take (k+1)=G.take k++[ig G k]:=by rw[List.take_succ_eq_append_getElem hk,ig_eq G k hk]
 unfold mixG
 constructor
 ·unfold ig
  rw[List.getElem?_append_right (by omega),hl,Nat.sub_self,hd]
  rfl
 ·rw[List.set_append_right _ _ (by omega),hl,Nat.sub_self,hd,ht,List.map_append,List.append_assoc]
  rfl
theorem lawlater_law(h:HouseR)(s:SheetR)(ga:Option Addr)(G:List Int)(gc:Nat)(hgn:ga=none→gc=0)(d ms:Int)(d0:0≤d)(d1:d≤65535)(m0:0≤ms)(m1:ms≤4294967295)(w:World)(hh:HouseIn0 w h)(hs:SheetIn0 w s)(hG:Nums w.heap.size w ga G):
  Calls Tryz.prog 6 #[.agg #[.string h.name,.int .i64 h.height,.slice h.sa h.sets.length h.sc,.slice h.ra h.roofs.length h.rc],.agg #[.slice s.ca s.cues.length s.cc,.slice s.pa s.pairs.length s.pc],.slice ga G.length gc,.int .u16 d,.int .u32 ms] w fun e w'=>e=.returned (.bool true)∧Below w.heap.size w w':=by
 obtain⟨hb0,HX,HW⟩:=o3 hh hs hG;clear hh hs hG hb0;have HGN:=lh hgn;clear hgn
 cases hsm:smallA h s G
 case false=>
  have HSM:=lh hsm;clear hsm
  go_enter Tryz.func6,Tryz.ntmps6
  go_upto_region 1 with (fail)
  obtain⟨W0,hW0⟩:=nm ((LTw w h s):World);simp only[hW0]at HX HW⊢;clear hW0;obtain⟨B1,hB1⟩:=nm (w.heap.size);obtain⟨B2,hB2⟩:=nm (w.heap.size+1);rw[hB2]at HX⊢;rw[hB1]at HX⊢;clear hB1 hB2
  go_wp2_with (first
   | (go_at_call 10;(with_reducible refine(awake_any _).mono ?_);rintro e w1 ⟨rfl,hb1⟩;obtain⟨⟨a0,a1,a2,a3⟩,⟨s0,s1⟩,-,-,-⟩:=HX.out _ hb1)
   | (go_at_call 11;(with_reducible refine(lawsmall_any h s ga G _ _ (HX.out _ hb1).2.2.1 (HX.out _ hb1).2.2.2.1 (HX.out _ hb1).2.2.2.2).mono ?_);rintro e w2 ⟨rfl,hb2⟩;rw[HSM.out];have hq2:=hb1.trans (hb2.mono hb1.size)))
  go_ret;exact⟨rfl,HW.out _ hq2⟩
 have HSM:=lh hsm;obtain⟨z1,z2,z3⟩:=smallA_yes hsm
 have HXI:Hid (∀w',Below (LTw w h s).heap.size (LTw w h s) w'→HouseIn w' h∧SheetIn w' s∧Nums w'.heap.size w' ga G):=lh fun w' q=>
  ⟨smallH_in (by omega) (HX.out w' q).2.2.1 z1,smallC_in (by omega) (HX.out w' q).2.2.2.1 z2,(HX.out w' q).2.2.2.2⟩
 have hcl:s.cues.length≤6:=by have:=z2.cues;omega
 have hgl:G.length≤1000:=by omega
 have hhl:h.sets.length≤5:=by have:=z1.1;omega
 clear hsm z1 z2 z3
 cases hfa:num_any G farT
 case true=>
  have HFA:=lh hfa;clear hfa
  go_enter Tryz.func6,Tryz.ntmps6
  go_upto_region 1 with (fail)
  obtain⟨W0,hW0⟩:=nm ((LTw w h s):World);simp only[hW0]at HX HXI HW⊢;clear hW0;obtain⟨B1,hB1⟩:=nm (w.heap.size);obtain⟨B2,hB2⟩:=nm (w.heap.size+1);rw[hB2]at HX⊢;rw[hB1]at HX⊢;clear hB1 hB2
  go_wp2_with (first
   | (go_at_call 10;(with_reducible refine(awake_any _).mono ?_);rintro e w1 ⟨rfl,hb1⟩;obtain⟨⟨a0,a1,a2,a3⟩,⟨s0,s1⟩,-,-,-⟩:=HX.out _ hb1)
   | (go_at_call 11;(with_reducible refine(lawsmall_any h s ga G _ _ (HX.out _ hb1).2.2.1 (HX.out _ hb1).2.2.2.1 (HX.out _ hb1).2.2.2.2).mono ?_);rintro e w2 ⟨rfl,hb2⟩;rw[HSM.out];have hq2:=hb1.trans (hb2.mono hb1.size))
   | (go_at_call 21;(with_reducible refine(num_containsFunc ga G _ _ _ _ farT _ ent_far (by omega) (Nat.le_refl _) (HX.out _ hq2).2.2.2.2 (asks_far _ _)).mono ?_);rintro e w3 ⟨rfl,hb3⟩;rw[HFA.out];have hq3:=hq2.trans (hb3.mono hq2.size)))
  go_ret;exact⟨rfl,HW.out _ hq3⟩
 have HFA:=lh hfa;clear hfa;have nd:IntKind.i64.wrap d=d:=IntWalk.i64_in _ (by omega)
 go_enter Tryz.func6,Tryz.ntmps6
 go_upto_region 1 with (fail)
 obtain⟨W0,hW0⟩:=nm ((LTw w h s):World);simp only[hW0]at HX HXI HW⊢;clear hW0;obtain⟨B1,hB1⟩:=nm (w.heap.size);obtain⟨B2,hB2⟩:=nm (w.heap.size+1);rw[hB2]at HX⊢;rw[hB1]at HX⊢;clear hB1 hB2
 go_upto_region 7 with (first
  | (go_at_call 10;(with_reducible refine(awake_any _).mono ?_);rintro e w1 ⟨rfl,hb1⟩;obtain⟨⟨a0,a1,a2,a3⟩,⟨s0,s1⟩,-,-,-⟩:=HX.out _ hb1)
  | (go_at_call 11;(with_reducible refine(lawsmall_any h s ga G _ _ (HX.out _ hb1).2.2.1 (HX.out _ hb1).2.2.2.1 (HX.out _ hb1).2.2.2.2).mono ?_);rintro e w2 ⟨rfl,hb2⟩;rw[HSM.out];have hq2:=hb1.trans (hb2.mono hb1.size))
  | (go_at_call 21;(with_reducible refine(num_containsFunc ga G _ _ _ _ farT _ ent_far (by omega) (Nat.le_refl _) (HX.out _ hq2).2.2.2.2 (asks_far _ _)).mono ?_);rintro e w3 ⟨rfl,hb3⟩;rw[HFA.out];have hq3:=hq2.trans (hb3.mono hq2.size))
  | (go_at_call 23;(with_reducible refine(num_clone ga G gc _ (by omega) HGN.out (HX.out _ hq3).2.2.2.2).mono ?_);rintro e w4 hx4;obtain⟨v4,rfl,hr4,hb4⟩:=hx4.out;have HR4:=lh hr4;(obtain⟨a4,c4,rfl,-,-,-,-⟩:=num_of_row hr4);clear hx4 hr4;have hq4:=hq3.trans (hb4.mono hq3.size)))
 clear a0 a1 a2 a3 s0 s1 hb1 hb2 hq2;obtain⟨n₀,hn0⟩:=nm (w3.heap.size);rw[hn0]at HR4 hb4;have hn4:n₀≤w4.heap.size:=by have:=hb4.size;omega
 have HB3:=lh (show Below W0.heap.size W0 w3 from hq3);have HN0:=lh hn0;clear hq3 hq4 hn0 hb3
 go_loopw [12,41] (fun _ iv wr=>∃(k:Nat),iv=.int .i64 k∧k≤G.length∧Below n₀ w3 wr∧n₀≤wr.heap.size∧Hid (wr.ownsRow n₀ 3 1 (.slice a4 G.length c4) G.length (nflat (mixG G d k)))) (fun _ iv _=>G.length-(intOf iv).toNat)
 case atStart=>exact⟨0,rfl,Nat.zero_le _,hb4,hn4,HR4⟩
 case round=>
  clear HR4 hb4 hn4;obtain⟨k,rfl,hk,hB,hnw,HR⟩:=hrel
  by_cases hlt:k<G.length
  ·have hvv:∃g cap,(Value.slice a4 G.length c4)=.slice (some ⟨g,0,none⟩) G.length cap∧n₀≤g:=by
    rcases HR.out.2 with ⟨_,e0⟩ | ⟨g,cap,cur,e,hb,_⟩
    ·omega
    ·exact⟨g,cap,e,hb⟩
   obtain⟨g,cap,hv1,hgn⟩:=hvv
   cases hv1
   have hgw:g<wr.heap.size:=(HR.out.lt _ rfl).2;obtain⟨e1,e2⟩:=mixG_next G d hlt;have fb:=far_no HFA.out hlt;have o2:wr.cell? ⟨g,k,none⟩=some (.int .i64 (ig G k)):=by rw[HR.out.cellAt k (by omega),nflat_at _ _ (by rw[mixG_len];exact hlt),e1]
   have o3:=HR.out.frozenAt k;have hsum:IntKind.i64.wrap (ig G k+d)=ig G k+d:=IntWalk.i64_in _ (by omega);have HST:=lh (show(wr.setCell ⟨g,k,none⟩ (.int .i64 (ig G k+d))).ownsRow n₀ 3 1 (.slice (some ⟨g,0,none⟩) G.length c4) G.length (nflat (mixG G d (k+1)))by rw[←e2,nflat_setL];exact(HR.out.stored k _).1);have hBS:Below n₀ w3 (wr.setCell ⟨g,k,none⟩ (.int .i64 (ig G k+d))):=hB.setCell (show n₀≤(⟨g,k,none⟩:Addr).block from hgn) _;have hns:n₀≤(wr.setCell ⟨g,k,none⟩ (.int .i64 (ig G k+d))).heap.size:=by simp;omega
   obtain⟨x,hx⟩:=nm (ig G k);rw[hx]at o2 hsum HST hBS hns;clear e1 e2 fb hx HR hB
   go_wp2_with fail
   go_roundw
   case rel=>exact⟨k+1,by go_num,by omega,hBS,hns,HST⟩
   case measure=>simp[intOf];omega
  ·obtain rfl:k=G.length:=by omega
   have hr:=HR.out;rw[mixG_all]at hr;obtain⟨G2,hG2⟩:=nm (addG G d);have hl2:G2.length=G.length:=by rw[←hG2,addG_len]
   rw[hG2,←hl2]at hr;obtain⟨g2,c2,eg,-,-,-,hw2⟩:=num_of_row hr;rw[hl2]at eg
   cases eg
   have HL2:Hid (G2.length=G.length):=lh hl2;have hq:=HB3.out.trans ((show Below w3.heap.size w3 wr by rw[HN0.out];exact hB).mono HB3.out.size);have HPE:Hid (planE h s G2=planE h s G):=lh (by rw[←hG2];exact later_planE HFA.out d0 d1);have HG2:=lh hG2
   have HXX:Hid (∀w',Below wr.heap.size wr w'→HouseAt w' B1 h∧SheetAt w' B2 s∧HouseIn w' h∧SheetIn w' s∧Nums w'.heap.size w' ga G∧Nums w'.heap.size w' a4 G2):=lh fun w' z=>by
    have y:=hq.trans (z.mono hq.size);exact⟨(HX.out w' y).1,(HX.out w' y).2.1,(HXI.out w' y).1,(HXI.out w' y).2.1,(HXI.out w' y).2.2,hw2.grow z⟩
   have HWW:Hid (∀w',Below wr.heap.size wr w'→Below w.heap.size w w'):=lh fun w' z=>HW.out w' (hq.trans (z.mono hq.size));clear hr hw2 hG2 hq hB HR HX HXI HW HB3 HN0 hlt hk hnw;generalize wr=W2 at *;obtain⟨⟨x0,x1,x2,x3⟩,⟨y0,y1⟩,-⟩:=HXX.out _ br
   by_cases he:planE h s G=0
   case neg=>
    have HA1:Hid (begsP h s G=[]):=lh (if_neg he);have HA2:Hid (endsP h s G=[]):=lh (if_neg he);have HA3:Hid (begsP h s G2=[]):=lh (if_neg (by rw[HPE.out];exact he));have HA4:Hid (endsP h s G2=[]):=lh (if_neg (by rw[HPE.out];exact he));obtain⟨E,hE⟩:=nm (planE h s G);have HE:=lh hE;rw[hE]at he HPE;have g0:(E !=0)=true:=bne_iff_ne.2 he;have g1:(E==E)=true:=beq_self_eq_true _;clear he hE
    go_upto_region 15 with (first
     | (go_at_call 24;(with_reducible refine(begins_any h s ga G gc _ (HXX.out _ br).2.2.1 (HXX.out _ br).2.2.2.1 (HXX.out _ br).2.2.2.2.1 (by have:=hgl;first | omega | (have:=HL2.out;omega))).mono ?_);rintro e w5 ⟨hx5,hb5⟩;rw[HE.out,HA1.out]at hx5;obtain⟨v5,rfl,hr5⟩:=hx5.out;obtain⟨a25,c25,rfl,-,-,-,hl5⟩:=beg_of_row hr5;have HL5:=lh hl5;clear hx5 hr5 hl5;have hq5:=hb5;obtain⟨⟨p50,p51,p52,p53⟩,⟨r50,r51⟩,-⟩:=HXX.out _ hq5)
     | (go_at_call 24;(with_reducible refine(begins_n h s a4 G2 c4 G.length HL2.out _ (HXX.out _ hq5).2.2.1 (HXX.out _ hq5).2.2.2.1 (HXX.out _ hq5).2.2.2.2.2 (by have:=hgl;first | omega | (have:=HL2.out;omega))).mono ?_);rintro e w6 ⟨hx6,hb6⟩;rw[HPE.out,HA3.out]at hx6;obtain⟨v6,rfl,hr6⟩:=hx6.out;obtain⟨a26,c26,rfl,-,-,-,hl6⟩:=beg_of_row hr6;have HL6:=lh hl6;clear hx6 hr6 hl6;have hq6:=hq5.trans (hb6.mono hq5.size);obtain⟨⟨p60,p61,p62,p63⟩,⟨r60,r61⟩,-⟩:=HXX.out _ hq6)
     | (go_at_call 18;(with_reducible refine(ends_any h s ga G gc _ (HXX.out _ hq6).2.2.1 (HXX.out _ hq6).2.2.2.1 (HXX.out _ hq6).2.2.2.2.1 (by have:=hgl;first | omega | (have:=HL2.out;omega))).mono ?_);rintro e w7 ⟨hx7,hb7⟩;rw[HE.out,HA2.out]at hx7;obtain⟨v7,rfl,hr7⟩:=hx7.out;obtain⟨a27,c27,rfl,-,-,-,hl7⟩:=num_of_row hr7;have HL7:=lh hl7;clear hx7 hr7 hl7;have hq7:=hq6.trans (hb7.mono hq6.size);obtain⟨⟨p70,p71,p72,p73⟩,⟨r70,r71⟩,-⟩:=HXX.out _ hq7)
     | (go_at_call 18;(with_reducible refine(ends_n h s a4 G2 c4 G.length HL2.out _ (HXX.out _ hq7).2.2.1 (HXX.out _ hq7).2.2.2.1 (HXX.out _ hq7).2.2.2.2.2 (by have:=hgl;first | omega | (have:=HL2.out;omega))).mono ?_);rintro e w8 ⟨hx8,hb8⟩;rw[HPE.out,HA4.out]at hx8;obtain⟨v8,rfl,hr8⟩:=hx8.out;obtain⟨a28,c28,rfl,-,-,-,hl8⟩:=num_of_row hr8;have HL8:=lh hl8;clear hx8 hr8 hl8;have hq8:=hq7.trans (hb8.mono hq7.size)))
    go_wp2_with fail
    go_ret;exact⟨rfl,HWW.out _ hq8⟩
   have HPL:=lh he;rw[he]at HPE;have HA1:Hid (begsP h s G=begsL h s G s.cues.length):=lh (if_pos he);have HA2:Hid (endsP h s G=endsL h s G s.cues.length):=lh (if_pos he);have HA3:Hid (begsP h s G2=begsL h s G2 s.cues.length):=lh (if_pos HPE.out);have HA4:Hid (endsP h s G2=endsL h s G2 s.cues.length):=lh (if_pos HPE.out);clear he
   go_upto_region 17 with (first
    | (go_at_call 24;(with_reducible refine(begins_any h s ga G gc _ (HXX.out _ br).2.2.1 (HXX.out _ br).2.2.2.1 (HXX.out _ br).2.2.2.2.1 (by have:=hgl;first | omega | (have:=HL2.out;omega))).mono ?_);rintro e w5 ⟨hx5,hb5⟩;rw[HPL.out,HA1.out]at hx5;obtain⟨v5,rfl,hr5⟩:=hx5.out;obtain⟨a25,c25,rfl,-,-,-,hl5⟩:=beg_of_row hr5;have HL5:=lh hl5;clear hx5 hr5 hl5;have hq5:=hb5;obtain⟨⟨p50,p51,p52,p53⟩,⟨r50,r51⟩,-⟩:=HXX.out _ hq5)
    | (go_at_call 24;(with_reducible refine(begins_n h s a4 G2 c4 G.length HL2.out _ (HXX.out _ hq5).2.2.1 (HXX.out _ hq5).2.2.2.1 (HXX.out _ hq5).2.2.2.2.2 (by have:=hgl;first | omega | (have:=HL2.out;omega))).mono ?_);rintro e w6 ⟨hx6,hb6⟩;rw[HPE.out,HA3.out]at hx6;obtain⟨v6,rfl,hr6⟩:=hx6.out;obtain⟨a26,c26,rfl,-,-,-,hl6⟩:=beg_of_row hr6;have HL6:=lh hl6;clear hx6 hr6 hl6;have hq6:=hq5.trans (hb6.mono hq5.size);obtain⟨⟨p60,p61,p62,p63⟩,⟨r60,r61⟩,-⟩:=HXX.out _ hq6)
    | (go_at_call 18;(with_reducible refine(ends_any h s ga G gc _ (HXX.out _ hq6).2.2.1 (HXX.out _ hq6).2.2.2.1 (HXX.out _ hq6).2.2.2.2.1 (by have:=hgl;first | omega | (have:=HL2.out;omega))).mono ?_);rintro e w7 ⟨hx7,hb7⟩;rw[HPL.out,HA2.out]at hx7;obtain⟨v7,rfl,hr7⟩:=hx7.out;obtain⟨a27,c27,rfl,-,-,-,hl7⟩:=num_of_row hr7;have HL7:=lh hl7;clear hx7 hr7 hl7;have hq7:=hq6.trans (hb7.mono hq6.size);obtain⟨⟨p70,p71,p72,p73⟩,⟨r70,r71⟩,-⟩:=HXX.out _ hq7)
    | (go_at_call 18;(with_reducible refine(ends_n h s a4 G2 c4 G.length HL2.out _ (HXX.out _ hq7).2.2.1 (HXX.out _ hq7).2.2.2.1 (HXX.out _ hq7).2.2.2.2.2 (by have:=hgl;first | omega | (have:=HL2.out;omega))).mono ?_);rintro e w8 ⟨hx8,hb8⟩;rw[HPE.out,HA4.out]at hx8;obtain⟨v8,rfl,hr8⟩:=hx8.out;obtain⟨a28,c28,rfl,-,-,-,hl8⟩:=num_of_row hr8;have HL8:=lh hl8;clear hx8 hr8 hl8;have hq8:=hq7.trans (hb8.mono hq7.size)))
   clear x0 x1 x2 x3 y0 y1 p50 p51 p52 p53 r50 r51 p60 p61 p62 p63 r60 r61 p70 p71 p72 p73 r70 r71;simp only[begsL_len,endsL_len]
   have HYY:Hid (∀w',Below w8.heap.size w8 w'→Below w.heap.size w w'∧HouseAt w' B1 h∧SheetAt w' B2 s∧HouseIn w' h∧SheetIn w' s∧Nums w'.heap.size w' ga G∧Nums w'.heap.size w' a4 G2):=lh fun w' z=>by
    have y:=hq8.trans (z.mono hq8.size);exact⟨HWW.out w' y,HXX.out w' y⟩
   have HZZ:Hid (∀w',Below w8.heap.size w8 w'→Begs w'.heap.size w' a25 (begsL h s G s.cues.length)∧Begs w'.heap.size w' a26 (begsL h s G2 s.cues.length)∧Nums w'.heap.size w' a27 (endsL h s G s.cues.length)∧Nums w'.heap.size w' a28 (endsL h s G2 s.cues.length)):=lh fun w' z=>
    ⟨(((HL5.out.grow hb6).grow hb7).grow hb8).grow z,((HL6.out.grow hb7).grow hb8).grow z,(HL7.out.grow hb8).grow z,HL8.out.grow z⟩
   clear HXX HWW HL5 HL6 HL7 HL8 hb5 hb6 hb7 hb8 hq5 hq6 hq7 hq8;generalize w8=W8 at *;have n1:((s.cues.length:Int)!=(s.cues.length:Int))=false:=bne_self_eq_false _
   go_upto_region 20 with (fail)
   clear n1
   go_loopw [21,129] (fun _ iv wr=>∃(k:Nat),iv=.int .i64 k∧k≤s.cues.length∧Below W8.heap.size W8 wr) (fun _ iv _=>s.cues.length-(intOf iv).toNat)
   case atStart=>exact⟨0,rfl,Nat.zero_le _,br⟩
   case round=>
    obtain⟨k,rfl,hk,hB⟩:=hrel
    by_cases hlt:k<s.cues.length
    ·obtain⟨z1,z2,z3,z4⟩:=HZZ.out _ hB
     obtain⟨f1,t1,rfl,-,u1⟩:=z1 (by rw[begsL_len];omega);obtain⟨f2,t2,rfl,-,u2⟩:=z2 (by rw[begsL_len];omega);obtain⟨f3,t3,rfl,-,u3⟩:=z3 (by rw[endsL_len];omega);obtain⟨f4,t4,rfl,-,u4⟩:=z4 (by rw[endsL_len];omega);obtain⟨a1,a2⟩:=u1 k (by rw[begsL_len];exact hlt);obtain⟨b1,b2⟩:=u2 k (by rw[begsL_len];exact hlt);have a3:=u3 k (by rw[endsL_len];exact hlt);have b3:=u4 k (by rw[endsL_len];exact hlt);rw[begs_at h s G _ k hlt]at a1 a2;rw[begs_at h s G2 _ k hlt]at b1 b2;rw[ends_at h s G _ k hlt]at a3;rw[ends_at h s G2 _ k hlt]at b3;have hl:=later_start (b:=d) HPL.out (by rw[HG2.out];exact HPE.out) (k+1) k (by omega) hlt;rw[HG2.out]at hl;have po:=(plan_sheet HPL.out).2;have q1:=po.starts k hlt;have q2:=po.lens k hlt
     dsimp only at a1 a2 b1 b2
     obtain⟨nme,hnm⟩:=nm ((cg s.cues k).name);obtain⟨x,hx⟩:=nm (ig (planS h s G) k);obtain⟨x2,hx2⟩:=nm (ig (planS h s G2) k);obtain⟨y,hy⟩:=nm (ig (planN h s) k);rw[hnm]at a1 b1;rw[hx]at a2 a3 hl q1;rw[hx2]at b2 b3 hl;rw[hy]at a3 b3 q2;obtain⟨z,hz⟩:=nm (x+y);obtain⟨z2',hz2⟩:=nm (x2+y);rw[hz]at a3;rw[hz2]at b3;have s1:IntKind.i64.wrap (x+d)=x2:=by rw[hl];exact IntWalk.i64_in _ (by omega)
     have s2:IntKind.i64.wrap (z+d)=z2':=by rw[show z+d=z2' by omega];exact IntWalk.i64_in _ (by omega)
     have g1:(nme.toList==nme.toList)=true:=(str_eq nme nme).trans (decide_eq_true rfl);have g2:(nme.toList !=nme.toList)=false:=by show(!(nme.toList==nme.toList))=false;rw[g1];rfl
     have g3:(x2 !=x2)=false:=bne_self_eq_false _;have g4:(z2' !=z2')=false:=bne_self_eq_false _;clear z1 z2 z3 z4 u1 u2 u3 u4 hl po q1 q2 hnm hx hx2 hy hz hz2
     go_upto_region 22 with (fail)
     go_upto_region 24 with (go_quiet (fail))
     have hB9:=hB.trans ((below_drewN (Below.refl wr.heap.size wr) nq).mono hB.size);clear a1 a2 a3 b1 b2 b3 s1 s2 g1 g2 g3 g4;generalize wr.drewN nq=WZ at *
     go_wp2_with fail
     go_roundw
     case rel=>exact⟨k+1,by go_num,by omega,hB9⟩
     case measure=>simp[intOf];omega
    ·obtain rfl:k=s.cues.length:=by omega
     clear hlt hk HZZ;have HCV:=lh fun (G:List Int) k (hk:k<h.sets.length) (pe:planE h s G=0) (oe:ordrB s.cues (planS h s G) (planN h s)=true) (e:(pathP h s.cues (planS h s G) k).2=0)=>path_curve (plan_sheet pe).1 (plan_sheet pe).2 (ordrB_iff.1 oe) hk e;have HLA:=lh (later_at (b:=d) HPL.out (by rw[HG2.out];exact HPE.out) hcl d0 d1 m0 m1);rw[HG2.out]at HLA;obtain⟨L0,E0,hr0⟩:∃L E,atE h s G ms=(L,E):=⟨_,_,rfl⟩;obtain⟨L1,E1,hr1⟩:∃L E,atE h s G2 (ms+d)=(L,E):=⟨_,_,rfl⟩
     have HA0:Hid (∀w',(Below w.heap.size w w'∧HouseAt w' B1 h∧SheetAt w' B2 s∧HouseIn w' h∧SheetIn w' s∧Nums w'.heap.size w' ga G∧Nums w'.heap.size w' a4 G2)→Calls Tryz.prog 15 #[.agg #[.string h.name,.int .i64 h.height,.slice h.sa h.sets.length h.sc,.slice h.ra h.roofs.length h.rc],.agg #[.slice s.ca s.cues.length s.cc,.slice s.pa s.pairs.length s.pc],.slice ga G.length gc,.int .i64 ms] w' fun e w2=>Hid (∃v,e=.returned (.tuple #[v,.int .i64 E0])∧AtV w' w2 v (L0,E0))∧Below w'.heap.size w' w2):=lh fun w' z=>by
      have:=tAt_any h s ga G gc ms w' z.2.2.2.1 z.2.2.2.2.1 z.2.2.2.2.2.1 hgl (by omega) (HCV.out G)
      rwa [hr0]at this
     have HA1':Hid (∀w',(Below w.heap.size w w'∧HouseAt w' B1 h∧SheetAt w' B2 s∧HouseIn w' h∧SheetIn w' s∧Nums w'.heap.size w' ga G∧Nums w'.heap.size w' a4 G2)→Calls Tryz.prog 15 #[.agg #[.string h.name,.int .i64 h.height,.slice h.sa h.sets.length h.sc,.slice h.ra h.roofs.length h.rc],.agg #[.slice s.ca s.cues.length s.cc,.slice s.pa s.pairs.length s.pc],.slice a4 G.length c4,.int .i64 (ms+d)] w' fun e w2=>Hid (∃v,e=.returned (.tuple #[v,.int .i64 E1])∧AtV w' w2 v (L1,E1))∧Below w'.heap.size w' w2):=lh fun w' z=>by
      have:=tAt_any h s a4 G2 c4 (ms+d) w' z.2.2.2.1 z.2.2.2.2.1 z.2.2.2.2.2.2 (by rw[HL2.out];exact hgl) (by omega) (HCV.out G2)
      rwa [hr1,HL2.out]at this
     rw[hr0,hr1]at HLA;have nme:IntKind.i64.wrap ms=ms:=IntWalk.i64_in _ (by omega);have ns:IntKind.i64.wrap (ms+d)=ms+d:=IntWalk.i64_in _ (by omega);clear hr0 hr1 HCV;obtain⟨-,⟨x0,x1,x2,x3⟩,⟨y0,y1⟩,-⟩:=HYY.out _ hB
     by_cases z0:E0=5
     ·have g1:(E0==5)=true:=by rw[z0];rfl
      clear z0
      go_upto_region 27 with (first
       | (go_at_call 15;(with_reducible refine(HA0.out _ (HYY.out _ hB)).mono ?_);rintro e w9 ⟨hx9,hb9⟩;obtain⟨v9,rfl,hr9⟩:=hx9.out;have HR9:=lh hr9;clear hx9 hr9;have hq9:=hB.trans (hb9.mono hB.size);obtain⟨-,⟨p90,p91,p92,p93⟩,⟨r90,r91⟩,-⟩:=HYY.out _ hq9)
       | (go_at_call 15;(with_reducible refine(HA1'.out _ (HYY.out _ hq9)).mono ?_);rintro e w10 ⟨hx10,hb10⟩;obtain⟨v10,rfl,hr10⟩:=hx10.out;have HR10:=lh hr10;clear hx10 hr10;have hq10:=hq9.trans (hb10.mono hq9.size)))
      go_wp2_with fail
      go_ret;exact⟨rfl,(HYY.out _ hq10).1⟩
     have g1:(E0==5)=false:=beq_eq_false_iff_ne.2 z0
     by_cases z1:E1=5
     ·have g2:(E1==5)=true:=by rw[z1];rfl
      clear z0 z1
      go_upto_region 27 with (first
       | (go_at_call 15;(with_reducible refine(HA0.out _ (HYY.out _ hB)).mono ?_);rintro e w9 ⟨hx9,hb9⟩;obtain⟨v9,rfl,hr9⟩:=hx9.out;have HR9:=lh hr9;clear hx9 hr9;have hq9:=hB.trans (hb9.mono hB.size);obtain⟨-,⟨p90,p91,p92,p93⟩,⟨r90,r91⟩,-⟩:=HYY.out _ hq9)
       | (go_at_call 15;(with_reducible refine(HA1'.out _ (HYY.out _ hq9)).mono ?_);rintro e w10 ⟨hx10,hb10⟩;obtain⟨v10,rfl,hr10⟩:=hx10.out;have HR10:=lh hr10;clear hx10 hr10;have hq10:=hq9.trans (hb10.mono hq9.size)))
      go_wp2_with fail
      go_ret;exact⟨rfl,(HYY.out _ hq10).1⟩
     have g2:(E1==5)=false:=beq_eq_false_iff_ne.2 z1
     have HZ:Hid ((E0=0∧(L1,E1)=(L0,E0)∧L0.length=h.sets.length)∨(E0=13∧E1=13)):=lh (by
      rcases HLA.out with q | q | q | q
      ·exact absurd q z0
      ·exact absurd q z1
      ·exact .inl q
      ·exact .inr q)
     clear z0 z1 HLA;rcases HZ.out with ⟨q0,q1,q2⟩ | ⟨q0,q1⟩
     ·cases q1
      subst q0;have HLL:Hid (L0.length≤1100):=lh (by omega);clear q2 HZ
      go_upto_region 27 with (first
       | (go_at_call 15;(with_reducible refine(HA0.out _ (HYY.out _ hB)).mono ?_);rintro e w9 ⟨hx9,hb9⟩;obtain⟨v9,rfl,hr9⟩:=hx9.out;have HR9:=lh hr9;clear hx9 hr9;have hq9:=hB.trans (hb9.mono hB.size);obtain⟨-,⟨p90,p91,p92,p93⟩,⟨r90,r91⟩,-⟩:=HYY.out _ hq9)
       | (go_at_call 15;(with_reducible refine(HA1'.out _ (HYY.out _ hq9)).mono ?_);rintro e w10 ⟨hx10,hb10⟩;obtain⟨v10,rfl,hr10⟩:=hx10.out;have HR10:=lh hr10;clear hx10 hr10;have hq10:=hq9.trans (hb10.mono hq9.size)))
      obtain⟨f5,k5,rfl,-,-,-,hf5⟩:=fr_of_row (HR9.out.1 rfl);obtain⟨f6,k6,rfl,-,-,-,hf6⟩:=fr_of_row (HR10.out.1 rfl);have HF5:=lh (hf5.grow hb10);have HF6:=lh hf6;clear hf5 hf6 HR9 HR10
      go_wp2_with (go_at_call 17;(with_reducible refine(fr_equal f5 f6 L0 L0 _ _ _ HLL.out HF5.out HF6.out HLL.out).mono ?_);rintro e w11 ⟨rfl,hb11⟩;rw[decide_eq_true rfl];have hq11:=hq10.trans (hb11.mono hq10.size))
      go_ret;exact⟨rfl,(HYY.out _ hq11).1⟩
     ·subst q0
      subst q1;clear HZ
      go_upto_region 27 with (first
       | (go_at_call 15;(with_reducible refine(HA0.out _ (HYY.out _ hB)).mono ?_);rintro e w9 ⟨hx9,hb9⟩;obtain⟨v9,rfl,hr9⟩:=hx9.out;have HR9:=lh hr9;clear hx9 hr9;have hq9:=hB.trans (hb9.mono hB.size);obtain⟨-,⟨p90,p91,p92,p93⟩,⟨r90,r91⟩,-⟩:=HYY.out _ hq9)
       | (go_at_call 15;(with_reducible refine(HA1'.out _ (HYY.out _ hq9)).mono ?_);rintro e w10 ⟨hx10,hb10⟩;obtain⟨v10,rfl,hr10⟩:=hx10.out;have HR10:=lh hr10;clear hx10 hr10;have hq10:=hq9.trans (hb10.mono hq9.size)))
      obtain rfl:=HR9.out.2 (show(13:Int)≠0 by decide);obtain rfl:=HR10.out.2 (show(13:Int)≠0 by decide);clear HR9 HR10
      go_wp2_with (go_at_call 17;(refine(fr_equal none none [] [] 0 0 _ (by decide) (fun hl=>absurd hl (Nat.lt_irrefl 0)) (fun hl=>absurd hl (Nat.lt_irrefl 0)) (by decide)).mono ?_);rintro e w11 ⟨rfl,hb11⟩;rw[decide_eq_true rfl];have hq11:=hq10.trans (hb11.mono hq10.size))
      go_ret;exact⟨rfl,(HYY.out _ hq11).1⟩
end
section
open Go.ChangeShapes Go.WideShapes Go.ChangeAt Go.WideMaps Go.WideElems Go.RowKit
open Go.ChangeMaps (open_string shut_string)
theorem u32_bd{n:Int}(h:(Lit.int .u32 n).wf=true):0≤n∧n≤4294967295:=by
 have e:IntKind.u32.min≤n∧n≤IntKind.u32.max:=by simpa[Lit.wf]using h
 exact e
theorem u16_bd{n:Int}(h:(Lit.int .u16 n).wf=true):0≤n∧n≤65535:=by
 have e:IntKind.u16.min≤n∧n≤IntKind.u16.max:=by simpa[Lit.wf]using h
 exact e
theorem timelineLater_lifted(os:Os)(started:os.Started)(H:Type)(enc:TypeId×Value→H):
  ReturnsInHanded {} Tryz.checked os 6 .any (Rows.timelineLaterSpec.pre6 enc Tryz.prog Tryz.f6 Rows.timelineLaterRow.domain false) (Rows.timelineLaterSpec.post enc Tryz.prog Tryz.f6 false true false false):=by
 refine returnsInHanded_of_change (C:=Tryz.checked) own started (by kernel_rfl) Tryz.func6
  (ChangeSpec.witness6 (enc:=enc) (C:=Tryz.checked) false ⟨#[],#[.agg #[.string ⟨#[]⟩,.int .i64 0,.slice none 0 0,.slice none 0 0],.agg #[.slice none 0 0,.slice none 0 0],.slice none 0 0,.int .u16 0,.int .u32 0],[]⟩ 8 (by kernel_rfl) (by kernel_rfl) (by kernel_rfl) (by kernel_rfl)) ?_
 intro W base args ds gs before hval0 hW hcnd _;have hval:∀(j:Nat) t v,Tryz.f6.params[j]? =some t→args[j]? =some v→Value.okWide Tryz.prog W .any base t v:=hval0;have hW':=hW;obtain⟨p,q,hA0,hV,rfl,hfz,hnd⟩:=hW;have hA:DataW.TrodAll enc Tryz.prog W 0 (fun _=>true) true Tryz.f6.params.toList args.toList ds p:=hA0;rw[Tryz.params6]at hA hval;obtain⟨v0,vs0,d0,ds0,p0,q0,hargs,rfl,rfl,h0,r0⟩:=trodAll_cons hA;obtain⟨v1,vs1,d1,ds1,p1,q1,rfl,rfl,rfl,h1,r1⟩:=trodAll_cons r0;obtain⟨v2,vs2,d2,ds2,p2,q2,rfl,rfl,rfl,h2,r2⟩:=trodAll_cons r1;obtain⟨v3,vs3,d3,ds3,p3,q3,rfl,rfl,rfl,h3,r3⟩:=trodAll_cons r2;obtain⟨v4,vs4,d4,ds4,p4,q4,rfl,rfl,rfl,h4,r4⟩:=trodAll_cons r3;obtain⟨rfl,rfl,rfl⟩:=trodAll_nil r4;obtain rfl:args=#[v0,v1,v2,v3,v4]:=by cases args;simp_all
 obtain⟨rfl,rfl⟩:=trodVars_none hV;obtain⟨h,rfl,hS0⟩:=open_house (hval 0 25 v0 rfl rfl) h0;obtain⟨s,rfl,hS1⟩:=open_sheet (hval 1 29 v1 rfl rfl) h1;obtain⟨ga,gc,g,rfl,hc2,hm2,hn2,hw2,hS2⟩:=open_numsA (hval 2 30 v2 rfl rfl) h2;obtain⟨d,rfl,rfl,rfl,w3⟩:=open_int Tryz.underlying61 (hval 3 61 v3 rfl rfl) h3;obtain⟨m,rfl,rfl,rfl,w4⟩:=open_int Tryz.underlying62 (hval 4 62 v4 rfl rfl) h4;clear hA0 hval0;simp only[List.append_nil]at hW';refine(lawlater_law h s ga g gc hn2 d m (u16_bd w3).1 (u16_bd w3).2 (u32_bd w4).1 (u32_bd w4).2 W hS0 hS1 hS2).mono fun e W' ⟨he,hb⟩=>?_;subst he;exact⟨_,rfl,law_post laidOut (by kernel_rfl) hW' rfl rfl (by kernel_rfl) Tryz.underlying4 hb⟩

theorem timelineLater_holds:Rows.TimelineLaterSaid:=
 OpenClaim.holds_of_wide 6 Tryz.f6 rfl rfl rfl rfl rfl rfl rfl ⟨rfl,rfl,rfl,rfl,rfl⟩ rfl rfl rfl rfl rfl (by kernel_rfl) Tryz.func6 (by kernel_rfl)
  (of_decide_eq_true (by kernel_rfl)) (by unfold Func.isWrapper;first | (rw[if_pos (by decide+kernel)];kernel_rfl) | (rw[if_neg (by decide+kernel)];exact⟨rfl,rfl⟩))
  (fun os started H enc _=>timelineLater_lifted os started H enc)
end
end Go.Proofs.YtebofaenlhhkaaaGreat
