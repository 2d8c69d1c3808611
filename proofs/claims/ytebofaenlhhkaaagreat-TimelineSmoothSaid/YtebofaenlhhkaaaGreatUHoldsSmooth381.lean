/-
  PLAIN: the path of a set is smooth, and stays between Low and High; a set that no cue moves stays at High.
-/
import Derived.Test.YtebofaenlhhkaaaGreatU30
namespace Go.Proofs.YtebofaenlhhkaaaGreat
set_option maxRecDepth 100000
set_option maxHeartbeats 80000000
set_option linter.unusedSimpArgs false
section
open Go.RowKit
theorem va_mid{lo hi z d v:Rat}{up:Bool}(a1:lo≤z)(a2:z≤hi)(a3:lo≤vaQ z up d)(a4:vaQ z up d≤hi)(r1:0≤v)(r2:v≤d):lo≤vaQ z up v∧vaQ z up v≤hi:=by
 unfold vaQ at *
 cases up
 ·simp only[Bool.false_eq_true,if_false]at *
  constructor<;>grind
 ·simp only[if_true]at *
  constructor<;>grind
theorem pos_range{h:HouseR}{s:SheetR}{S:List Int}{k:Nat}(hok:SheetOK h s)(hk:k<h.sets.length)(x:Rat):∀n,n≤s.cues.length→((hg h.sets k).low:Rat)≤posTo h s.cues S k x n∧posTo h s.cues S k x n≤((hg h.sets k).high:Rat)
 | 0,_=>by
  have t:=(highs_ok hok.house).2 k (by rw[(highs_ok hok.house).1];exact hk);have e:ig (highsL h) k=(hg h.sets k).high:=trim_high (C:=s.cues) hk;rw[e]at t;exact⟨Rat.intCast_le_intCast.2 t.1,Rat.le_refl⟩
 | n+1,hn=>by
  have nl:n<s.cues.length:=hn
  by_cases g:goesK h s.cues k n∧((ig S n:Int):Rat)/1000≤x
  ·rw[pos_go g.1 g.2]
   have mc:=(way_move hok hk nl g.1).1;obtain⟨r1,r2,_⟩:=mc.up.range (x-((ig S n:Int):Rat)/1000);rw[mc.first]at r1;rw[mc.last.1]at r2;have we:=way_end nl hok hk g.1;have ht:=trim_ok hok.house (fun j hj=>(hok.each j hj).1);have t1:=(ht n (by omega)).2 k (by rw[(ht n (by omega)).1];exact hk);have t2:=(ht (n+1) hn).2 k (by rw[(ht (n+1) hn).1];exact hk);have a1:=Rat.intCast_le_intCast.2 t1.1;have a2:=Rat.intCast_le_intCast.2 t1.2;have a3:=Rat.intCast_le_intCast.2 t2.1;have a4:=Rat.intCast_le_intCast.2 t2.2;rw[←we]at a3 a4;exact va_mid a1 a2 a3 a4 r1 r2
  ·rw[pos_stay g]
   exact pos_range hok hk x n (by omega)
theorem pos_none{h:HouseR}{C:List CueR}{S:List Int}{k:Nat}(hn:∀i,i<C.length→mvB (cg C i).moves (hg h.sets k).name=false)(x:Rat):∀n,n≤C.length→posTo h C S k x n=((hg h.sets k).high:Rat)
 | 0,_=>rfl
 | n+1,hl=>by
  rw[pos_stay (fun q=>by have:=q.1.1;rw[hn n hl]at this;cases this)];exact pos_none hn x n (by omega)
theorem asc_from{L:List QP}(h:Asc L)(h0:0<L.length)(z:0≤L[0].f):∀i (hi:i<L.length),0≤L[i].f
 | 0,_=>z
 | i+1,hi=>by
  have a:=asc_from h h0 z i (by omega);have b:=h i hi
  grind
structure SmOK(h:HouseR)(s:SheetR)(k:Nat)(L:List Pc):Prop where
 ok:CurveOK L
 nn:∀i,i<L.length→0≤(pcg L i).f0
 sm:(smoothP L).2=0→(smoothP L).1=true
 lo:0≤(hg h.sets k).low∧(hg h.sets k).low≤1048576∧0≤(hg h.sets k).high∧(hg h.sets k).high≤1048576
 val:∀ms:Int,0≤ms→ms≤4294967295→(atP L (lowN ms 1000,lowD ms 1000)).2.2=0→vF ((atP L (lowN ms 1000,lowD ms 1000)).1,(atP L (lowN ms 1000,lowD ms 1000)).2.1)=true∧(hg h.sets k).low*(atP L (lowN ms 1000,lowD ms 1000)).2.1≤(atP L (lowN ms 1000,lowD ms 1000)).1*1∧(atP L (lowN ms 1000,lowD ms 1000)).1*1≤(hg h.sets k).high*(atP L (lowN ms 1000,lowD ms 1000)).2.1∧
  ((∀i,i<s.cues.length→mvB (cg s.cues i).moves (hg h.sets k).name=false)→(atP L (lowN ms 1000,lowD ms 1000)).1=(hg h.sets k).high∧(atP L (lowN ms 1000,lowD ms 1000)).2.1=1)
theorem smooth_facts{h:HouseR}{s:SheetR}{G:List Int}{k:Nat}(hk:k<h.sets.length)(e:(pathE h s G (hg h.sets k).name).2=0):SmOK h s k (pathE h s G (hg h.sets k).name).1:=by
 by_cases pe:planE h s G=0
 case neg=>unfold pathE at e;rw[if_neg pe]at e;exact absurd e pe
 obtain⟨hok,hp⟩:=plan_sheet pe;have hf:=find_one hok.house hk
 have e2:ordrB s.cues (planS h s G) (planN h s)=true∧pathE h s G (hg h.sets k).name=pathP h s.cues (planS h s G) k:=by
  unfold pathE at e⊢;rw[if_pos pe,hf,if_neg (by omega)]at e⊢
  by_cases o:ordrB s.cues (planS h s G) (planN h s)=true
  ·rw[if_pos o];exact⟨o,rfl⟩
  ·rw[if_neg o]at e;cases e
 obtain⟨o,e3⟩:=e2;rw[e3]at e⊢;have ho:=ordrB_iff.1 o;have cv:=path_curve hok hp ho hk e
 have pt:pathP h s.cues (planS h s G) k=pathTo h s.cues (planS h s G) k s.cues.length∧(pathTo h s.cues (planS h s G) k s.cues.length).2=0:=by
  unfold pathP at e⊢
  by_cases a:(pathTo h s.cues (planS h s G) k s.cues.length).2=0
  case neg=>rw[if_neg a]at e;exact absurd e a
  rw[if_pos a]at e⊢
  by_cases l:200<(pathTo h s.cues (planS h s G) k s.cues.length).1.length
  ·rw[if_pos l]at e;cases e
  ·rw[if_neg l];exact⟨rfl,a⟩
 obtain⟨pi,a⟩:=pt;obtain⟨⟨f,pv,_⟩,hat⟩:=path_inv hok hp ho hk _ (Nat.le_refl _) a;rw[←pi]at pv hat;have n1:=cv.pos;obtain⟨c,r,hh⟩:=pv.head;have h0:0<(qL (pathP h s.cues (planS h s G) k).1).length:=by rw[qL_len];omega
 have g:=qL_get (pathP h s.cues (planS h s G) k).1 0 h0;have g0:(qL (pathP h s.cues (planS h s G) k).1)[0]=⟨0,(hg h.sets k).high,0,c⟩:=by simp only[hh];rfl
 rw[g0]at g;have v:=cv.val 0 (by omega);have g':=g.symm;unfold qp at g';rw[QP.mk.injEq]at g';have b0:=frq_inj (b:=(0,1)) v.vb vF_zero (by rw[g'.2.2.1,frq_zero]);rw[Prod.mk.injEq]at b0;have hs:=house_set hok.house hk
 have hl:0≤(hg h.sets k).low∧(hg h.sets k).low≤(hg h.sets k).high∧(hg h.sets k).high≤1048576:=by
  have t:=(highs_ok hok.house).2 k (by rw[(highs_ok hok.house).1];exact hk);have e:ig (highsL h) k=(hg h.sets k).high:=trim_high (C:=s.cues) hk;rw[e]at t;have:=hs.1.low;have:=hs.2;have:=(houseB_iff.1 hok.house).2.2.1;omega
 refine⟨cv,fun i hi=>?_,smooth_yes cv b0 (fun i hi=>?_),⟨hl.1,by omega,by omega,hl.2.2⟩,fun ms m0 m1 e=>?_⟩
 ·have q:=asc_from pv.good.asc h0 (by rw[g0];exact Rat.le_refl) i (by rw[qL_len];exact hi)
  rw[qL_f]at q;rw[←frq_zero]at q;have:=(frq_le (a:=(0,1)) (b:=((pcg (pathP h s.cues (planS h s G) k).1 i).f0,(pcg (pathP h s.cues (planS h s G) k).1 i).f1)) (by decide) (den_pos (cv.val i hi).vf)).1 q;have e:0*(pcg (pathP h s.cues (planS h s G) k).1 i).f1≤(pcg (pathP h s.cues (planS h s G) k).1 i).f0*1:=this;omega
 ·have q:=pv.good.joins i (by rw[qL_len];exact hi)
  rw[qL_get,qL_get]at q;exact q
 ·have vt:=sec_vF m0 (by omega)
  have vv:=atP_valid cv vt e;have fv:=atP_ok cv vt e
  have x0:(0:Rat)≤fr (lowN ms 1000,lowD ms 1000):=by
   rw[frq_low ms 1000 (by decide)];have:=rat_div_le m0
   grind
  rw[hat _ x0]at fv;obtain⟨r1,r2⟩:=pos_range (S:=planS h s G) hok hk (fr (lowN ms 1000,lowD ms 1000)) s.cues.length (Nat.le_refl _);rw[←fv]at r1 r2;rw[←frq_one]at r1 r2;refine⟨vv,(frq_le (a:=((hg h.sets k).low,1)) (by show(0:Int)<1;decide) (den_pos vv)).1 r1,(frq_le (b:=((hg h.sets k).high,1)) (den_pos vv) (by show(0:Int)<1;decide)).1 r2,fun hn=>?_⟩;rw[pos_none hn _ _ (Nat.le_refl _)]at fv;have:=frq_inj (b:=((hg h.sets k).high,1)) vv (valid_one (by omega) (by omega)) (by rw[fv,frq_one]);rw[Prod.mk.injEq]at this;exact this
end
section
open Go.RowKit Go.Shelf
attribute [local go_sem] Oper.semAt_some
theorem rmoves_any(q:CueR)(s:ByteArray)(w:World)(hm:Movs w.heap.size w q.ma q.moves)(hl:q.moves.length≤1000):
  Calls Tryz.prog 37 #[.agg #[.string q.name,.string q.after,.int .i64 q.link,.int .i64 q.delay,.slice q.ma q.moves.length q.mc,.int .i64 q.crew,.int .i64 q.power],.string s] w fun e w'=>e=.returned (.tuple #[.agg #[.string (mvO q.moves s).name,.int .i64 (mvO q.moves s).to,.int .i64 (mvO q.moves s).spd,.int .i64 (mvO q.moves s).rise,.int .i64 (mvO q.moves s).fall],.bool (mvB q.moves s)])∧Below w.heap.size w w':=by
 have hb0:Below w.heap.size w ((w.alloc (LCu q)).alloc (.cells #[.string ⟨#[]⟩,.int .i64 0,.int .i64 0,.int .i64 0,.int .i64 0] 94)):=(below_new w _).alloc (by simp) _;have hq:=(CueAt.new w q 86 _ rfl).carry (below_new _ (.cells #[.string ⟨#[]⟩,.int .i64 0,.int .i64 0,.int .i64 0,.int .i64 0] 94));have hz:=ZMv.new (w.alloc (LCu q));rw[show(w.alloc (LCu q)).heap.size=w.heap.size+1 by simp]at hz;have HM:=lh (hm.grow hb0);clear hm
 go_enter Tryz.func37,Tryz.ntmps37
 go_upto_region 2 with (fail)
 generalize ((w.alloc (LCu q)).alloc (.cells #[.string ⟨#[]⟩,.int .i64 0,.int .i64 0,.int .i64 0,.int .i64 0] 94))=W0 at *;obtain⟨B,hB⟩:=nm (w.heap.size+1);have HBL:Hid (w.heap.size≤B):=lh (by omega);rw[hB]at hz⊢;clear hB;have hzz:=hz.some;obtain⟨q0,q1,q2,q3,q4,q5,q6⟩:=hq;obtain⟨⟨z0,z1,z2,z3,z4⟩,hff⟩:=hz;have hqb:=wl q0;have hzb:=wl z0;obtain⟨ma,hma⟩:=nm (q.ma);rw[hma]at HM q4;clear hma
 go_loop [6] (fun i=>∃k:Nat,k≤q.moves.length∧i=.int .i64 k∧Hid (∀j,j<k→decide ((mg q.moves j).name=s)=false)) (fun i=>q.moves.length-(intOf i).toNat)
 case atStart=>exact⟨0,Nat.zero_le _,rfl,lh (fun _ h=>absurd h (Nat.not_lt_zero _))⟩
 case round=>
  obtain⟨k,hk,rfl,HA⟩:=hrel
  by_cases hlt:k<q.moves.length
  ·obtain⟨bm,off,rfl,hbm,hcm⟩:=HM.out (by omega)
   obtain⟨c0,c1,c2,c3,c4⟩:=hcm k hlt;have hs:=str_eq (mg q.moves k).name s;clear hcm
   by_cases hx:(mg q.moves k).name=s
   ·have HY:=lh (mv_yes (mov_first_hit q.moves (fun y=>decide (y.name=s)) k hlt (decide_eq_true hx) HA.out))
    rw[decide_eq_true hx]at hs;clear hx
    go_wp2_with fail
    show bodyPost _ _ _ Exit.ret _ (setFrom W0 B 0 [.string (mg q.moves k).name,.int .i64 (mg q.moves k).to,.int .i64 (mg q.moves k).spd,.int .i64 (mg q.moves k).rise,.int .i64 (mg q.moves k).fall]);have hf:=mv_from (mg q.moves k) hzz;have hbb:=below_from (m:=w.heap.size) (b:=B) (W:=w) [.string (mg q.moves k).name,.int .i64 (mg q.moves k).to,.int .i64 (mg q.moves k).spd,.int .i64 (mg q.moves k).rise,.int .i64 (mg q.moves k).fall] W0 0 hb0 HBL.out
    try dsimp only[zMv]at hf hbb
    generalize setFrom W0 B 0 [.string (mg q.moves k).name,.int .i64 (mg q.moves k).to,.int .i64 (mg q.moves k).spd,.int .i64 (mg q.moves k).rise,.int .i64 (mg q.moves k).fall]=WF at *;obtain⟨f0,f1,f2,f3,f4⟩:=hf
    try dsimp only[zMv]at f0 f1 f2 f3 f4
    refine bodyPost_ret (v:=.tuple #[.agg #[.string (mg q.moves k).name,.int .i64 (mg q.moves k).to,.int .i64 (mg q.moves k).spd,.int .i64 (mg q.moves k).rise,.int .i64 (mg q.moves k).fall],.bool true]) (by simp[results,Tryz.results37,go_sem,f0,f1,f2,f3,f4]) rfl ⟨by rw[HY.out.1,HY.out.2],hbb⟩
   ·rw[decide_eq_false hx]at hs
    have HB':Hid (∀j,j<k+1→decide ((mg q.moves j).name=s)=false):=lh fun j hj=>by
     rcases Nat.lt_or_ge j k with l | l
     ·exact HA.out j l
     ·obtain rfl:j=k:=by omega
      exact decide_eq_false hx
    clear hx
    go_wp2_with fail
    go_round
    case rel=>exact⟨k+1,by omega,by go_num,HB'⟩
    case measure=>simp[intOf];omega
  ·obtain rfl:k=q.moves.length:=by omega
   have HY:=lh (mv_no (mov_first_miss q.moves (fun y=>decide (y.name=s)) HA.out))
   go_wp2_with fail
   show bodyPost _ _ _ Exit.ret _ (setFrom W0 B 0 [.string ⟨#[]⟩,.int .i64 0,.int .i64 0,.int .i64 0,.int .i64 0]);have hf:=mv_from zMv hzz;have hbb:=below_from (m:=w.heap.size) (b:=B) (W:=w) [.string ⟨#[]⟩,.int .i64 0,.int .i64 0,.int .i64 0,.int .i64 0] W0 0 hb0 HBL.out
   try dsimp only[zMv]at hf hbb
   generalize setFrom W0 B 0 [.string ⟨#[]⟩,.int .i64 0,.int .i64 0,.int .i64 0,.int .i64 0]=WF at *;obtain⟨f0,f1,f2,f3,f4⟩:=hf
   try dsimp only[zMv]at f0 f1 f2 f3 f4
   refine bodyPost_ret (v:=.tuple #[.agg #[.string ⟨#[]⟩,.int .i64 0,.int .i64 0,.int .i64 0,.int .i64 0],.bool false]) (by simp[results,Tryz.results37,go_sem,f0,f1,f2,f3,f4]) rfl ⟨by rw[HY.out.1,HY.out.2];rfl,hbb⟩
theorem cue_indexFuncM(a:Option Addr)(L:List (CueR))(cap n₀ g:Nat)(cb:Array Value)(p:CueR→Bool)(w:World)(eg:∀args w,(callFunc g args).run Tryz.prog w=.ok (.enter g args) w)
  (hl:L.length≤1100) (hn₀:n₀≤w.heap.size) (hI:Cues n₀ w a L) (hp:∀W i,i<L.length→Below n₀ w W→Calls Tryz.prog g (#[.agg #[.string (cg L i).name,.string (cg L i).after,.int .i64 (cg L i).link,.int .i64 (cg L i).delay,.slice (cg L i).ma (cg L i).moves.length (cg L i).mc,.int .i64 (cg L i).crew,.int .i64 (cg L i).power]]++cb) W fun e w'=>e=.returned (.bool (p (cg L i)))∧Below W.heap.size W w'):
  Calls Tryz.prog 65 #[.slice a L.length cap,.func (.func g) #[] cb] w fun e w'=>e=.returned (.int .i64 (cue_first L p))∧Below w.heap.size w w':=by
 have HI:=lh hI;clear hI;have HP:=lh hp;clear hp
 go_enter Tryz.func65,Tryz.ntmps65
 go_wp2
 go_loopw [8] (fun i wr=>∃k:Nat,k≤L.length∧i=.int .i64 k∧Below w.heap.size w wr∧Hid (∀j,j<k→p (cg L j)=false)) (fun i _=>L.length-(intOf i).toNat)
 case atStart=>exact⟨0,Nat.zero_le _,rfl,br,lh (fun _ h=>absurd h (Nat.not_lt_zero _))⟩
 case round=>
  obtain⟨k,hk,rfl,hB,HA⟩:=hrel
  by_cases hlt:k<L.length
  ·obtain⟨b,off,rfl,hb,hc⟩:=HI.out (by omega)
   obtain⟨c0,c1,c2,c3,c4,c5,c6⟩:=hc k hlt;have d0:=(hB.cell (p:=⟨b,off+k*7,none⟩) (show b<w.heap.size by omega)).trans c0;have d1:=(hB.cell (p:=⟨b,off+k*7+1,none⟩) (show b<w.heap.size by omega)).trans c1;have d2:=(hB.cell (p:=⟨b,off+k*7+2,none⟩) (show b<w.heap.size by omega)).trans c2;have d3:=(hB.cell (p:=⟨b,off+k*7+3,none⟩) (show b<w.heap.size by omega)).trans c3;have d4:=(hB.cell (p:=⟨b,off+k*7+4,none⟩) (show b<w.heap.size by omega)).trans c4;have d5:=(hB.cell (p:=⟨b,off+k*7+5,none⟩) (show b<w.heap.size by omega)).trans c5;have d6:=(hB.cell (p:=⟨b,off+k*7+6,none⟩) (show b<w.heap.size by omega)).trans c6;clear c0 c1 c2 c3 c4 c5 c6 hc;have HC:=lh (show Calls Tryz.prog g (#[.agg #[.string (cg L k).name,.string (cg L k).after,.int .i64 (cg L k).link,.int .i64 (cg L k).delay,.slice (cg L k).ma (cg L k).moves.length (cg L k).mc,.int .i64 (cg L k).crew,.int .i64 (cg L k).power]]++cb) wr _ from HP.out wr k hlt (hB.mono hn₀));obtain⟨bv,hbv⟩:=nm (p (cg L k));rw[hbv]at HC
   cases bv
   ·have HB:Hid (∀j,j<k+1→p (cg L j)=false):=lh fun j hj=>by
     rcases Nat.lt_or_ge j k with l | l
     ·exact HA.out j l
     ·obtain rfl:j=k:=by omega
      exact hbv
    clear hbv
    go_wp2_with ((with_reducible refine HC.out.mono ?_);rintro e w1 ⟨rfl,hb1⟩)
    go_roundw
    case rel=>exact⟨k+1,by omega,by go_num,hB.trans (hb1.mono hB.size),HB⟩
    case measure=>simp[intOf];omega
   ·have H:=lh (cue_first_hit L p k hlt hbv HA.out)
    clear hbv
    go_wp2_with ((with_reducible refine HC.out.mono ?_);rintro e w1 ⟨rfl,hb1⟩)
    go_ret;exact⟨ret_int H.out.symm,hB.trans (hb1.mono hB.size)⟩
  ·obtain rfl:k=L.length:=by omega
   have H:=lh (cue_first_miss L p HA.out)
   go_wp2
   go_ret;exact⟨ret_int H.out.symm,hB⟩

theorem cue_containsFuncM(a:Option Addr)(L:List (CueR))(cap n₀ g:Nat)(cb:Array Value)(p:CueR→Bool)(w:World)(eg:∀args w,(callFunc g args).run Tryz.prog w=.ok (.enter g args) w)
  (hl:L.length≤1100) (hn₀:n₀≤w.heap.size) (hI:Cues n₀ w a L) (hp:∀W i,i<L.length→Below n₀ w W→Calls Tryz.prog g (#[.agg #[.string (cg L i).name,.string (cg L i).after,.int .i64 (cg L i).link,.int .i64 (cg L i).delay,.slice (cg L i).ma (cg L i).moves.length (cg L i).mc,.int .i64 (cg L i).crew,.int .i64 (cg L i).power]]++cb) W fun e w'=>e=.returned (.bool (p (cg L i)))∧Below W.heap.size W w'):
  Calls Tryz.prog 35 #[.slice a L.length cap,.func (.func g) #[] cb] w fun e w'=>e=.returned (.bool (cue_any L p))∧Below w.heap.size w w':=by
 have HC:=lh (cue_indexFuncM a L cap n₀ g cb p w eg hl hn₀ hI hp);clear hI hp eg
 go_enter Tryz.func35,Tryz.ntmps35
 go_wp2_with (go_at_call 65;(with_reducible refine HC.out.mono ?_);rintro e w1 ⟨rfl,hb1⟩)
 go_ret;exact⟨rfl,hb1⟩

theorem ent_smooth(args:Array Value)(w:World):(callFunc 36 args).run Tryz.prog w=.ok (.enter 36 args) w:=enters_of Tryz.func36 (by kernel_rfl) rfl args w
theorem ask_smooth(q:CueR)(b:Nat)(nme:ByteArray)(w:World)(hs:w.cell? ⟨b,0,none⟩=some (.string nme))(hm:Movs w.heap.size w q.ma q.moves)(hl:q.moves.length≤1000):
  Calls Tryz.prog 36 #[.agg #[.string q.name,.string q.after,.int .i64 q.link,.int .i64 q.delay,.slice q.ma q.moves.length q.mc,.int .i64 q.crew,.int .i64 q.power],.pointer (some ⟨b,0,none⟩)] w fun e w'=>e=.returned (.bool (mvB q.moves nme))∧Below w.heap.size w w':=by
 have hb0:=below_new w (LCu q);have hq:=CueAt.new w q 86 _ rfl;have hlt:=wl hs;have hs0:=(hb0.cell (p:=⟨b,0,none⟩) hlt).trans hs;have HM:=lh (hm.grow hb0);clear hm hs
 go_enter Tryz.func36,Tryz.ntmps36
 go_upto_region 1 with (fail)
 generalize w.alloc (LCu q)=W0 at *;obtain⟨q0,q1,q2,q3,q4,q5,q6⟩:=hq;have hqb:=wl q0;have hsb:=wl hs0
 go_wp2_with (go_at_call 37;(with_reducible refine(rmoves_any q nme _ HM.out hl).mono ?_);rintro e w1 ⟨rfl,hb1⟩)
 go_ret;exact⟨rfl,(hb0.trans (hb1.mono hb0.size)).alloc (by have:=hb0.size;have:=hb1.size;omega) _⟩
end
section
open Go.RowKit Go.Shelf
theorem eql_U2(h l h' l':Int)(w:World):(binOp .eql 141 (.agg #[.int .u64 h,.int .u64 l]) (.agg #[.int .u64 h',.int .u64 l'])).run Tryz.prog w=.ok (.bool ((h==h')&&(l==l'))) w:=by
 simp[go_sem]
 by_cases x:h=h'
 ·by_cases y:l=l'
  ·simp[x,y]
  ·simp[x,y]
 ·simp[x]
theorem rvalid02_any(n d:Int)(w:World):
  Calls Tryz.prog 99 #[.agg #[.int .i64 n,.int .i64 d]] w fun e w'=>e=.returned (.bool (validF n d))∧Below w.heap.size w w':=by
 have hN:∀h:¬(1≤d∧d≤1152921504606846976∧-1152921504606846976≤n∧n≤1152921504606846976),validF n d=false:=fun h=>by
  cases e:validF n d
  ·rfl
  ·exact absurd ((validF_iff _ _).1 e) (fun x=>h ⟨x.1,x.2.1,x.2.2.1,x.2.2.2.1⟩)
 by_cases c1:d<1
 ·have HR:=lh (hN (by omega))
  rw[HR.out];have g1:=decide_eq_true c1;clear c1 hN
  go_enter Tryz.func99,Tryz.ntmps99
  go_wp2_with fail
  go_ret;exact⟨rfl,below_new _ _⟩
 by_cases c2:1152921504606846976<d
 ·have HR:=lh (hN (by omega))
  rw[HR.out];have g1:=decide_eq_false c1;have g2:=decide_eq_true c2;clear c1 c2 hN
  go_enter Tryz.func99,Tryz.ntmps99
  go_wp2_with fail
  go_ret;exact⟨rfl,below_new _ _⟩
 by_cases c3:n< -1152921504606846976
 ·have HR:=lh (hN (by omega))
  rw[HR.out];have g1:=decide_eq_false c1;have g2:=decide_eq_false c2;have g3:=decide_eq_true c3;clear c1 c2 c3 hN
  go_enter Tryz.func99,Tryz.ntmps99
  go_wp2_with fail
  go_ret;exact⟨rfl,below_new _ _⟩
 by_cases c4:1152921504606846976<n
 ·have HR:=lh (hN (by omega))
  rw[HR.out];have g1:=decide_eq_false c1;have g2:=decide_eq_false c2;have g3:=decide_eq_false c3;have g4:=decide_eq_true c4;clear c1 c2 c3 c4 hN
  go_enter Tryz.func99,Tryz.ntmps99
  go_wp2_with fail
  go_ret;exact⟨rfl,below_new _ _⟩
 obtain⟨na,hna⟩:=nm ((n.natAbs:Int):Int);have eg:Int.gcd na d=Int.gcd n d:=by rw[←hna];simp[Int.gcd]
 obtain⟨G,hG⟩:=nm ((Int.gcd n d:Int):Int)
 have HR:Hid (validF n d=(G==1)):=lh (by
  have a1:decide (1≤d)=true:=dT (by omega);have a2:decide (d≤1152921504606846976)=true:=dT (by omega);have a3:decide (-1152921504606846976≤n)=true:=dT (by omega);have a4:decide (n≤1152921504606846976)=true:=dT (by omega);unfold validF;rw[a1,a2,a3,a4,←hG,Bool.eq_iff_iff]
  simp
  omega)
 rw[HR.out];have Z1:Hid (∀w:World,Calls Tryz.prog 67 #[.int .i64 n] w fun e w'=>e=.returned (.int .u64 na)∧w=w'):=lh fun w=>by have:=rsize_any n (by omega) (by omega) w;rwa [hna]at this
 have Z2:Hid (∀w:World,Calls Tryz.prog 67 #[.int .i64 d] w fun e w'=>e=.returned (.int .u64 d)∧w=w'):=lh fun w=>by have:=rsize_any d (by omega) (by omega) w;rwa [show(d.natAbs:Int)=d by omega]at this
 have HG:Hid (∀w:World,Calls Tryz.prog 105 #[.agg #[.int .u64 0,.int .u64 na],.agg #[.int .u64 0,.int .u64 d]] w fun e w'=>e=.returned (.agg #[.int .u64 0,.int .u64 G])∧Below w.heap.size w w'):=lh fun w=>by
  have:=rgcd_any na d (by omega) (by omega) (by omega) (by omega) w
  rwa [eg,hG]at this
 have g1:=decide_eq_false c1;have g2:=decide_eq_false c2;have g3:=decide_eq_false c3;have g4:=decide_eq_false c4;obtain⟨q,hq⟩:=nm ((G==1));have E1:∀w,(binOp .eql 141 (.agg #[.int .u64 0,.int .u64 G]) (.agg #[.int .u64 0,.int .u64 1])).run Tryz.prog w=.ok (.bool q) w:=fun w=>by rw[eql_U2,←hq];rfl
 rw[hq];clear c1 c2 c3 c4 hN hna eg hG HR hq
 go_enter Tryz.func99,Tryz.ntmps99
 go_upto_region 3 with (fail)
 have k0:(w.alloc (.cells #[.int .i64 n,.int .i64 d] 49)).cell? ⟨w.heap.size,0,none⟩=some (.int .i64 n):=by simp
 have k1:(w.alloc (.cells #[.int .i64 n,.int .i64 d] 49)).cell? ⟨w.heap.size,1,none⟩=some (.int .i64 d):=by simp
 have hz:w.heap.size<(w.alloc (.cells #[.int .i64 n,.int .i64 d] 49)).heap.size:=by simp
 have hW:=below_new w (.cells #[.int .i64 n,.int .i64 d] 49);generalize w.alloc (.cells #[.int .i64 n,.int .i64 d] 49)=W0 at *;have HS0:Hid (∀w',Below W0.heap.size W0 w'→W0.heap.size≤w'.heap.size∧w'.cell? ⟨w.heap.size,0,none⟩=some (.int .i64 n)∧w'.cell? ⟨w.heap.size,1,none⟩=some (.int .i64 d)):=lh fun w' h=>⟨h.size,(h.cell (p:=⟨w.heap.size,0,none⟩) hz).trans k0,(h.cell (p:=⟨w.heap.size,1,none⟩) hz).trans k1⟩;clear k0 k1;refine wp_region_held_drew (S:=fun w'=>W0.heap.size≤w'.heap.size∧w'.cell? ⟨w.heap.size,0,none⟩=some (.int .i64 n)∧w'.cell? ⟨w.heap.size,1,none⟩=some (.int .i64 d)) (by kernel_rfl) (HS0.out _ (br).drew) (fun hHeld=>?_);have hB0:=(Below.refl W0.heap.size W0).drew;obtain⟨w0,hw0⟩:=nm (W0.drew);simp only[hw0]at hB0 hHeld⊢;clear hw0;refine tkB 0 ?_;simp only[Act.put,s_1,s_2,s_3,s_4,s_6];refine tkB 1 ?_;simp only[Act.put,s_1,s_2,s_3,s_4,s_5,s_6];refine wpAnyH_takeC (i:=2) (oi:=_) (v:=.int .u64 na) rfl (by kernel_rfl) (by kernel_rfl) (by kernel_rfl) (fun _ _ _ h=>h) ⟨by rfl,67,#[.int .i64 n],?_,fun w _=>Z1.out w⟩ (by assumption) ?_
 ·(intro w hSw;(try dsimp only at hSw);go_split_ands;(try simp only[s_4,s_5,s_6]);go_simp;try with_reducible rfl)
 simp only[Act.put,s_1,s_2,s_3,s_4,s_5,s_6];refine tkB 3 ?_;simp only[Act.put,s_1,s_2,s_3,s_4,s_5,s_6];refine tkB 4 ?_;simp only[Act.put,s_1,s_2,s_3,s_4,s_5,s_6];refine tkB 5 ?_;simp only[Act.put,s_1,s_2,s_3,s_4,s_5,s_6];refine wpAnyH_takeC (i:=6) (oi:=_) (v:=.int .u64 d) rfl (by kernel_rfl) (by kernel_rfl) (by kernel_rfl) (fun _ _ _ h=>h) ⟨by rfl,67,#[.int .i64 d],?_,fun w _=>Z2.out w⟩ (by assumption) ?_
 ·(intro w hSw;(try dsimp only at hSw);go_split_ands;(try simp only[s_4,s_5,s_6]);go_simp;try with_reducible rfl)
 simp only[Act.put,s_1,s_2,s_3,s_4,s_5,s_6];refine tkB 7 ?_;simp only[Act.put,s_1,s_2,s_3,s_4,s_5,s_6];refine tkB 9 ?_;simp only[Act.put,s_1,s_2,s_3,s_4,s_5,s_6];refine r1 8 (fun K hK=>?_)
 try simp only[s_4,s_5,s_6]
 go_simp
 (go_at_call 105;go_split_ands;(with_reducible refine(HG.out _).mono ?_);rintro e w1 ⟨rfl,hb1⟩)
 go_wp2_with fail
 have hB1:=hB0.trans (hb1.mono hB0.size);refine hK.out _ _ (HS0.out _ hB1) (fun hHeld=>?_);clear hK K
 try simp only[Act.put,s_1,s_2,s_3,s_4,s_5,s_6]
 refine tkB 10 ?_;simp only[Act.put,s_1,s_2,s_3,s_4,s_5,s_6];refine tkB 11 ?_;simp only[Act.put,s_1,s_2,s_3,s_4,s_5,s_6];refine wpAnyH_done (by kernel_rfl) ?_ _;have hB:=hB1
 go_wp2_with fail
 go_ret;exact⟨rfl,hW.trans (hB.mono hW.size)⟩
theorem rall02_yes(b:Nat)(c:Nat)(n0 d0 n1 d1 n2 d2 n3 d3:Int)(v0:validF n0 d0=true)(v1:validF n1 d1=true)(v2:validF n2 d2=true)(v3:validF n3 d3=true)(w:World)
  (hc:∀i:Nat,i<4→w.cell? ⟨b,i*2,none⟩=some (.int .i64 (if i=0 then n0 else if i=1 then n1 else if i=2 then n2 else n3))∧w.cell? ⟨b,i*2+1,none⟩=some (.int .i64 (if i=0 then d0 else if i=1 then d1 else if i=2 then d2 else d3))):
  Calls Tryz.prog 59 #[.slice (some ⟨b,0,none⟩) 4 c] w fun e w'=>e=.returned (.bool true)∧Below w.heap.size w w':=by
 have hb:b<w.heap.size:=wl (hc 0 (by decide)).1;obtain⟨N,hN⟩:=nm ((fun i=>if i=0 then n0 else if i=1 then n1 else if i=2 then n2 else n3):Nat→Int);obtain⟨D,hD⟩:=nm ((fun i=>if i=0 then d0 else if i=1 then d1 else if i=2 then d2 else d3):Nat→Int)
 have HV:Hid (∀i,i<4→validF (N i) (D i)=true):=lh fun i hi=>by
  rw[←hN,←hD];obtain rfl | rfl | rfl | rfl:i=0∨i=1∨i=2∨i=3:=by omega
  ·exact v0
  ·exact v1
  ·exact v2
  ·exact v3
 have HC:Hid (∀i:Nat,i<4→w.cell? ⟨b,i*2,none⟩=some (.int .i64 (N i))∧w.cell? ⟨b,i*2+1,none⟩=some (.int .i64 (D i))):=lh fun i hi=>by
  rw[←hN,←hD];exact hc i hi
 clear hN hD hc v0 v1 v2 v3
 go_enter Tryz.func59,Tryz.ntmps59
 go_wp2_with fail
 go_loopw [3] (fun i wr=>∃k:Nat,k≤4∧i=.int .i64 k∧Below w.heap.size w wr) (fun i _=>4-(intOf i).toNat)
 case atStart=>exact⟨0,Nat.zero_le _,rfl,br⟩
 case round=>
  obtain⟨k,hk,rfl,hB⟩:=hrel
  by_cases hlt:k<4
  ·obtain⟨c0,c1⟩:=HC.out k hlt
   have d0:=(hB.cell (p:=⟨b,k*2,none⟩) hb).trans c0;have d1:=(hB.cell (p:=⟨b,k*2+1,none⟩) hb).trans c1;have e0:wr.cell? ⟨b,0+k*2,none⟩=some (.int .i64 (N k)):=by rw[Nat.zero_add];exact d0
   have e1:wr.cell? ⟨b,0+k*2+1,none⟩=some (.int .i64 (D k)):=by rw[Nat.zero_add];exact d1
   have HVK:=lh (HV.out k hlt);have i0:0≤(k:Int):=by omega
   have i1:(k:Int)<4:=by omega
   have s1:IntKind.i64.wrap ((k:Int)+1)=(k:Int)+1:=IntWalk.i64_in _ (by omega);clear c0 c1
   go_wp2_with (go_at_call 99;(with_reducible refine(rvalid02_any (N k) (D k) _).mono ?_);rw[HVK.out];rintro e w1 ⟨rfl,hb1⟩)
   have hB1:=hB.trans (hb1.mono hB.size);go_roundw
   case rel=>exact⟨k+1,by omega,by go_num,hB1⟩
   case measure=>simp[intOf];omega
  ·obtain rfl:k=4:=by omega
   go_wp2_with fail
   go_ret;exact⟨rfl,hB⟩
theorem new8(W:World)(x0 x1 x2 x3 x4 x5 x6 x7:Int)(t:TypeId):∀i:Nat,i<4→(W.alloc (.cells #[.int .i64 x0,.int .i64 x1,.int .i64 x2,.int .i64 x3,.int .i64 x4,.int .i64 x5,.int .i64 x6,.int .i64 x7] t)).cell? ⟨W.heap.size,i*2,none⟩=some (.int .i64 (if i=0 then x0 else if i=1 then x2 else if i=2 then x4 else x6))∧(W.alloc (.cells #[.int .i64 x0,.int .i64 x1,.int .i64 x2,.int .i64 x3,.int .i64 x4,.int .i64 x5,.int .i64 x6,.int .i64 x7] t)).cell? ⟨W.heap.size,i*2+1,none⟩=some (.int .i64 (if i=0 then x1 else if i=1 then x3 else if i=2 then x5 else x7)):=by
 intro i hi;obtain rfl | rfl | rfl | rfl:i=0∨i=1∨i=2∨i=3:=by omega
 all_goals exact⟨by simp,by simp⟩
theorem rvalid08_yes(L:List Pc)(ok:CurveOK L)(nn:∀i,i<L.length→0≤(pcg L i).f0)(a:Option Addr)(c:Nat)(w:World)(hL:Pcs w.heap.size w a L):
  Calls Tryz.prog 33 #[.slice a L.length c] w fun e w'=>e=.returned (.bool true)∧Below w.heap.size w w':=by
 have hpos:=ok.pos;have hlen:=ok.len;have HOK:=lh ok;have HNN:=lh nn;obtain⟨b,off,rfl,hb,hc⟩:=hL (by omega);have HC:=lh hc;have l1:decide ((L.length:Int)<1)=false:=dF (by omega);have l2:decide ((200:Int)<(L.length:Int))=false:=dF (by omega);clear ok hc hL nn
 go_enter Tryz.func33,Tryz.ntmps33
 go_wp2_with fail
 clear l1 l2
 go_loopw [3] (fun i wr=>∃k:Nat,k≤L.length∧i=.int .i64 k∧Below w.heap.size w wr) (fun i _=>L.length-(intOf i).toNat)
 case atStart=>exact⟨0,Nat.zero_le _,rfl,br⟩
 case round=>
  obtain⟨k,hk,rfl,hB⟩:=hrel
  by_cases hlt:k<L.length
  ·have HB:=lh hB
   have HV:=lh (HOK.out.val k hlt);have i0:0≤(k:Int):=by omega
   have i1:(k:Int)<(L.length:Int):=by omega
   have s1:IntKind.i64.wrap ((k:Int)+1)=(k:Int)+1:=IntWalk.i64_in _ (by omega)
   have HK:Hid (∀i,i<L.length→∀w',Below wr.heap.size wr w'→w'.cell? ⟨b,off+i*8,none⟩=some (.int .i64 (pcg L i).f0)∧w'.cell? ⟨b,off+i*8+1,none⟩=some (.int .i64 (pcg L i).f1)∧w'.cell? ⟨b,off+i*8+2,none⟩=some (.int .i64 (pcg L i).a0)∧w'.cell? ⟨b,off+i*8+3,none⟩=some (.int .i64 (pcg L i).a1)∧w'.cell? ⟨b,off+i*8+4,none⟩=some (.int .i64 (pcg L i).b0)∧w'.cell? ⟨b,off+i*8+5,none⟩=some (.int .i64 (pcg L i).b1)∧w'.cell? ⟨b,off+i*8+6,none⟩=some (.int .i64 (pcg L i).c0)∧w'.cell? ⟨b,off+i*8+7,none⟩=some (.int .i64 (pcg L i).c1)):=lh fun i hi w' h=>by
    obtain⟨c0,c1,c2,c3,c4,c5,c6,c7⟩:=HC.out i hi;have hB':=HB.out.trans (h.mono HB.out.size);exact⟨(hB'.cell (p:=⟨b,off+i*8,none⟩) hb).trans c0,(hB'.cell (p:=⟨b,off+i*8+1,none⟩) hb).trans c1,(hB'.cell (p:=⟨b,off+i*8+2,none⟩) hb).trans c2,(hB'.cell (p:=⟨b,off+i*8+3,none⟩) hb).trans c3,(hB'.cell (p:=⟨b,off+i*8+4,none⟩) hb).trans c4,(hB'.cell (p:=⟨b,off+i*8+5,none⟩) hb).trans c5,(hB'.cell (p:=⟨b,off+i*8+6,none⟩) hb).trans c6,(hB'.cell (p:=⟨b,off+i*8+7,none⟩) hb).trans c7⟩
   cases k with
   | zero=>
    have g0:decide ((0:Int)<((0:Nat):Int))=false:=by decide
    have HS0:Hid (∀w',Below wr.heap.size wr w'→(fun w'=>wr.heap.size≤w'.heap.size∧w'.cell? ⟨b,off,none⟩=some (.int .i64 (pcg L 0).f0)∧w'.cell? ⟨b,off+1,none⟩=some (.int .i64 (pcg L 0).f1)∧w'.cell? ⟨b,off+2,none⟩=some (.int .i64 (pcg L 0).a0)∧w'.cell? ⟨b,off+3,none⟩=some (.int .i64 (pcg L 0).a1)∧w'.cell? ⟨b,off+4,none⟩=some (.int .i64 (pcg L 0).b0)∧w'.cell? ⟨b,off+5,none⟩=some (.int .i64 (pcg L 0).b1)∧w'.cell? ⟨b,off+6,none⟩=some (.int .i64 (pcg L 0).c0)∧w'.cell? ⟨b,off+7,none⟩=some (.int .i64 (pcg L 0).c1)) w'):=lh fun w' h=>by
     have:=HK.out 0 hlt w' h;simp only[Nat.zero_mul,Nat.add_zero]at this;exact⟨h.size,this⟩
    clear hB
    go_wp2_with fail
    go_upto_region 6 with (fail)
    refine wp_region_held_drew (S:=fun w'=>wr.heap.size≤w'.heap.size∧w'.cell? ⟨b,off,none⟩=some (.int .i64 (pcg L 0).f0)∧w'.cell? ⟨b,off+1,none⟩=some (.int .i64 (pcg L 0).f1)∧w'.cell? ⟨b,off+2,none⟩=some (.int .i64 (pcg L 0).a0)∧w'.cell? ⟨b,off+3,none⟩=some (.int .i64 (pcg L 0).a1)∧w'.cell? ⟨b,off+4,none⟩=some (.int .i64 (pcg L 0).b0)∧w'.cell? ⟨b,off+5,none⟩=some (.int .i64 (pcg L 0).b1)∧w'.cell? ⟨b,off+6,none⟩=some (.int .i64 (pcg L 0).c0)∧w'.cell? ⟨b,off+7,none⟩=some (.int .i64 (pcg L 0).c1)) (by kernel_rfl) (HS0.out _ (br).drew) (fun hHeld=>?_);have hB0:=(Below.refl wr.heap.size wr).drew;obtain⟨w0,hw0⟩:=nm (wr.drew);simp only[hw0]at hB0 hHeld⊢;clear hw0;refine tkB 0 ?_;simp only[Act.put,s_1,s_2,s_3,s_4,s_6];refine tkB 1 ?_;simp only[Act.put,s_1,s_2,s_3,s_4,s_5,s_6];refine tkB 2 ?_;simp only[Act.put,s_1,s_2,s_3,s_4,s_5,s_6];refine tkB 3 ?_;simp only[Act.put,s_1,s_2,s_3,s_4,s_5,s_6];refine tkB 4 ?_;simp only[Act.put,s_1,s_2,s_3,s_4,s_5,s_6];refine tkB 5 ?_;simp only[Act.put,s_1,s_2,s_3,s_4,s_5,s_6];refine tkB 6 ?_;simp only[Act.put,s_1,s_2,s_3,s_4,s_5,s_6];refine tkB 7 ?_;simp only[Act.put,s_1,s_2,s_3,s_4,s_5,s_6];refine tkB 8 ?_;simp only[Act.put,s_1,s_2,s_3,s_4,s_5,s_6];refine tkB 9 ?_;simp only[Act.put,s_1,s_2,s_3,s_4,s_5,s_6];refine tkB 10 ?_;simp only[Act.put,s_1,s_2,s_3,s_4,s_5,s_6];refine tkB 11 ?_;simp only[Act.put,s_1,s_2,s_3,s_4,s_5,s_6];refine tkB 12 ?_;simp only[Act.put,s_1,s_2,s_3,s_4,s_5,s_6];refine tkB 13 ?_;simp only[Act.put,s_1,s_2,s_3,s_4,s_5,s_6];refine tkB 14 ?_;simp only[Act.put,s_1,s_2,s_3,s_4,s_5,s_6];refine tkB 15 ?_;simp only[Act.put,s_1,s_2,s_3,s_4,s_5,s_6];refine tkB 16 ?_;simp only[Act.put,s_1,s_2,s_3,s_4,s_5,s_6];refine tkB 17 ?_;simp only[Act.put,s_1,s_2,s_3,s_4,s_5,s_6];refine tkB 18 ?_;simp only[Act.put,s_1,s_2,s_3,s_4,s_5,s_6];refine tkB 19 ?_;simp only[Act.put,s_1,s_2,s_3,s_4,s_5,s_6];refine r1 20 (fun K hK=>?_)
    try simp only[s_4,s_5,s_6]
    go_split_ands
    go_wp2_with fail
    have hB1:=below_a (.cells #[.int .i64 (pcg L 0).f0,.int .i64 (pcg L 0).f1,.int .i64 (pcg L 0).a0,.int .i64 (pcg L 0).a1,.int .i64 (pcg L 0).b0,.int .i64 (pcg L 0).b1,.int .i64 (pcg L 0).c0,.int .i64 (pcg L 0).c1] 49) hB0;have hN:=lh (new8 w0 (pcg L 0).f0 (pcg L 0).f1 (pcg L 0).a0 (pcg L 0).a1 (pcg L 0).b0 (pcg L 0).b1 (pcg L 0).c0 (pcg L 0).c1 49);obtain⟨Bn,hBn⟩:=nm (w0.heap.size);simp only[hBn]at hN⊢;generalize w0.alloc (.cells #[.int .i64 (pcg L 0).f0,.int .i64 (pcg L 0).f1,.int .i64 (pcg L 0).a0,.int .i64 (pcg L 0).a1,.int .i64 (pcg L 0).b0,.int .i64 (pcg L 0).b1,.int .i64 (pcg L 0).c0,.int .i64 (pcg L 0).c1] 49)=w1 at *;refine hK.out _ _ (HS0.out _ hB1) (fun hHeld=>?_);clear hK K
    try simp only[Act.put,s_1,s_2,s_3,s_4,s_5,s_6]
    refine r1 21 (fun K hK=>?_)
    try simp only[s_4,s_5,s_6]
    go_simp
    (go_at_call 59;go_split_ands;(with_reducible refine(rall02_yes Bn 4 _ _ _ _ _ _ _ _ HV.out.f HV.out.a HV.out.b HV.out.c _ hN.out).mono ?_);rintro e w2 ⟨rfl,hb2⟩)
    go_wp2_with fail
    have hB2:=hB1.trans (hb2.mono hB1.size);refine hK.out _ _ (HS0.out _ hB2) (fun hHeld=>?_);clear hK K
    try simp only[Act.put,s_1,s_2,s_3,s_4,s_5,s_6]
    refine tkB 22 ?_;simp only[Act.put,s_1,s_2,s_3,s_4,s_5,s_6];refine tkB 23 ?_;simp only[Act.put,s_1,s_2,s_3,s_4,s_5,s_6];refine tkB 24 ?_;simp only[Act.put,s_1,s_2,s_3,s_4,s_5,s_6];refine tkB 25 ?_;simp only[Act.put,s_1,s_2,s_3,s_4,s_5,s_6];refine tkB 26 ?_;simp only[Act.put,s_1,s_2,s_3,s_4,s_5,s_6];refine tkS 27 ?_;simp only[Act.put,s_1,s_2,s_3,s_4,s_5,s_6];refine tkS 28 ?_;simp only[Act.put,s_1,s_2,s_3,s_4,s_5,s_6];refine tkS 29 ?_;simp only[Act.put,s_1,s_2,s_3,s_4,s_5,s_6];refine tkS 30 ?_;simp only[Act.put,s_1,s_2,s_3,s_4,s_5,s_6];refine tkS 31 ?_;simp only[Act.put,s_1,s_2,s_3,s_4,s_5,s_6];refine tkS 32 ?_;simp only[Act.put,s_1,s_2,s_3,s_4,s_5,s_6];refine tkS 33 ?_;simp only[Act.put,s_1,s_2,s_3,s_4,s_5,s_6];refine tkS 34 ?_;simp only[Act.put,s_1,s_2,s_3,s_4,s_5,s_6];refine tkS 35 ?_;simp only[Act.put,s_1,s_2,s_3,s_4,s_5,s_6];refine tkS 36 ?_;simp only[Act.put,s_1,s_2,s_3,s_4,s_5,s_6];refine tkS 37 ?_;simp only[Act.put,s_1,s_2,s_3,s_4,s_5,s_6];refine tkS 38 ?_;simp only[Act.put,s_1,s_2,s_3,s_4,s_5,s_6];refine tkS 39 ?_;simp only[Act.put,s_1,s_2,s_3,s_4,s_5,s_6];refine tkB 40 ?_;simp only[Act.put,s_1,s_2,s_3,s_4,s_5,s_6];refine tkB 41 ?_;simp only[Act.put,s_1,s_2,s_3,s_4,s_5,s_6];refine wpAnyH_done (by kernel_rfl) ?_ _;have hB:=hB2
    go_wp2_with fail
    go_roundw
    case rel=>exact⟨1,by omega,by go_num,HB.out.trans (hB.mono HB.out.size)⟩
    case measure=>simp[intOf];omega
   | succ k=>
    have g0:decide ((0:Int)<((k+1:Nat):Int))=true:=dT (by omega);have g1:decide ((0:Int)<(k:Int)+1)=true:=dT (by omega);have j1:IntKind.i64.wrap ((k:Int)+1-1)=(k:Int):=(IntWalk.i64_in _ (by omega)).trans (by omega);have j2:IntKind.i64.wrap (((k+1:Nat):Int)-1)=(k:Int):=(IntWalk.i64_in _ (by omega)).trans (by omega);have j3:IntKind.i64.wrap (k:Int)=(k:Int):=IntWalk.i64_in _ (by omega);have j4:(k:Int)<(L.length:Int):=by omega
    have j5:(0:Int)≤(k:Int):=by omega
    have j6:(k:Int)+1<(L.length:Int):=by omega
    have j7:(0:Int)≤(k:Int)+1:=by omega
    have j8:((k:Int)+1).toNat=k+1:=by omega
    have hk1:k<L.length:=by omega
    have v1:=(validF_iff _ _).1 (HOK.out.val k hk1).f;have v2:=(validF_iff _ _).1 HV.out.f
    have HCM:Hid (∀w:World,Calls Tryz.prog 40 #[.agg #[.int .i64 (pcg L k).f0,.int .i64 (pcg L k).f1],.agg #[.int .i64 (pcg L (k+1)).f0,.int .i64 (pcg L (k+1)).f1]] w fun e w'=>e=.returned (.int .i64 (-1))∧Below w.heap.size w w'):=lh fun w=>by
     have n1:=HNN.out k hk1;have n2:=HNN.out (k+1) hlt;have:=rcmp_any (pcg L k).f0 (pcg L k).f1 (pcg L (k+1)).f0 (pcg L (k+1)).f1 n1 (by omega) (by omega) (by omega) n2 (by omega) (by omega) (by omega) w
     rwa [cmpP_lt (HOK.out.asc k hlt)]at this
    have HS1:Hid (∀w',Below wr.heap.size wr w'→(fun w'=>wr.heap.size≤w'.heap.size∧w'.cell? ⟨b,off+(k+1)*8,none⟩=some (.int .i64 (pcg L (k+1)).f0)∧w'.cell? ⟨b,off+(k+1)*8+1,none⟩=some (.int .i64 (pcg L (k+1)).f1)∧w'.cell? ⟨b,off+(k+1)*8+2,none⟩=some (.int .i64 (pcg L (k+1)).a0)∧w'.cell? ⟨b,off+(k+1)*8+3,none⟩=some (.int .i64 (pcg L (k+1)).a1)∧w'.cell? ⟨b,off+(k+1)*8+4,none⟩=some (.int .i64 (pcg L (k+1)).b0)∧w'.cell? ⟨b,off+(k+1)*8+5,none⟩=some (.int .i64 (pcg L (k+1)).b1)∧w'.cell? ⟨b,off+(k+1)*8+6,none⟩=some (.int .i64 (pcg L (k+1)).c0)∧w'.cell? ⟨b,off+(k+1)*8+7,none⟩=some (.int .i64 (pcg L (k+1)).c1)∧w'.cell? ⟨b,off+k*8,none⟩=some (.int .i64 (pcg L k).f0)∧w'.cell? ⟨b,off+k*8+1,none⟩=some (.int .i64 (pcg L k).f1)) w'):=lh fun w' h=>by
     obtain⟨c0,c1,c2,c3,c4,c5,c6,c7⟩:=HK.out (k+1) hlt w' h;obtain⟨d0,d1,_⟩:=HK.out k hk1 w' h;exact⟨h.size,c0,c1,c2,c3,c4,c5,c6,c7,d0,d1⟩
    clear hB v1 v2
    go_wp2_with fail
    go_upto_region 6 with (fail)
    refine wp_region_held_drew (S:=fun w'=>wr.heap.size≤w'.heap.size∧w'.cell? ⟨b,off+(k+1)*8,none⟩=some (.int .i64 (pcg L (k+1)).f0)∧w'.cell? ⟨b,off+(k+1)*8+1,none⟩=some (.int .i64 (pcg L (k+1)).f1)∧w'.cell? ⟨b,off+(k+1)*8+2,none⟩=some (.int .i64 (pcg L (k+1)).a0)∧w'.cell? ⟨b,off+(k+1)*8+3,none⟩=some (.int .i64 (pcg L (k+1)).a1)∧w'.cell? ⟨b,off+(k+1)*8+4,none⟩=some (.int .i64 (pcg L (k+1)).b0)∧w'.cell? ⟨b,off+(k+1)*8+5,none⟩=some (.int .i64 (pcg L (k+1)).b1)∧w'.cell? ⟨b,off+(k+1)*8+6,none⟩=some (.int .i64 (pcg L (k+1)).c0)∧w'.cell? ⟨b,off+(k+1)*8+7,none⟩=some (.int .i64 (pcg L (k+1)).c1)∧w'.cell? ⟨b,off+k*8,none⟩=some (.int .i64 (pcg L k).f0)∧w'.cell? ⟨b,off+k*8+1,none⟩=some (.int .i64 (pcg L k).f1)) (by kernel_rfl) (HS1.out _ (br).drew) (fun hHeld=>?_);have hB0:=(Below.refl wr.heap.size wr).drew;obtain⟨w0,hw0⟩:=nm (wr.drew);simp only[hw0]at hB0 hHeld⊢;clear hw0;refine tkB 0 ?_;simp only[Act.put,s_1,s_2,s_3,s_4,s_6];refine tkB 1 ?_;simp only[Act.put,s_1,s_2,s_3,s_4,s_5,s_6];refine tkB 2 ?_;simp only[Act.put,s_1,s_2,s_3,s_4,s_5,s_6];refine tkB 3 ?_;simp only[Act.put,s_1,s_2,s_3,s_4,s_5,s_6];refine tkB 4 ?_;simp only[Act.put,s_1,s_2,s_3,s_4,s_5,s_6];refine tkB 5 ?_;simp only[Act.put,s_1,s_2,s_3,s_4,s_5,s_6];refine tkB 6 ?_;simp only[Act.put,s_1,s_2,s_3,s_4,s_5,s_6];refine tkB 7 ?_;simp only[Act.put,s_1,s_2,s_3,s_4,s_5,s_6];refine tkB 8 ?_;simp only[Act.put,s_1,s_2,s_3,s_4,s_5,s_6];refine tkB 9 ?_;simp only[Act.put,s_1,s_2,s_3,s_4,s_5,s_6];refine tkB 10 ?_;simp only[Act.put,s_1,s_2,s_3,s_4,s_5,s_6];refine tkB 11 ?_;simp only[Act.put,s_1,s_2,s_3,s_4,s_5,s_6];refine tkB 12 ?_;simp only[Act.put,s_1,s_2,s_3,s_4,s_5,s_6];refine tkB 13 ?_;simp only[Act.put,s_1,s_2,s_3,s_4,s_5,s_6];refine tkB 14 ?_;simp only[Act.put,s_1,s_2,s_3,s_4,s_5,s_6];refine tkB 15 ?_;simp only[Act.put,s_1,s_2,s_3,s_4,s_5,s_6];refine tkB 16 ?_;simp only[Act.put,s_1,s_2,s_3,s_4,s_5,s_6];refine tkB 17 ?_;simp only[Act.put,s_1,s_2,s_3,s_4,s_5,s_6];refine tkB 18 ?_;simp only[Act.put,s_1,s_2,s_3,s_4,s_5,s_6];refine tkB 19 ?_;simp only[Act.put,s_1,s_2,s_3,s_4,s_5,s_6];refine r1 20 (fun K hK=>?_)
    try simp only[s_4,s_5,s_6]
    go_split_ands
    go_wp2_with fail
    have hB1:=below_a (.cells #[.int .i64 (pcg L (k+1)).f0,.int .i64 (pcg L (k+1)).f1,.int .i64 (pcg L (k+1)).a0,.int .i64 (pcg L (k+1)).a1,.int .i64 (pcg L (k+1)).b0,.int .i64 (pcg L (k+1)).b1,.int .i64 (pcg L (k+1)).c0,.int .i64 (pcg L (k+1)).c1] 49) hB0;have hN:=lh (new8 w0 (pcg L (k+1)).f0 (pcg L (k+1)).f1 (pcg L (k+1)).a0 (pcg L (k+1)).a1 (pcg L (k+1)).b0 (pcg L (k+1)).b1 (pcg L (k+1)).c0 (pcg L (k+1)).c1 49);obtain⟨Bn,hBn⟩:=nm (w0.heap.size);simp only[hBn]at hN⊢;generalize w0.alloc (.cells #[.int .i64 (pcg L (k+1)).f0,.int .i64 (pcg L (k+1)).f1,.int .i64 (pcg L (k+1)).a0,.int .i64 (pcg L (k+1)).a1,.int .i64 (pcg L (k+1)).b0,.int .i64 (pcg L (k+1)).b1,.int .i64 (pcg L (k+1)).c0,.int .i64 (pcg L (k+1)).c1] 49)=w1 at *;refine hK.out _ _ (HS1.out _ hB1) (fun hHeld=>?_);clear hK K
    try simp only[Act.put,s_1,s_2,s_3,s_4,s_5,s_6]
    refine r1 21 (fun K hK=>?_)
    try simp only[s_4,s_5,s_6]
    go_simp
    (go_at_call 59;go_split_ands;(with_reducible refine(rall02_yes Bn 4 _ _ _ _ _ _ _ _ HV.out.f HV.out.a HV.out.b HV.out.c _ hN.out).mono ?_);rintro e w2 ⟨rfl,hb2⟩)
    go_wp2_with fail
    have hB2:=hB1.trans (hb2.mono hB1.size);refine hK.out _ _ (HS1.out _ hB2) (fun hHeld=>?_);clear hK K
    try simp only[Act.put,s_1,s_2,s_3,s_4,s_5,s_6]
    refine tkB 22 ?_;simp only[Act.put,s_1,s_2,s_3,s_4,s_5,s_6];refine tkB 23 ?_;simp only[Act.put,s_1,s_2,s_3,s_4,s_5,s_6];refine tkB 24 ?_;simp only[Act.put,s_1,s_2,s_3,s_4,s_5,s_6];refine tkB 25 ?_;simp only[Act.put,s_1,s_2,s_3,s_4,s_5,s_6];refine tkB 26 ?_;simp only[Act.put,s_1,s_2,s_3,s_4,s_5,s_6];refine tkB 27 ?_;simp only[Act.put,s_1,s_2,s_3,s_4,s_5,s_6];refine tkB 28 ?_;simp only[Act.put,s_1,s_2,s_3,s_4,s_5,s_6];refine tkB 29 ?_;simp only[Act.put,s_1,s_2,s_3,s_4,s_5,s_6];refine tkB 30 ?_;simp only[Act.put,s_1,s_2,s_3,s_4,s_5,s_6];refine tkB 31 ?_;simp only[Act.put,s_1,s_2,s_3,s_4,s_5,s_6];refine tkB 32 ?_;simp only[Act.put,s_1,s_2,s_3,s_4,s_5,s_6];refine tkB 33 ?_;simp only[Act.put,s_1,s_2,s_3,s_4,s_5,s_6];refine tkB 34 ?_;simp only[Act.put,s_1,s_2,s_3,s_4,s_5,s_6];refine tkB 35 ?_;simp only[Act.put,s_1,s_2,s_3,s_4,s_5,s_6];refine tkB 36 ?_;simp only[Act.put,s_1,s_2,s_3,s_4,s_5,s_6];refine tkB 37 ?_;simp only[Act.put,s_1,s_2,s_3,s_4,s_5,s_6];refine r1 38 (fun K hK=>?_)
    try simp only[s_4,s_5,s_6]
    go_simp
    (go_at_call 40;go_split_ands;(with_reducible refine(HCM.out _).mono ?_);rintro e w3 ⟨rfl,hb3⟩)
    go_wp2_with fail
    have hB3:=hB2.trans (hb3.mono hB2.size);refine hK.out _ _ (HS1.out _ hB3) (fun hHeld=>?_);clear hK K
    try simp only[Act.put,s_1,s_2,s_3,s_4,s_5,s_6]
    refine tkB 39 ?_;simp only[Act.put,s_1,s_2,s_3,s_4,s_5,s_6];refine tkB 40 ?_;simp only[Act.put,s_1,s_2,s_3,s_4,s_5,s_6];refine tkB 41 ?_;simp only[Act.put,s_1,s_2,s_3,s_4,s_5,s_6];refine wpAnyH_done (by kernel_rfl) ?_ _;have hB:=hB3
    go_wp2_with fail
    go_roundw
    case rel=>exact⟨k+2,by omega,by go_num,HB.out.trans (hB.mono HB.out.size)⟩
    case measure=>simp[intOf];omega
  ·obtain rfl:k=L.length:=by omega
   go_wp2_with fail
   go_ret;exact⟨rfl,hB⟩
end
end Go.Proofs.YtebofaenlhhkaaaGreat
