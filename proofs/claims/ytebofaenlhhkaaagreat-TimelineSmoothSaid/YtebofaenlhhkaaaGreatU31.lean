/-
  HOW BEGINNINGS LIE IN MEMORY.
-/
import Derived.Test.YtebofaenlhhkaaaGreatU30
namespace Go.Proofs.YtebofaenlhhkaaaGreat
set_option maxRecDepth 100000
set_option maxHeartbeats 80000000
set_option linter.unusedSimpArgs false
section
open Go.RowKit Go.Shelf
/-! ### Slices of api.Begin -/

def beg(L:List (ByteArray×Int))(i:Nat):ByteArray×Int:=(L[i]?).getD (⟨#[]⟩,0)
theorem beg_eq(L:List (ByteArray×Int))(i:Nat)(h:i<L.length):beg L i=L[i]:=by unfold beg;rw[List.getElem?_eq_getElem h];rfl
theorem beg_ext(F1 F2:List (ByteArray×Int))(hl:F1.length=F2.length)(h:∀j,j<F1.length→beg F1 j=beg F2 j):F1=F2:=by
 refine List.ext_getElem hl fun i h1 h2=>?_;have:=h i h1
 rwa [beg_eq F1 i h1,beg_eq F2 i h2]at this
theorem beg_old(L:List (ByteArray×Int))(x:ByteArray×Int)(i:Nat)(h:i<L.length):beg (L++[x]) i=beg L i:=by unfold beg;rw[List.getElem?_append_left h]
theorem beg_new(L:List (ByteArray×Int))(x:ByteArray×Int):beg (L++[x]) L.length=x:=by unfold beg;simp
def begflat(L:List (ByteArray×Int)):List Value:=L.flatMap fun r=>[.string r.1,.int .i64 r.2]
theorem begflat_at(L:List (ByteArray×Int))(i:Nat)(hi:i<L.length):(begflat L)[i*2]? =some (.string (beg L i).1)∧(begflat L)[i*2+1]? =some (.int .i64 (beg L i).2):=by
 induction L generalizing i with
 | nil=>simp at hi
 | cons x r ih=>
  match i with
  | 0=>exact⟨rfl,rfl⟩
  | i+1=>
   have:=ih i (by simpa using hi);have e:begflat (x::r)=.string x.1::.int .i64 x.2::begflat r:=rfl;rw[e,show(i+1)*2=i*2+1+1 by omega]
   simpa[beg]using this
theorem begflat_snoc(L:List (ByteArray×Int))(r:ByteArray×Int):begflat (L++[r])=begflat L++[.string r.1,.int .i64 r.2]:=by simp[begflat]
def Begs(n₀:Nat)(w:World)(a:Option Addr)(L:List (ByteArray×Int)):Prop:=
 0<L.length→∃b off,a=some ⟨b,off,none⟩∧b<n₀∧∀i,i<L.length→w.cell? ⟨b,off+i*2,none⟩=some (.string (beg L i).1)∧w.cell? ⟨b,off+i*2+1,none⟩=some (.int .i64 (beg L i).2)
theorem Begs.below{n₀:Nat}{w w':World}{a:Option Addr}{L:List (ByteArray×Int)}(h:Begs n₀ w a L)(hb:Below n₀ w w'):Begs n₀ w' a L:=fun hl=>by
 obtain⟨b,off,rfl,hlt,hc⟩:=h hl;refine⟨b,off,rfl,hlt,fun i hi=>?_⟩;obtain⟨c0,c1⟩:=hc i hi;exact⟨(hb.cell (p:=⟨b,_,none⟩) hlt).trans c0,(hb.cell (p:=⟨b,_,none⟩) hlt).trans c1⟩
theorem Begs.mono{n₀ n₁:Nat}{w:World}{a:Option Addr}{L:List (ByteArray×Int)}(h:Begs n₀ w a L)(hn:n₀≤n₁):Begs n₁ w a L:=fun hl=>by
 obtain⟨b,off,rfl,hlt,hc⟩:=h hl;exact⟨b,off,rfl,by omega,hc⟩
theorem Begs.grow{w w':World}{a:Option Addr}{L:List (ByteArray×Int)}(h:Begs w.heap.size w a L)(hb:Below w.heap.size w w'):Begs w'.heap.size w' a L:=(h.below hb).mono hb.size
theorem Begs.nil{n₀:Nat}{w:World}{a:Option Addr}:Begs n₀ w a []:=fun h=>absurd h (Nat.not_lt_zero _)
theorem Begs.take{n₀:Nat}{w:World}{a:Option Addr}{L:List (ByteArray×Int)}(h:Begs n₀ w a L)(n:Nat):Begs n₀ w a (L.take n):=fun hl=>by
 have hl':0<L.length:=by rw[List.length_take]at hl;omega
 obtain⟨b,off,rfl,hlt,hc⟩:=h hl';refine⟨b,off,rfl,hlt,fun i hi=>?_⟩;rw[List.length_take]at hi;have e:beg (L.take n) i=beg L i:=by unfold beg;rw[List.getElem?_take,if_pos (by omega)]
 rw[e];exact hc i (by omega)
theorem beg_len(L:List (ByteArray×Int)):(begflat L).length=L.length*2:=by
 induction L with
 | nil=>rfl
 | cons x r ih=>
  have e:begflat (x::r)=.string x.1::.int .i64 x.2::begflat r:=rfl;rw[e];simp only[List.length_cons,ih]
  try omega
theorem beg_of_row{w:World}{base:Nat}{v:Value}{L:List (ByteArray×Int)}(h:w.ownsRow base 70 2 v L.length (begflat L)):∃a cap,v=.slice a L.length cap∧L.length≤cap∧cap≤maxLen∧(a=none→cap=0)∧Begs w.heap.size w a L:=by
 rcases h.2 with ⟨rfl,h0⟩ | ⟨g,cap,cur,rfl,hb,hg,h1,h2,_⟩
 ·exact⟨none,0,by rw[h0],by omega,by unfold maxLen;omega,fun _=>rfl,fun hl=>by omega⟩
 ·refine⟨_,cap,rfl,h1,h2,(fun e=>by cases e),fun _=>⟨g,0,rfl,(Array.getElem?_eq_some_iff.1 hg).1,fun i hi=>?_⟩⟩
  obtain⟨f0,f1⟩:=begflat_at L i hi;have c0:=h.cellAt (i*2) (by omega);have c1:=h.cellAt (i*2+1) (by omega);rw[f0]at c0;rw[f1]at c1;rw[Nat.zero_add];exact⟨c0,c1⟩
theorem beg_info:(Tryz.prog.info? 70).map (fun i=>(i.zero,i.size,i.bytes))=some (some (.agg #[.string ⟨#[]⟩,.int .i64 0]),2,24):=by kernel_rfl
end
section
open Go.RowKit Go.Shelf
attribute [local go_sem] Oper.semAt_some
noncomputable def begsL(h:HouseR)(s:SheetR)(G:List Int)(n:Nat):List (ByteArray×Int):=(List.range n).map fun i=>((cg s.cues i).name,ig (planS h s G) i)
theorem begsL_snoc(h:HouseR)(s:SheetR)(G:List Int)(n:Nat):begsL h s G (n+1)=begsL h s G n++[((cg s.cues n).name,ig (planS h s G) n)]:=by
 unfold begsL;rw[List.range_succ,List.map_append]
 rfl
theorem begsL_len(h:HouseR)(s:SheetR)(G:List Int)(n:Nat):(begsL h s G n).length=n:=by unfold begsL;rw[List.length_map,List.length_range]
noncomputable def begsP(h:HouseR)(s:SheetR)(G:List Int):List (ByteArray×Int):=if planE h s G=0 then begsL h s G s.cues.length else[]
theorem cell_two_drew(w:World)(a b:Value)(t:TypeId):∀j u,[a,b][j]? =some u→(w.alloc (.cells #[a,b] t)).cell? ((⟨w.heap.size,0,none⟩:Addr).add j)=some u:=fun j u h=>by
 rw[Go.WideShapes.add_plain,Nat.zero_add]
 match j,h with
 | 0,h=>simp at h;subst h;simp
 | 1,h=>simp at h;subst h;simp
theorem cueAt_grown{w w':World}{B:Nat}{q:CueR}{row:Option Nat}(h:CueAt w B q)(hg:w.grownBy w' row)(hne:some B≠row):CueAt w' B q:=by
 have hlt:B<w.heap.size:=wl h.1;obtain⟨a0,a1,a2,a3,a4,a5,a6⟩:=h;exact⟨(hg.cell_far ⟨B,0,none⟩ hlt hne).trans a0,(hg.cell_far ⟨B,1,none⟩ hlt hne).trans a1,(hg.cell_far ⟨B,2,none⟩ hlt hne).trans a2,(hg.cell_far ⟨B,3,none⟩ hlt hne).trans a3,(hg.cell_far ⟨B,4,none⟩ hlt hne).trans a4,(hg.cell_far ⟨B,5,none⟩ hlt hne).trans a5,(hg.cell_far ⟨B,6,none⟩ hlt hne).trans a6⟩
theorem begins_any(h:HouseR)(s:SheetR)(ga:Option Addr)(G:List Int)(gc:Nat)(w:World)(hh:HouseIn w h)(hs:SheetIn w s)(hG:Nums w.heap.size w ga G)(hgl:G.length≤1000):
  Calls Tryz.prog 24 #[.agg #[.string h.name,.int .i64 h.height,.slice h.sa h.sets.length h.sc,.slice h.ra h.roofs.length h.rc],.agg #[.slice s.ca s.cues.length s.cc,.slice s.pa s.pairs.length s.pc],.slice ga G.length gc] w fun e w'=>Hid (∃v,e=.returned (.tuple #[v,.int .i64 (planE h s G)])∧w'.ownsRow w.heap.size 70 2 v (begsP h s G).length (begflat (begsP h s G)))∧Below w.heap.size w w':=by
 obtain⟨hb0,HX,HW⟩:=o1 hh hs hG;have HP:=lh fun (q:planE h s G=0)=>plan_sheet q;have hcl:=hs.clen;clear hh hs hG hb0;obtain⟨E,hE⟩:=nm (planE h s G)
 by_cases hz:E=0
 case neg=>
  have HE:=lh hE;have HEP:Hid (begsP h s G=[]):=lh (by unfold begsP;rw[hE,if_neg hz]);have g0:(E !=0)=true:=bne_iff_ne.2 hz;clear hz hE
  go_enter Tryz.func24,Tryz.ntmps24
  go_upto_region 1 with (fail)
  obtain⟨W0,hW0⟩:=nm ((LTw w h s):World);simp only[hW0]at HX HW⊢;clear hW0;obtain⟨B1,hB1⟩:=nm (w.heap.size);obtain⟨B2,hB2⟩:=nm (w.heap.size+1);rw[hB2]at HX⊢;rw[hB1]at HX⊢;have HBB:Hid (w.heap.size=B1):=lh hB1;clear hB1 hB2;obtain⟨⟨a0,a1,a2,a3⟩,⟨s0,s1⟩,-,-,-⟩:=HX.out _ br;have HMD:=lh (made_any h s ga G gc _ (HX.out _ br).2.2.1 (HX.out _ br).2.2.2.1 (HX.out _ br).2.2.2.2 hgl)
  go_wp2_with (go_at_call 44;(with_reducible refine HMD.out.mono ?_);rintro e w1 ⟨hx1,hb1⟩;obtain⟨ta,tn,tc,sa,sn,sc,na,nn,nc,rfl,hp1⟩:=hx1.out;have HP1:=lh hp1;clear hx1 hp1;rw[HE.out])
  go_ret2
  exact⟨lh ⟨.slice none 0 0,by first | rfl | (rw[HE.out];rfl),by rw[HEP.out];exact World.ownsRow_nil _ _ _ _⟩,(HW.out _ hb1).alloc (by have:=(HW.out _ hb1).size;omega) _⟩
 case pos=>
  subst hz;have HE:=lh hE;have HEP:Hid (begsP h s G=begsL h s G s.cues.length):=lh (by unfold begsP;rw[hE,if_pos rfl]);have HQ:=lh (HP.out hE);clear hE HP;obtain⟨i0,hi,hz0,hz1,hz2⟩:=info_parts beg_info;have HI:=lh (And.intro hi (And.intro hz0 (And.intro hz1 hz2)));clear hi hz0 hz1 hz2
  go_enter Tryz.func24,Tryz.ntmps24
  go_upto_region 1 with (fail)
  obtain⟨W0,hW0⟩:=nm ((LTw w h s):World);simp only[hW0]at HX HW⊢;clear hW0;obtain⟨B1,hB1⟩:=nm (w.heap.size);obtain⟨B2,hB2⟩:=nm (w.heap.size+1);rw[hB2]at HX⊢;rw[hB1]at HX⊢;have HBB:Hid (w.heap.size=B1):=lh hB1;clear hB1 hB2;obtain⟨⟨a0,a1,a2,a3⟩,⟨s0,s1⟩,-,-,-⟩:=HX.out _ br;have HMD:=lh (made_any h s ga G gc _ (HX.out _ br).2.2.1 (HX.out _ br).2.2.2.1 (HX.out _ br).2.2.2.2 hgl);obtain⟨ca,hca⟩:=nm (s.ca);have HCA:=lh hca;rw[hca]at s0 HMD⊢;clear hca
  go_upto_region 5 with (go_at_call 44;(with_reducible refine HMD.out.mono ?_);rintro e w1 ⟨hx1,hb1⟩;obtain⟨ta,tn,tc,sa,sn,sc,na,nn,nc,rfl,hp1⟩:=hx1.out;have HP1:=lh hp1;clear hx1 hp1;rw[HE.out])
  obtain⟨e1,e2,hS1,hN1⟩:=HP1.out HE.out;subst e1;subst e2;have hbx:=below_new w1 (.cells #[.slice ta tn tc,.slice sa s.cues.length sc,.slice na s.cues.length nc] 109);have hP2:=PC.put w1 (.slice ta tn tc) (.slice sa s.cues.length sc) (.slice na s.cues.length nc) 109;have hW2:=(HW.out _ hb1).alloc (by have:=(HW.out _ hb1).size;omega) (.cells #[.slice ta tn tc,.slice sa s.cues.length sc,.slice na s.cues.length nc] 109);have hX2:Hid (Below W0.heap.size W0 (w1.alloc (.cells #[.slice ta tn tc,.slice sa s.cues.length sc,.slice na s.cues.length nc] 109))):=lh (hb1.alloc hb1.size _);replace hS1:=hS1.grow hbx;replace hN1:=hN1.grow hbx;clear hbx HP1 HMD a0 a1 a2 a3 s0 s1;generalize w1.alloc (.cells #[.slice ta tn tc,.slice sa s.cues.length sc,.slice na s.cues.length nc] 109)=W2 at *;obtain⟨B8,hB8⟩:=nm (w1.heap.size);rw[hB8]at hP2⊢;clear hB8
  have HXX:Hid (∀w',Below W2.heap.size W2 w'→Below w.heap.size w w'∧PC w' B8 (.slice ta tn tc) (.slice sa s.cues.length sc) (.slice na s.cues.length nc)∧Nums w'.heap.size w' sa (planS h s G)∧Nums w'.heap.size w' na (planN h s)∧SheetAt w' B2 s∧SheetIn w' s):=lh fun w' z=>by
   have y:=hX2.out.trans (z.mono hX2.out.size);obtain⟨-,y2,-,y4,-⟩:=HX.out w' y;exact⟨hW2.trans (z.mono hW2.size),hP2.carry z,hS1.grow z,hN1.grow z,y2,y4⟩
  clear HX hW2 hS1 hN1 hP2 HW hX2 hb1;obtain⟨n₂,hn2⟩:=nm (W2.heap.size);rw[hn2]at HXX;have hB2:Below n₂ W2 W2:=by rw[←hn2];exact br
  have hnn:n₂≤W2.heap.size:=by omega
  have HBN:Hid (w.heap.size≤n₂):=lh (by have:=(HXX.out _ hB2).1.size;omega);clear hn2;obtain⟨-,-,-,-,⟨s0,s1⟩,-⟩:=HXX.out _ hB2;rw[HCA.out]at s0
  go_upto_region 6 with (fail)
  clear s0 s1
  go_loopw [10,11,12,26] (fun v10 _ _ iv wr=>∃(k:Nat),iv=.int .i64 k∧k≤s.cues.length∧Below n₂ W2 wr∧n₂≤wr.heap.size∧Hid (wr.ownsRow n₂ 70 2 v10 k (begflat (begsL h s G k)))) (fun _ _ _ iv _=>s.cues.length-(intOf iv).toNat)
  case atStart=>exact⟨0,rfl,Nat.zero_le _,hB2,hnn,lh (World.ownsRow_nil _ _ _ _)⟩
  case round=>
   clear hB2 hnn;obtain⟨k,rfl,hk,hB,hnw,HR⟩:=hrel
   by_cases hlt:k<s.cues.length
   ·obtain⟨-,-,hS,-,-,hsi⟩:=HXX.out _ hB
    obtain⟨b,off,ha,hb,hc⟩:=hsi.lies (by omega);rw[HCA.out]at ha;subst ha;obtain⟨d0,d1,d2,d3,d4,d5,d6⟩:=hc k hlt;have hls:k<(planS h s G).length:=by rw[HQ.out.2.lenS];exact hlt
    obtain⟨sb,so,hsa,hsb,hsx⟩:=hS (by omega);subst hsa;have HSN:=lh (begsL_snoc h s G k);obtain⟨q,hq⟩:=nm (cg s.cues k);rw[hq]at d0 d1 d2 d3 d4 d5 d6 HSN;obtain⟨x,hx⟩:=nm (ig (planS h s G) k);rw[hx]at HSN;have HX5:=lh hx;clear hS hsi hc hsx hq hx;have HKL:Hid ((begsL h s G k).length=k):=lh (begsL_len _ _ _ _);have hB3:=hB.alloc hnw (LCu q);have hbn:=below_new wr (LCu q);have HC3:=CueAt.new wr q 86 _ rfl;have hn3:n₂+1≤(wr.alloc (LCu q)).heap.size:=by simp;omega
    have HR3:=lh (ownsRow_below HR.out hbn);have HNE:Hid (u10.ownBlock≠some wr.heap.size):=lh fun e=>by have:=(HR.out.lt _ e).2;omega
    go_upto_region 8 with (fail)
    clear d0 d1 d2 d3 d4 d5 d6 HR hbn hB hnw hb;generalize wr.alloc (LCu q)=W3 at *;obtain⟨B12,hB12⟩:=nm (wr.heap.size);rw[hB12]at HC3 HNE⊢;clear hB12;have HHQ:HeldQ n₂ W2 B12 q W3:=⟨hB3,hn3,HC3⟩;have HOd:=lh (ownsRow_below HR3.out (below_drewR W3));have x1:∀w',HeldQ n₂ W2 B12 q w'→w'.cell? ⟨B8,1,none⟩=some (.slice (some ⟨sb,so,none⟩) s.cues.length sc):=fun w' z=>(HXX.out w' z.old).2.1.2.1
    have x2:∀w',HeldQ n₂ W2 B12 q w'→w'.cell? ⟨sb,so+k,none⟩=some (.int .i64 x):=fun w' z=>by
     obtain⟨tb',tf',e,_,ex⟩:=(HXX.out w' z.old).2.2.1 (by omega)
     cases e
     have:=ex k hls;rw[HX5.out]at this;exact this
    have c0:∀w',HeldQ n₂ W2 B12 q w'→w'.cell? ⟨B12,0,none⟩=some (.string q.name):=fun w' z=>z.cu.1;refine wp_region_held_drew (S:=(HeldQ n₂ W2 B12 q)) (by kernel_rfl) (HHQ.next (below_drewR W3)) (fun hHeld=>?_);obtain⟨W5,hW5⟩:=nm (W3.drew);simp only[hW5]at hHeld HOd⊢;clear hW5;refine tk 0 ?_;refine tk 1 ?_;refine tk 2 ?_;refine tk 3 ?_;refine tk 4 ?_;refine tk 5 ?_;refine tk 6 ?_;refine tk 7 ?_;refine tk 8 ?_;clear x1 x2 c0;refine r1 9 (fun K hK=>?_);rw[if_pos (by rfl)]
    go_wp2_with fail
    have hHN:=hHeld.next (below_new W5 (.cells #[.string q.name,.int .i64 x] 70));have HO6:=lh (ownsRow_below HOd.out (below_new W5 (.cells #[.string q.name,.int .i64 x] 70)));refine hK.out _ _ hHN (fun hHeld=>?_);clear hK K
    try simp only[Act.put,s_1,s_2,s_3,s_4,s_5,s_6]
    refine r1 10 (fun K hK=>?_);refine step_append_lies _ rfl (.tmp 31) (.tmp 40) 66 rfl n₂ 70 i0 (.agg #[.string ⟨#[]⟩,.int .i64 0]) 2 24 Tryz.underlying66 HI.out.1 HI.out.2.1 HI.out.2.2.1 HI.out.2.2.2 rfl (by decide) u10 k (begflat (begsL h s G k)) ?_ HO6.out ⟨W5.heap.size,0,none⟩ 1 1 [.string q.name,.int .i64 x] ?_ rfl (cell_two_drew W5 _ _ _) ?_ (by omega) ?_ ?_ ?_ _ rfl ?_
    ·simp[Act.eval]
    ·simp[Act.eval]
    ·simp[Value.oneCell']
    ·unfold maxLen;omega
    ·omega
    ·have:=hHN.lo;omega
    intro g7 cap7 w7 hown7 hgr7 hat7 hg7;clear hat7;have hS7:HeldQ n₂ W2 B12 q w7:=⟨hHN.old.grown hgr7 (by have:=hHN.lo;omega) (fun j hj=>(HO6.out.lt _ hj).1),Nat.le_trans hHN.lo hgr7.size,cueAt_grown hHN.cu hgr7 (fun e=>HNE.out e.symm)⟩;have HO7:=lh hown7;clear hown7 hgr7 hg7;refine hK.out _ _ hS7 (fun hHeld=>?_);clear hK K
    try simp only[Act.put,s_1,s_2,s_3,s_4,s_5,s_6]
    refine tk 11 ?_;refine wpAnyH_done (by kernel_rfl) ?_ _;have hB9:=hS7.old;have hn9:n₂≤w7.heap.size:=by have:=hS7.lo;omega
    go_wp2_with fail
    go_roundw
    case rel=>exact⟨k+1,by go_num,by omega,hB9,hn9,lh (by rw[HSN.out,begflat_snoc];exact HO7.out)⟩
    case measure=>simp[intOf];omega
   ·obtain rfl:k=s.cues.length:=by omega
    go_wp2_with fail
    go_ret2
    exact⟨lh ⟨_,by first | rfl | (rw[HE.out];rfl),by rw[HEP.out,begsL_len];exact ownsRow_base HR.out HBN.out⟩,(HXX.out _ hB).1⟩
end
section
theorem ord_next(hs:List Int):∀k,k<(ordP hs).length→∃m:Nat,ig (ordP hs) k=m∧nextO hs ((ordP hs).take k)=some m:=by
 have main:∀f out,OrdAt hs out→hs.length-out.length=f→(∀k,k<out.length→∃m:Nat,ig out k=m∧nextO hs (out.take k)=some m)→∀k,k<(ordP hs).length→∃m:Nat,ig (ordP hs) k=m∧nextO hs ((ordP hs).take k)=some m:=by
  intro f
  induction f with
  | zero=>
   intro out h hf hq
   cases hn:nextO hs out with
   | none=>rw[h.ends hn];exact hq
   | some k=>have:=(h.next k hn).2;omega
  | succ f ih=>
   intro out h hf hq
   cases hn:nextO hs out with
   | none=>rw[h.ends hn];exact hq
   | some k=>
    obtain⟨h1,h2⟩:=h.next k hn;refine ih _ h1 (by rw[List.length_append,List.length_singleton];omega) fun j hj=>?_;rw[List.length_append,List.length_singleton]at hj;rcases Nat.lt_or_ge j out.length with l | l
    ·rw[ig_old _ _ _ l,List.take_append_of_le_length (by omega)]
     exact hq j l
    ·obtain rfl:j=out.length:=by omega
     refine⟨k,ig_new _ _,?_⟩;rw[List.take_append_of_le_length (Nat.le_refl _),List.take_length];exact hn
 exact main _ [] (OrdAt.start hs) rfl (fun k hk=>absurd hk (Nat.not_lt_zero _))
theorem ready_iff{hs out:List Int}{m:Nat}:readyB hs out m=true↔(m:Int)∉out∧(ig hs m<0∨ig hs m∈out):=by
 unfold readyB
 simp
theorem all_in(n:Nat)(l:List Int)(hn:l.Nodup)(h:∀x∈l,0≤x∧x<n)(hl:l.length=n)(i:Nat)(hi:i<n):(i:Int)∈l:=by
 by_cases hm:(i:Int)∈l
 ·exact hm
 ·have:=pigeon n _ (snoc_nodup hn hm) (snoc_in h (Int.natCast_nonneg i) (by omega))
  rw[List.length_append,List.length_singleton]at this;omega
theorem pass2_manual{L:List CueR}(N G:List Int)(k:Nat)(hk:k≤(ordP (hangs L)).length)(m:Nat)(hm:m<L.length)(hl:(cg L m).link=1):ig (pass2 L N G k) m=ig G (manTo L m)+(cg L m).delay:=by
 induction k with
 | zero=>show ig (pass1 L G L.length) m=_;rw[pass1_at _ _ _ _ hm,if_pos ⟨hm,hl⟩]
 | succ k ih=>
  obtain⟨j,hj,e⟩:=ord_in L k (by omega);rw[pass2_succ L N G k (by omega),e];unfold stepS;rw[Int.toNat_natCast]
  split
  ·exact ih (by omega)
  ·next hl2=>
   rw[ig_set _ _ _ _ (by rw[pass2_len];exact hj),if_neg (fun e=>hl2 (by rw[e];exact hl))];exact ih (by omega)
end
section
open Go.RowKit
theorem startsV_other{L:List CueR}(hl:¬(ordP (hangs L)).length<L.length)(N G:List Int)(m f:Nat)(hm:m<L.length)(hf:f<L.length)(hl1:(cg L m).link≠1)(hfa:findI L (cg L m).after=f):
  ig (startsV L N G) m=ig (startsV L N G) f+(cg L m).delay+if(cg L m).link=2 then ig N f else 0:=by
 obtain⟨hO,_⟩:=ord_at (hangs L);have hlen:(ordP (hangs L)).length=L.length:=by have:=ord_le L;omega
 have stay:∀d k x,k+d=(ordP (hangs L)).length→x<L.length→((cg L x).link=1∨(x:Int)∈(ordP (hangs L)).take k)→ig (startsV L N G) x=ig (pass2 L N G k) x:=by
  intro d
  induction d with
  | zero=>
   intro k x hk _ _;obtain rfl:k=(ordP (hangs L)).length:=by omega
   rfl
  | succ d ih=>
   intro k x hk hx hc;obtain⟨j,em,hnx⟩:=ord_next (hangs L) k (by omega);have hjL:j<L.length:=by have:=(next_of hnx).1;rwa [hangs_len]at this
   have hnot:=(ready_iff.1 (next_of hnx).2.1).1;have htk:(ordP (hangs L)).take (k+1)=(ordP (hangs L)).take k++[(j:Int)]:=by rw[List.take_add_one,ig_get (by omega),em];rfl
   rw[ih (k+1) x (by omega) hx (by
    rcases hc with c | c
    ·exact .inl c
    ·exact .inr (by rw[htk];exact List.mem_append_left _ c)),pass2_succ L N G k (by omega),em]
   unfold stepS;rw[Int.toNat_natCast]
   split
   ·rfl
   ·next hj1=>
    rw[ig_set _ _ _ _ (by rw[pass2_len];exact hjL),if_neg (fun e=>?_)];subst e;rcases hc with c | c
    ·exact hj1 c
    ·exact hnot c
 have hin:=all_in L.length _ hO.nd (by have:=hO.inn;rwa [hangs_len]at this) hlen m hm
 obtain⟨k,hk,ek⟩:∃k,k<(ordP (hangs L)).length∧ig (ordP (hangs L)) k=(m:Int):=by
  obtain⟨k,hk,e⟩:=List.getElem_of_mem hin;exact⟨k,hk,by rw[ig_eq _ _ hk];exact e⟩
 obtain⟨m',em,hnx⟩:=ord_next (hangs L) k hk;obtain rfl:m'=m:=by have:=em.symm.trans ek;omega
 have hrd:=(ready_iff.1 (next_of hnx).2.1).2;rw[hangs_at L m' hm,hang_other hl1,hfa]at hrd
 have hfin:(f:Int)∈(ordP (hangs L)).take k:=by
  rcases hrd with c | c
  ·omega
  ·exact c
 have htk:(ordP (hangs L)).take (k+1)=(ordP (hangs L)).take k++[(m':Int)]:=by rw[List.take_add_one,ig_get hk,em];rfl
 rw[stay ((ordP (hangs L)).length-(k+1)) (k+1) m' (by omega) hm (.inr (by rw[htk];simp)),stay ((ordP (hangs L)).length-k) k f (by omega) hf (.inr hfin),pass2_succ L N G k hk,em];unfold stepS;rw[Int.toNat_natCast,if_neg hl1,hfa,Int.toNat_natCast,ig_set _ _ _ _ (by rw[pass2_len];exact hm),if_pos rfl]
theorem plan_starts{h:HouseR}{s:SheetR}{G:List Int}(e:planE h s G=0):planS h s G=startsV s.cues (planN h s) G∧¬(ordP (hangs s.cues)).length<s.cues.length:=by
 unfold planE at e
 split at e
 case isFalse=>cases e
 unfold planS;unfold startsP at e⊢
 split at e
 case isFalse=>cases e
 rename_i h1
 rw[if_pos h1]
 split at e
 case isFalse=>cases e
 rename_i h2
 rw[if_pos h2]
 split at e
 ·cases e
 rename_i h3
 rw[if_neg h3]
 split at e
 ·cases e
 rename_i h4
 rw[if_neg h4];exact⟨rfl,h4⟩
theorem start_man{h:HouseR}{s:SheetR}{G:List Int}(e:planE h s G=0){k:Nat}(hk:k<s.cues.length)(l:(cg s.cues k).link=1):ig (planS h s G) k=ig G (manTo s.cues k)+(cg s.cues k).delay∧manTo s.cues k<G.length:=by
 rw[(plan_starts e).1];exact⟨pass2_manual _ _ _ (Nat.le_refl _) k hk l,by rw[(plan_sheet e).2.lenG];exact manTo_lt _ _ _ hk l⟩
theorem start_off{h:HouseR}{s:SheetR}{G:List Int}(e:planE h s G=0){k:Nat}(hk:k<s.cues.length)(l:(cg s.cues k).link≠1):∃f:Nat,f<k∧findI s.cues (cg s.cues k).after=(f:Int)∧ig (planS h s G) k=(if(cg s.cues k).link=2 then ig (planS h s G) f+ig (planN h s) f else ig (planS h s G) f)+(cg s.cues k).delay:=by
 obtain⟨ok,po⟩:=plan_sheet e;obtain⟨h0,h1⟩:=(ok.each k hk).2.2.2 l;obtain⟨f,hf⟩:∃f:Nat,(f:Int)=findI s.cues (cg s.cues k).after:=⟨_,Int.toNat_of_nonneg h0⟩;obtain⟨e1,e2⟩:=plan_starts e;refine⟨f,by omega,hf.symm,?_⟩;rw[e1,startsV_other e2 _ _ k f hk (by omega) l hf.symm]
 split<;>omega
theorem begs_at(h:HouseR)(s:SheetR)(G:List Int):∀n k,k<n→beg (begsL h s G n) k=((cg s.cues k).name,ig (planS h s G) k)
 | 0,k,hk=>absurd hk (Nat.not_lt_zero _)
 | n+1,k,hk=>by
  rw[begsL_snoc];rcases Nat.lt_or_ge k n with l | l
  ·rw[beg_old _ _ _ (by rw[begsL_len];exact l)]
   exact begs_at h s G n k l
  ·obtain rfl:k=n:=by omega
   have:=beg_new (begsL h s G k) ((cg s.cues k).name,ig (planS h s G) k);rw[begsL_len]at this;exact this
theorem ends_at(h:HouseR)(s:SheetR)(G:List Int):∀n k,k<n→ig (endsL h s G n) k=ig (planS h s G) k+ig (planN h s) k
 | 0,k,hk=>absurd hk (Nat.not_lt_zero _)
 | n+1,k,hk=>by
  rw[endsL_snoc];rcases Nat.lt_or_ge k n with l | l
  ·rw[ig_old _ _ _ (by rw[endsL_len];exact l)]
   exact ends_at h s G n k l
  ·obtain rfl:k=n:=by omega
   have:=ig_new (endsL h s G k) (ig (planS h s G) k+ig (planN h s) k);rw[endsL_len]at this;exact this
end
section
open Go.RowKit Go.Shelf
attribute [local go_sem] Oper.semAt_some
theorem rof_any(n:Int)(w:World):Calls Tryz.prog 20 #[.int .i64 n] w fun e w'=>e=.returned (.agg #[.int .i64 n,.int .i64 1])∧Below w.heap.size w w':=by
 go_enter Tryz.func20,Tryz.ntmps20
 go_wp2_with fail
 refine bodyPost_ret (v:=.agg #[.int .i64 n,.int .i64 1]) (by simp[results,Tryz.results20,go_sem]) rfl ⟨rfl,?_⟩;exact below_new _ _
end
section
open Go.RowKit
def xS(a:Option Addr):SetR:=⟨⟨#[115]⟩,0,0,5000,2000,a,[0,2000],2,0,0,1,1,0,none,[],0,none,[],0⟩
def xH(a s:Option Addr):HouseR:=⟨⟨#[104]⟩,5000,s,[xS a],1,none,[],0⟩
def xM:Mv:=⟨⟨#[115]⟩,4000,200,100,100⟩
def xC(m:Option Addr):CueR:=⟨⟨#[113]⟩,⟨#[]⟩,1,0,m,[xM],1,0,0⟩
def xT(m c:Option Addr):SheetR:=⟨c,[xC m],1,none,[],0⟩
theorem xS_ok(a:Option Addr):setB (xS a)=true:=by rfl
theorem xH_ok(a s:Option Addr):houseB (xH a s)=true:=by
 refine houseB_iff.2 ⟨by rfl,(show(1:Int)≤5000 by decide),(show(5000:Int)≤1048576 by decide),(show 1≤60 by decide),⟨(show 0≤20 by decide),fun k hk=>absurd hk (Nat.not_lt_zero _)⟩,fun k hk=>?_⟩
 obtain rfl:k=0:=by
  have:k<1:=hk;omega
 exact⟨xS_ok a,(show(5000:Int)≤5000 by decide),fun i hi=>absurd hi (Nat.not_lt_zero _)⟩
theorem x_find(a s:Option Addr):findS (xH a s).sets xM.name=0:=by rfl
theorem x_right(a s m:Option Addr):RightOK (xH a s) (xC m):=by
 refine⟨⟨by rfl,.inl rfl,(show(0:Int)≤0∧(0:Int)≤2147483648 by decide),(show(0:Int)≤0∧(0:Int)≤100 by decide),(show(0:Int)≤0∧(0:Int)≤100 by decide)⟩,fun i hi=>?_⟩
 obtain rfl:i=0:=by
  have:i<1:=hi;omega
 exact⟨by rfl,(show(0:Int)≤0 by decide),(show(0:Int)≤4000 by decide),(show(4000:Int)≤5000 by decide),fun j hj=>absurd hj (Nat.not_lt_zero _)⟩
theorem x_sheet(a s m c:Option Addr):SheetOK (xH a s) (xT m c):=by
 refine⟨xH_ok a s,(show 1≤60 by decide),(show 1≤100 by decide),fun k hk=>?_,⟨(show 0≤1000 by decide),fun i hi=>absurd hi (Nat.not_lt_zero _)⟩⟩
 obtain rfl:k=0:=by
  have:k<1:=hk;omega
 exact⟨x_right a s m,by rfl,fun _=>rfl,fun n=>absurd rfl n⟩
theorem x_given:givenP 1000 xM=0:=by rfl
theorem x_istop:IsTop 1000 xM.spd xM.rise xM.fall 200:=⟨by decide,by decide,by unfold Room;decide,.inl rfl⟩
theorem x_top:topV 1000 xM=200:=top_unique (by decide) (by decide) (top_is x_given) x_istop
theorem x_tm:tmF 1000 xM=(7,1):=by
 unfold tmF;rw[x_top]
 decide+kernel
theorem x_len(a s m:Option Addr):lenTo (xH a s) (highsL (xH a s)) (xC m).moves=(7,1):=by
 show moreF (tmF (moveD (xH a s) (highsL (xH a s)) xM) xM) (0,1)=(7,1);rw[show moveD (xH a s) (highsL (xH a s)) xM=1000 from rfl,x_tm]
 decide+kernel
theorem x_lens(a s m c:Option Addr):planN (xH a s) (xT m c)=[7000]:=by
 unfold planN lensL;rw[show(xT m c).cues.length=1 from rfl,show List.range 1=[0]from rfl,List.map_cons,List.map_nil];show[msF (lenTo (xH a s) (highsL (xH a s)) (xC m).moves)]=_;rw[x_len]
 decide+kernel
theorem x_starts(m c:Option Addr):startsP (xT m c).cues (xT m c).pairs [7000] [2000]=([2000],0):=by
 rfl
theorem x_planE(a s m c:Option Addr):planE (xH a s) (xT m c) [2000]=0:=by
 unfold planE;rw[if_pos (sheetB_iff.2 (x_sheet a s m c)),x_lens,x_starts]
theorem x_planS(a s m c:Option Addr):planS (xH a s) (xT m c) [2000]=[2000]:=by
 unfold planS;rw[x_lens,x_starts]
theorem x_begs(a s m c:Option Addr):begsP (xH a s) (xT m c) [2000]=[(⟨#[113]⟩,2000)]:=by
 unfold begsP begsL;rw[if_pos (x_planE a s m c),x_planS]
 rfl
theorem x_ends(a s m c:Option Addr):endsP (xH a s) (xT m c) [2000]=[9000]:=by
 unfold endsP endsL;rw[if_pos (x_planE a s m c),x_planS,x_lens]
 rfl
deriving instance DecidableEq for Pc
def xW:List Pc:=[⟨0,1,0,1,0,1,50,1⟩,⟨2,1,200,1,200,1,0,1⟩,⟨5,1,800,1,200,1,-50,1⟩,⟨7,1,1000,1,0,1,0,1⟩]
def xP:List Pc:=[⟨0,1,5000,1,0,1,0,1⟩,⟨2,1,5000,1,0,1,-50,1⟩,⟨4,1,4800,1,-200,1,0,1⟩,⟨7,1,4200,1,-200,1,50,1⟩,⟨9,1,4000,1,0,1,0,1⟩]
theorem x_curve:curveL 1000 xM.rise xM.fall (topV 1000 xM)=xW:=by
 rw[x_top]
 decide+kernel
theorem x_path1(a s m c:Option Addr):pathTo (xH a s) (xT m c).cues [2000] 0 1=(xP,0):=by
 rw[pathTo_go (h:=xH a s) (C:=(xT m c).cues) (S:=[2000]) (k:=0) (n:=0) (m:=xM) (z:=5000) (d:=1000) (W:=xW) rfl (by rfl) (by rfl) (by rfl) (by decide) (by decide) x_curve];show wayTo 2000 5000 (decide ((4000:Int)>5000)) [⟨0,1,5000,1,0,1,0,1⟩] xW 4=_
 decide+kernel
theorem x_pathP(a s m c:Option Addr):pathP (xH a s) (xT m c).cues [2000] 0=(xP,0):=by
 have e:pathTo (xH a s) (xT m c).cues [2000] 0 (xT m c).cues.length=(xP,0):=x_path1 a s m c;rw[pathP_ok (by rw[e]) (by rw[e];decide),e]
theorem x_ordr(m c:Option Addr):ordrB (xT m c).cues [2000] [7000]=true:=ordrB_iff.2 fun i hi k hk=>by
 have:i<1:=hi;omega
theorem x_ok:CurveOK xP:=⟨by decide,by decide,fun i hi=>by
  have hi':i<5:=hi;obtain rfl | rfl | rfl | rfl | rfl:i=0∨i=1∨i=2∨i=3∨i=4:=by omega
  all_goals exact⟨by decide+kernel,by decide+kernel,by decide+kernel,by decide+kernel⟩,fun i hi=>by
  have hi':i+1<5:=hi;obtain rfl | rfl | rfl | rfl:i=0∨i=1∨i=2∨i=3:=by omega
  all_goals decide+kernel⟩
theorem x_pathE(a s m c:Option Addr):pathE (xH a s) (xT m c) [2000] ⟨#[115]⟩=(xP,0):=by
 unfold pathE;rw[x_planE,if_pos rfl,x_planS,x_lens,x_ordr m c,if_neg (show ¬findS (xH a s).sets ⟨#[115]⟩<0 from by rw[show findS (xH a s).sets ⟨#[115]⟩=0 from x_find a s];decide),show findS (xH a s).sets ⟨#[115]⟩=0 from x_find a s,if_pos rfl];exact x_pathP a s m c
theorem x_atE(a s m c:Option Addr):atE (xH a s) (xT m c) [2000] 5000=([(4600,1)],0):=by
 unfold atE;rw[x_planE,if_pos rfl,x_planS,x_lens,x_ordr m c,if_neg (by decide),if_pos rfl]
 have e:setAt (xH a s) (xT m c).cues [2000] 5000 0=(4600,1,0):=by
  unfold setAt;rw[x_pathP,if_pos rfl]
  decide+kernel
 show atTo (xH a s) (xT m c).cues [2000] 5000 1=_;rw[atTo_next rfl (by rw[e]),e]
 rfl
end
end Go.Proofs.YtebofaenlhhkaaaGreat
