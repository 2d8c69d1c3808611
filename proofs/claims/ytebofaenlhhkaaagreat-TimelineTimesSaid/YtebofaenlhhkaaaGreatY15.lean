import Derived.Test.YtebofaenlhhkaaaGreatY12
import Derived.Test.YtebofaenlhhkaaaGreatY14
import Derived.Test.YtebofaenlhhkaaaGreatY17
namespace Go.Proofs.YtebofaenlhhkaaaGreat
set_option maxRecDepth 100000
set_option maxHeartbeats 80000000
set_option linter.unusedSimpArgs false
section
open Go.RowKit Go.Shelf
theorem ARe{an ad bn bd na nb x y:Int}(hna:(an.natAbs:Int)=na)(hnb:(bn.natAbs:Int)=nb)(hx:na*bd=x)(hy:nb*ad=y):(an<0→an*bd=-x)∧(¬an<0→an*bd=x)∧(bn<0→bn*ad=-y)∧(¬bn<0→bn*ad=y):=by
 subst hx;subst hy;refine⟨fun h=>?_,fun h=>?_,fun h=>?_,fun h=>?_⟩
 ·rw[←hna,show(an.natAbs:Int)=-an by omega,Int.neg_mul,Int.neg_neg]
 ·rw[←hna,show(an.natAbs:Int)=an by omega]
 ·rw[←hnb,show(bn.natAbs:Int)=-bn by omega,Int.neg_mul,Int.neg_neg]
 ·rw[←hnb,show(bn.natAbs:Int)=bn by omega]
theorem AIw(an ad bn bd:Int)(va:Cf an ad=true)(vb:Cf bn bd=true)(w:World):
  Calls Tryz.prog 109 #[.agg #[.int .i64 an,.int .i64 ad],.agg #[.int .i64 bn,.int .i64 bd]] w fun e w'=>e=.returned (.tuple #[.int .i64 (Iy (an*bd) (bn*ad)),.int .i64 0])∧Below w.heap.size w w':=by
 obtain⟨a1,a2,a3,a4,a5⟩:=(Bj _ _).1 va;obtain⟨b1,b2,b3,b4,b5⟩:=(Bj _ _).1 vb;have HVA:=lh va;have HVB:=lh vb;obtain⟨na,hna⟩:=nm ((an.natAbs:Int):Int);obtain⟨nb,hnb⟩:=nm ((bn.natAbs:Int):Int);have na0:0≤na:=by omega
 have nb0:0≤nb:=by omega
 have na1:na<18446744073709551616:=by omega
 have nb1:nb<18446744073709551616:=by omega
 have ad0:0≤ad:=by omega
 have bd0:0≤bd:=by omega
 have ad1:ad<18446744073709551616:=by omega
 have bd1:bd<18446744073709551616:=by omega
 have Z1:Hid (∀w:World,Calls Tryz.prog 89 #[.int .i64 an] w fun e w'=>e=.returned (.int .u64 na)∧w=w'):=lh fun w=>by have:=Dm an (by omega) (by omega) w;rwa [hna]at this
 have Z2:Hid (∀w:World,Calls Tryz.prog 89 #[.int .i64 bn] w fun e w'=>e=.returned (.int .u64 nb)∧w=w'):=lh fun w=>by have:=Dm bn (by omega) (by omega) w;rwa [hnb]at this
 obtain⟨x,hx⟩:=nm (na*bd:Int);obtain⟨y,hy⟩:=nm (nb*ad:Int);have x0:0≤x:=by rw[←hx];exact Int.mul_nonneg na0 bd0
 have y0:0≤y:=by rw[←hy];exact Int.mul_nonneg nb0 ad0
 have yp:bn<0→0<y:=fun h=>by rw[←hy];exact Int.mul_pos (by omega) (by omega)
 have xp:an<0→0<x:=fun h=>by rw[←hx];exact Int.mul_pos (by omega) (by omega)
 have wa:IntKind.u64.wrap ad=ad:=by rw[IntKind.wrap_u64];omega
 have wb:IntKind.u64.wrap bd=bd:=by rw[IntKind.wrap_u64];omega
 have HX:=lh hx;have HY:=lh hy;have HM:=lh (ARe hna hnb hx hy);have HXP:=lh xp;have HYP:=lh yp;obtain⟨C,hC⟩:=nm (Iy (an*bd) (bn*ad));rw[hC];have HC:=lh hC;clear hC hx hy hna hnb va vb a5 b5 xp yp
 go_enter Tryz.func109,Tryz.ntmps109
 go_upto_region 3 with (first
  | (go_at_call 68;go_fit (Df an ad _);rintro e w1 ⟨rfl,hb1⟩;rw[HVA.out];have z0:w1.cell? ⟨w.heap.size,0,none⟩=some (.int .i64 an):=(hb1.cell (p:=⟨w.heap.size,0,none⟩) (by simp<;>omega)).trans (by simp[go_sem,World.cell?_alloc_past]);have z1:w1.cell? ⟨w.heap.size,1,none⟩=some (.int .i64 ad):=(hb1.cell (p:=⟨w.heap.size,1,none⟩) (by simp<;>omega)).trans (by simp[go_sem,World.cell?_alloc_past]);have z2:w1.cell? ⟨w.heap.size+1,0,none⟩=some (.int .i64 bn):=(hb1.cell (p:=⟨w.heap.size+1,0,none⟩) (by simp<;>omega)).trans (by simp[go_sem]);have z3:w1.cell? ⟨w.heap.size+1,1,none⟩=some (.int .i64 bd):=(hb1.cell (p:=⟨w.heap.size+1,1,none⟩) (by simp<;>omega)).trans (by simp[go_sem]))
  | (go_at_call 68;go_fit (Df bn bd _);rintro e w2 ⟨rfl,hb2⟩;rw[HVB.out];have z4:w2.cell? ⟨w.heap.size,0,none⟩=some (.int .i64 an):=(ct hb2 z0 (wl z0));have z7:w2.cell? ⟨w.heap.size+1,0,none⟩=some (.int .i64 bn):=(ct hb2 z2 (wl z2));have z5:w2.cell? ⟨w.heap.size,1,none⟩=some (.int .i64 ad):=(ct hb2 z1 (wl z1));have z6:w2.cell? ⟨w.heap.size+1,1,none⟩=some (.int .i64 bd):=(ct hb2 z3 (wl z3))))
 have hW:Below w.heap.size w w2:=((Aa w (.cells #[.int .i64 an,.int .i64 ad] 49)).alloc (by simp) (.cells #[.int .i64 bn,.int .i64 bd] 49)).trans ((hb1.trans (hb2.mono hb1.size)).mono (by simp<;>omega));have hz:w.heap.size+1<w2.heap.size:=wl z6;clear hb1 hb2 z0 z1 z2 z3;generalize w2=W0 at *
 have HK:Hid (∀w',Below W0.heap.size W0 w'→Below w.heap.size w w'∧w'.cell? ⟨w.heap.size,0,none⟩=some (.int .i64 an)∧w'.cell? ⟨w.heap.size,1,none⟩=some (.int .i64 ad)∧w'.cell? ⟨w.heap.size+1,0,none⟩=some (.int .i64 bn)∧w'.cell? ⟨w.heap.size+1,1,none⟩=some (.int .i64 bd)):=lh fun w' h=>
  ⟨hW.trans (h.mono (by omega)),(ct h z4),(ct h z5),(ct h z7),(ct h z6)⟩
 have HS:Hid (∀w',Below W0.heap.size W0 w'→Below W0.heap.size W0 w'∧w'.cell? ⟨w.heap.size,0,none⟩=some (.int .i64 an)∧w'.cell? ⟨w.heap.size,1,none⟩=some (.int .i64 ad)∧w'.cell? ⟨w.heap.size+1,0,none⟩=some (.int .i64 bn)∧w'.cell? ⟨w.heap.size+1,1,none⟩=some (.int .i64 bd)):=lh fun w' h=>⟨h,(HK.out _ h).2⟩;clear z4 z5 z6 z7 hW
 go_cut [6,7] (fun v6 v7 wx=>∃Bx By:Nat,v6=.pointer (some ⟨Bx,0,none⟩)∧v7=.pointer (some ⟨By,0,none⟩)∧Bx≠By∧W0.heap.size≤Bx∧W0.heap.size≤By∧Below W0.heap.size W0 wx∧FC wx Bx (Cr x) (Cy x)∧FC wx By (Cr y) (Cy y))
 case first=>
  refine wp_region_held_drew (S:=fun w'=>Below W0.heap.size W0 w'∧w'.cell? ⟨w.heap.size,0,none⟩=some (.int .i64 an)∧w'.cell? ⟨w.heap.size,1,none⟩=some (.int .i64 ad)∧w'.cell? ⟨w.heap.size+1,0,none⟩=some (.int .i64 bn)∧w'.cell? ⟨w.heap.size+1,1,none⟩=some (.int .i64 bd)) (by kernel_rfl) (HS.out _ (br).drew) (fun hHeld=>?_);have hB0:=(Below.refl W0.heap.size W0).drew;obtain⟨w0,hw0⟩:=nm (W0.drew);simp only[hw0]at hB0 hHeld⊢;clear hw0;refine tkB 0 ?_;simp only[Act.put,Co,Cp,Cn,Ba,Az];refine tk 1 ?_;refine Gz (i:=2) (oi:=_) (v:=.int .u64 na) rfl (by kernel_rfl) (by kernel_rfl) (by kernel_rfl) (fun _ _ _ h=>h) ⟨by rfl,89,#[.int .i64 an],?_,fun w _=>Z1.out w⟩ (by assumption) ?_
  ·(intro w hSw;(try dsimp only at hSw);go_split_ands;(try simp only[Ba,Bc,Az]);go_simp;try with_reducible rfl)
  simp only[Act.put,Co,Cp,Cn,Ba,Bc,Az];refine tk 3 ?_;refine tk 4 ?_;refine tk 5 ?_;refine tk 7 ?_;refine tk 8 ?_;refine tk 10 ?_;refine tk 11 ?_;refine tk 12 ?_;refine rq [6,14,15] ?_;refine AllReadyH.cons (o:=_) rfl (fun K hK=>?_) (AllReadyH.cons (o:=_) rfl (fun K hK=>?_) (AllReadyH.cons (o:=_) rfl (fun K hK=>?_) (AllReadyH.nil)))
  ·try simp only[Ba,Bc,Az]
   go_simp
   (go_at_call 110;go_split_ands;go_fit (Cg na bd na0 na1 bd0 bd1 _);rintro e w1 ⟨rfl,hb1⟩;rw[HX.out])
   go_wp2_with fail
   have hB1:=hB0.trans (hb1.mono hB0.size);refine hK.out _ _ (HS.out _ hB1) (fun hHeld=>?_);clear hK K
   try simp only[Act.put,Co,Cp,Cn,Ba,Bc,Az]
   refine Gz (i:=9) (oi:=_) (v:=.int .u64 nb) rfl (by kernel_rfl) (by kernel_rfl) (by kernel_rfl) (fun _ _ _ h=>h) ⟨by rfl,89,#[.int .i64 bn],?_,fun w _=>Z2.out w⟩ (by assumption) ?_
   ·(intro w hSw;(try dsimp only at hSw);go_split_ands;(try simp only[Ba,Bc,Az]);go_simp;try with_reducible rfl)
   simp only[Act.put,Co,Cp,Cn,Ba,Bc,Az];refine rq [13,14,15] ?_;refine AllReadyH.cons (o:=_) rfl (fun K hK=>?_) (AllReadyH.cons (o:=_) rfl (fun K hK=>?_) (AllReadyH.cons (o:=_) rfl (fun K hK=>?_) (AllReadyH.nil)))
   ·try simp only[Ba,Bc,Az]
    go_simp
    (go_at_call 110;go_split_ands;go_fit (Cg nb ad nb0 nb1 ad0 ad1 _);rintro e w2 ⟨rfl,hb2⟩;rw[HY.out])
    go_wp2_with fail
    have hB2:=hB1.trans (hb2.mono hB1.size);refine hK.out _ _ (HS.out _ hB2) (fun hHeld=>?_);clear hK K
    try simp only[Act.put,Co,Cp,Cn,Ba,Bc,Az]
    refine rq [14,15] ?_;refine AllReadyH.cons (o:=_) rfl (fun K hK=>?_) (AllReadyH.cons (o:=_) rfl (fun K hK=>?_) (AllReadyH.nil))
    focus
     try simp only[Ba,Bc,Az]
     go_split_ands
     go_wp2_with fail
     have hB3:=Aw (.cells #[.int .u64 0,.int .u64 0] 184) hB2;have FBx:=FC.new w2 184;obtain⟨Bx,hBx⟩:=nm (w2.heap.size);have hloBx:W0.heap.size≤Bx:=by have:=hB2.size;omega
     simp only[hBx]at FBx⊢;generalize w2.alloc (.cells #[.int .u64 0,.int .u64 0] 184)=w3 at *;refine hK.out _ _ (HS.out _ hB3) (fun hHeld=>?_);clear hK K
     try simp only[Act.put,Co,Cp,Cn,Ba,Bc,Az]
     have bltBx:=FBx.2.2.2.2;refine r1 15 (fun K hK=>?_)
     try simp only[Ba,Bc,Az]
     go_split_ands
     go_wp2_with fail
     have hB4:=Aw (.cells #[.int .u64 0,.int .u64 0] 184) hB3;have FBx:=FBx.carry (Aa _ (.cells #[.int .u64 0,.int .u64 0] 184));have FBy:=FC.new w3 184;obtain⟨By,hBy⟩:=nm (w3.heap.size);have neBxBy:Bx≠By:=by have:=(bltBx);omega
     have hloBy:W0.heap.size≤By:=by have:=hB3.size;omega
     simp only[hBy]at FBy⊢;generalize w3.alloc (.cells #[.int .u64 0,.int .u64 0] 184)=w4 at *;refine hK.out _ _ (HS.out _ hB4) (fun hHeld=>?_);clear hK K
     try simp only[Act.put,Co,Cp,Cn,Ba,Bc,Az]
     have bltBx:=FBx.2.2.2.2;have bltBy:=FBy.2.2.2.2;refine r1 16 (fun K hK=>?_)
     try simp only[Ba,Bc,Az]
     go_split_ands;obtain⟨fa,fb,fc,fd,fe⟩:=FBx
     go_wp2_with fail
     have hB5:=Ad ⟨Bx,1,none⟩ (.int .u64 (Cy x)) (Ad ⟨Bx,0,none⟩ (.int .u64 (Cr x)) hB4 hloBx) hloBx;have FBy:=FBy.other (by first | exact neByBx | exact neBxBy.symm) (Cr x) (Cy x);have FBx:=FC.set ⟨fa,fb,fc,fd,fe⟩ (Cr x) (Cy x);clear fa fb fc fd fe;generalize ((w4.setCell ⟨Bx,0,none⟩ (.int .u64 (Cr x))).setCell ⟨Bx,1,none⟩ (.int .u64 (Cy x)))=w5 at *;refine hK.out _ _ (HS.out _ hB5) (fun hHeld=>?_);clear hK K
     try simp only[Act.put,Co,Cp,Cn,Ba,Bc,Az]
     have bltBx:=FBx.2.2.2.2;have bltBy:=FBy.2.2.2.2;refine r1 17 (fun K hK=>?_)
     try simp only[Ba,Bc,Az]
     go_split_ands;obtain⟨fa,fb,fc,fd,fe⟩:=FBy
     go_wp2_with fail
     have hB6:=Ad ⟨By,1,none⟩ (.int .u64 (Cy y)) (Ad ⟨By,0,none⟩ (.int .u64 (Cr y)) hB5 hloBy) hloBy;have FBx:=FBx.other (by first | exact neBxBy | exact neByBx.symm) (Cr y) (Cy y);have FBy:=FC.set ⟨fa,fb,fc,fd,fe⟩ (Cr y) (Cy y);clear fa fb fc fd fe;generalize ((w5.setCell ⟨By,0,none⟩ (.int .u64 (Cr y))).setCell ⟨By,1,none⟩ (.int .u64 (Cy y)))=w6 at *;refine hK.out _ _ (HS.out _ hB6) (fun hHeld=>?_);clear hK K
     try simp only[Act.put,Co,Cp,Cn,Ba,Bc,Az]
     have bltBx:=FBx.2.2.2.2;have bltBy:=FBy.2.2.2.2
    rotate_left
    focus
     try simp only[Ba,Bc,Az]
     go_split_ands
     go_wp2_with fail
     have hB3:=Aw (.cells #[.int .u64 0,.int .u64 0] 184) hB2;have FBy:=FC.new w2 184;obtain⟨By,hBy⟩:=nm (w2.heap.size);have hloBy:W0.heap.size≤By:=by have:=hB2.size;omega
     simp only[hBy]at FBy⊢;generalize w2.alloc (.cells #[.int .u64 0,.int .u64 0] 184)=w3 at *;refine hK.out _ _ (HS.out _ hB3) (fun hHeld=>?_);clear hK K
     try simp only[Act.put,Co,Cp,Cn,Ba,Bc,Az]
     have bltBy:=FBy.2.2.2.2;refine r1 14 (fun K hK=>?_)
     try simp only[Ba,Bc,Az]
     go_split_ands
     go_wp2_with fail
     have hB4:=Aw (.cells #[.int .u64 0,.int .u64 0] 184) hB3;have FBy:=FBy.carry (Aa _ (.cells #[.int .u64 0,.int .u64 0] 184));have FBx:=FC.new w3 184;obtain⟨Bx,hBx⟩:=nm (w3.heap.size);have neByBx:By≠Bx:=by have:=(bltBy);omega
     have hloBx:W0.heap.size≤Bx:=by have:=hB3.size;omega
     simp only[hBx]at FBx⊢;generalize w3.alloc (.cells #[.int .u64 0,.int .u64 0] 184)=w4 at *;refine hK.out _ _ (HS.out _ hB4) (fun hHeld=>?_);clear hK K
     try simp only[Act.put,Co,Cp,Cn,Ba,Bc,Az]
     have bltBy:=FBy.2.2.2.2;have bltBx:=FBx.2.2.2.2;refine r1 16 (fun K hK=>?_)
     try simp only[Ba,Bc,Az]
     go_split_ands;obtain⟨fa,fb,fc,fd,fe⟩:=FBx
     go_wp2_with fail
     have hB5:=Ad ⟨Bx,1,none⟩ (.int .u64 (Cy x)) (Ad ⟨Bx,0,none⟩ (.int .u64 (Cr x)) hB4 hloBx) hloBx;have FBy:=FBy.other (by first | exact neByBx | exact neBxBy.symm) (Cr x) (Cy x);have FBx:=FC.set ⟨fa,fb,fc,fd,fe⟩ (Cr x) (Cy x);clear fa fb fc fd fe;generalize ((w4.setCell ⟨Bx,0,none⟩ (.int .u64 (Cr x))).setCell ⟨Bx,1,none⟩ (.int .u64 (Cy x)))=w5 at *;refine hK.out _ _ (HS.out _ hB5) (fun hHeld=>?_);clear hK K
     try simp only[Act.put,Co,Cp,Cn,Ba,Bc,Az]
     have bltBy:=FBy.2.2.2.2;have bltBx:=FBx.2.2.2.2;refine r1 17 (fun K hK=>?_)
     try simp only[Ba,Bc,Az]
     go_split_ands;obtain⟨fa,fb,fc,fd,fe⟩:=FBy
     go_wp2_with fail
     have hB6:=Ad ⟨By,1,none⟩ (.int .u64 (Cy y)) (Ad ⟨By,0,none⟩ (.int .u64 (Cr y)) hB5 hloBy) hloBy;have FBx:=FBx.other (by first | exact neBxBy | exact neByBx.symm) (Cr y) (Cy y);have FBy:=FC.set ⟨fa,fb,fc,fd,fe⟩ (Cr y) (Cy y);clear fa fb fc fd fe;generalize ((w5.setCell ⟨By,0,none⟩ (.int .u64 (Cr y))).setCell ⟨By,1,none⟩ (.int .u64 (Cy y)))=w6 at *;refine hK.out _ _ (HS.out _ hB6) (fun hHeld=>?_);clear hK K
     try simp only[Act.put,Co,Cp,Cn,Ba,Bc,Az]
     have bltBy:=FBy.2.2.2.2;have bltBx:=FBx.2.2.2.2
    rotate_left
    all_goals
     refine wpAnyH_done (by kernel_rfl) ?_ _;have hB:=hB6
     go_wp2_with fail
     go_meet
     exact⟨Bx,By,rfl,rfl,by first | exact neBxBy | exact neByBx.symm,hloBx,hloBy,hB,FBx,FBy⟩
   ·try simp only[Ba,Bc,Az]
    go_split_ands
    go_wp2_with fail
    have hB2:=Aw (.cells #[.int .u64 0,.int .u64 0] 184) hB1;have FBx:=FC.new w1 184;obtain⟨Bx,hBx⟩:=nm (w1.heap.size);have hloBx:W0.heap.size≤Bx:=by have:=hB1.size;omega
    simp only[hBx]at FBx⊢;generalize w1.alloc (.cells #[.int .u64 0,.int .u64 0] 184)=w2 at *;refine hK.out _ _ (HS.out _ hB2) (fun hHeld=>?_);clear hK K
    try simp only[Act.put,Co,Cp,Cn,Ba,Bc,Az]
    have bltBx:=FBx.2.2.2.2;refine rq [13,15] ?_;refine AllReadyH.cons (o:=_) rfl (fun K hK=>?_) (AllReadyH.cons (o:=_) rfl (fun K hK=>?_) (AllReadyH.nil))
    focus
     try simp only[Ba,Bc,Az]
     go_simp
     (go_at_call 110;go_split_ands;go_fit (Cg nb ad nb0 nb1 ad0 ad1 _);rintro e w3 ⟨rfl,hb3⟩;rw[HY.out])
     go_wp2_with fail
     have hB3:=hB2.trans (hb3.mono hB2.size);have FBx:=FBx.carry hb3;refine hK.out _ _ (HS.out _ hB3) (fun hHeld=>?_);clear hK K
     try simp only[Act.put,Co,Cp,Cn,Ba,Bc,Az]
     have bltBx:=FBx.2.2.2.2;refine r1 15 (fun K hK=>?_)
     try simp only[Ba,Bc,Az]
     go_split_ands
     go_wp2_with fail
     have hB4:=Aw (.cells #[.int .u64 0,.int .u64 0] 184) hB3;have FBx:=FBx.carry (Aa _ (.cells #[.int .u64 0,.int .u64 0] 184));have FBy:=FC.new w3 184;obtain⟨By,hBy⟩:=nm (w3.heap.size);have neBxBy:Bx≠By:=by have:=(bltBx);omega
     have hloBy:W0.heap.size≤By:=by have:=hB3.size;omega
     simp only[hBy]at FBy⊢;generalize w3.alloc (.cells #[.int .u64 0,.int .u64 0] 184)=w4 at *
    rotate_left
    focus
     try simp only[Ba,Bc,Az]
     go_split_ands
     go_wp2_with fail
     have hB3:=Aw (.cells #[.int .u64 0,.int .u64 0] 184) hB2;have FBx:=FBx.carry (Aa _ (.cells #[.int .u64 0,.int .u64 0] 184));have FBy:=FC.new w2 184;obtain⟨By,hBy⟩:=nm (w2.heap.size);have neBxBy:Bx≠By:=by have:=(bltBx);omega
     have hloBy:W0.heap.size≤By:=by have:=hB2.size;omega
     simp only[hBy]at FBy⊢;generalize w2.alloc (.cells #[.int .u64 0,.int .u64 0] 184)=w3 at *;refine hK.out _ _ (HS.out _ hB3) (fun hHeld=>?_);clear hK K
     try simp only[Act.put,Co,Cp,Cn,Ba,Bc,Az]
     have bltBx:=FBx.2.2.2.2;have bltBy:=FBy.2.2.2.2;refine r1 13 (fun K hK=>?_)
     try simp only[Ba,Bc,Az]
     go_simp
     (go_at_call 110;go_split_ands;go_fit (Cg nb ad nb0 nb1 ad0 ad1 _);rintro e w4 ⟨rfl,hb4⟩;rw[HY.out])
     go_wp2_with fail
     have hB4:=hB3.trans (hb4.mono hB3.size);have FBx:=FBx.carry hb4;have FBy:=FBy.carry hb4
    rotate_left
    all_goals
     refine hK.out _ _ (HS.out _ hB4) (fun hHeld=>?_);clear hK K
     try simp only[Act.put,Co,Cp,Cn,Ba,Bc,Az]
     have bltBx:=FBx.2.2.2.2;have bltBy:=FBy.2.2.2.2;refine r1 16 (fun K hK=>?_)
     try simp only[Ba,Bc,Az]
     go_split_ands;obtain⟨fa,fb,fc,fd,fe⟩:=FBx
     go_wp2_with fail
     have hB5:=Ad ⟨Bx,1,none⟩ (.int .u64 (Cy x)) (Ad ⟨Bx,0,none⟩ (.int .u64 (Cr x)) hB4 hloBx) hloBx;have FBy:=FBy.other (by first | exact neByBx | exact neBxBy.symm) (Cr x) (Cy x);have FBx:=FC.set ⟨fa,fb,fc,fd,fe⟩ (Cr x) (Cy x);clear fa fb fc fd fe;generalize ((w4.setCell ⟨Bx,0,none⟩ (.int .u64 (Cr x))).setCell ⟨Bx,1,none⟩ (.int .u64 (Cy x)))=w5 at *;refine hK.out _ _ (HS.out _ hB5) (fun hHeld=>?_);clear hK K
     try simp only[Act.put,Co,Cp,Cn,Ba,Bc,Az]
     have bltBx:=FBx.2.2.2.2;have bltBy:=FBy.2.2.2.2;refine r1 17 (fun K hK=>?_)
     try simp only[Ba,Bc,Az]
     go_split_ands;obtain⟨fa,fb,fc,fd,fe⟩:=FBy
     go_wp2_with fail
     have hB6:=Ad ⟨By,1,none⟩ (.int .u64 (Cy y)) (Ad ⟨By,0,none⟩ (.int .u64 (Cr y)) hB5 hloBy) hloBy;have FBx:=FBx.other (by first | exact neBxBy | exact neByBx.symm) (Cr y) (Cy y);have FBy:=FC.set ⟨fa,fb,fc,fd,fe⟩ (Cr y) (Cy y);clear fa fb fc fd fe;generalize ((w5.setCell ⟨By,0,none⟩ (.int .u64 (Cr y))).setCell ⟨By,1,none⟩ (.int .u64 (Cy y)))=w6 at *;refine hK.out _ _ (HS.out _ hB6) (fun hHeld=>?_);clear hK K
     try simp only[Act.put,Co,Cp,Cn,Ba,Bc,Az]
     have bltBx:=FBx.2.2.2.2;have bltBy:=FBy.2.2.2.2;refine wpAnyH_done (by kernel_rfl) ?_ _;have hB:=hB6
     go_wp2_with fail
     go_meet
     exact⟨Bx,By,rfl,rfl,by first | exact neBxBy | exact neByBx.symm,hloBx,hloBy,hB,FBx,FBy⟩
   ·try simp only[Ba,Bc,Az]
    go_split_ands
    go_wp2_with fail
    have hB2:=Aw (.cells #[.int .u64 0,.int .u64 0] 184) hB1;have FBy:=FC.new w1 184;obtain⟨By,hBy⟩:=nm (w1.heap.size);have hloBy:W0.heap.size≤By:=by have:=hB1.size;omega
    simp only[hBy]at FBy⊢;generalize w1.alloc (.cells #[.int .u64 0,.int .u64 0] 184)=w2 at *;refine hK.out _ _ (HS.out _ hB2) (fun hHeld=>?_);clear hK K
    try simp only[Act.put,Co,Cp,Cn,Ba,Bc,Az]
    have bltBy:=FBy.2.2.2.2;refine rq [13,14] ?_;refine AllReadyH.cons (o:=_) rfl (fun K hK=>?_) (AllReadyH.cons (o:=_) rfl (fun K hK=>?_) (AllReadyH.nil))
    focus
     try simp only[Ba,Bc,Az]
     go_simp
     (go_at_call 110;go_split_ands;go_fit (Cg nb ad nb0 nb1 ad0 ad1 _);rintro e w3 ⟨rfl,hb3⟩;rw[HY.out])
     go_wp2_with fail
     have hB3:=hB2.trans (hb3.mono hB2.size);have FBy:=FBy.carry hb3;refine hK.out _ _ (HS.out _ hB3) (fun hHeld=>?_);clear hK K
     try simp only[Act.put,Co,Cp,Cn,Ba,Bc,Az]
     have bltBy:=FBy.2.2.2.2;refine r1 14 (fun K hK=>?_)
     try simp only[Ba,Bc,Az]
     go_split_ands
     go_wp2_with fail
     have hB4:=Aw (.cells #[.int .u64 0,.int .u64 0] 184) hB3;have FBy:=FBy.carry (Aa _ (.cells #[.int .u64 0,.int .u64 0] 184));have FBx:=FC.new w3 184;obtain⟨Bx,hBx⟩:=nm (w3.heap.size);have neByBx:By≠Bx:=by have:=(bltBy);omega
     have hloBx:W0.heap.size≤Bx:=by have:=hB3.size;omega
     simp only[hBx]at FBx⊢;generalize w3.alloc (.cells #[.int .u64 0,.int .u64 0] 184)=w4 at *
    rotate_left
    focus
     try simp only[Ba,Bc,Az]
     go_split_ands
     go_wp2_with fail
     have hB3:=Aw (.cells #[.int .u64 0,.int .u64 0] 184) hB2;have FBy:=FBy.carry (Aa _ (.cells #[.int .u64 0,.int .u64 0] 184));have FBx:=FC.new w2 184;obtain⟨Bx,hBx⟩:=nm (w2.heap.size);have neByBx:By≠Bx:=by have:=(bltBy);omega
     have hloBx:W0.heap.size≤Bx:=by have:=hB2.size;omega
     simp only[hBx]at FBx⊢;generalize w2.alloc (.cells #[.int .u64 0,.int .u64 0] 184)=w3 at *;refine hK.out _ _ (HS.out _ hB3) (fun hHeld=>?_);clear hK K
     try simp only[Act.put,Co,Cp,Cn,Ba,Bc,Az]
     have bltBy:=FBy.2.2.2.2;have bltBx:=FBx.2.2.2.2;refine r1 13 (fun K hK=>?_)
     try simp only[Ba,Bc,Az]
     go_simp
     (go_at_call 110;go_split_ands;go_fit (Cg nb ad nb0 nb1 ad0 ad1 _);rintro e w4 ⟨rfl,hb4⟩;rw[HY.out])
     go_wp2_with fail
     have hB4:=hB3.trans (hb4.mono hB3.size);have FBy:=FBy.carry hb4;have FBx:=FBx.carry hb4
    rotate_left
    all_goals
     refine hK.out _ _ (HS.out _ hB4) (fun hHeld=>?_);clear hK K
     try simp only[Act.put,Co,Cp,Cn,Ba,Bc,Az]
     have bltBy:=FBy.2.2.2.2;have bltBx:=FBx.2.2.2.2;refine r1 16 (fun K hK=>?_)
     try simp only[Ba,Bc,Az]
     go_split_ands;obtain⟨fa,fb,fc,fd,fe⟩:=FBx
     go_wp2_with fail
     have hB5:=Ad ⟨Bx,1,none⟩ (.int .u64 (Cy x)) (Ad ⟨Bx,0,none⟩ (.int .u64 (Cr x)) hB4 hloBx) hloBx;have FBy:=FBy.other (by first | exact neByBx | exact neBxBy.symm) (Cr x) (Cy x);have FBx:=FC.set ⟨fa,fb,fc,fd,fe⟩ (Cr x) (Cy x);clear fa fb fc fd fe;generalize ((w4.setCell ⟨Bx,0,none⟩ (.int .u64 (Cr x))).setCell ⟨Bx,1,none⟩ (.int .u64 (Cy x)))=w5 at *;refine hK.out _ _ (HS.out _ hB5) (fun hHeld=>?_);clear hK K
     try simp only[Act.put,Co,Cp,Cn,Ba,Bc,Az]
     have bltBy:=FBy.2.2.2.2;have bltBx:=FBx.2.2.2.2;refine r1 17 (fun K hK=>?_)
     try simp only[Ba,Bc,Az]
     go_split_ands;obtain⟨fa,fb,fc,fd,fe⟩:=FBy
     go_wp2_with fail
     have hB6:=Ad ⟨By,1,none⟩ (.int .u64 (Cy y)) (Ad ⟨By,0,none⟩ (.int .u64 (Cr y)) hB5 hloBy) hloBy;have FBx:=FBx.other (by first | exact neBxBy | exact neByBx.symm) (Cr y) (Cy y);have FBy:=FC.set ⟨fa,fb,fc,fd,fe⟩ (Cr y) (Cy y);clear fa fb fc fd fe;generalize ((w5.setCell ⟨By,0,none⟩ (.int .u64 (Cr y))).setCell ⟨By,1,none⟩ (.int .u64 (Cy y)))=w6 at *;refine hK.out _ _ (HS.out _ hB6) (fun hHeld=>?_);clear hK K
     try simp only[Act.put,Co,Cp,Cn,Ba,Bc,Az]
     have bltBy:=FBy.2.2.2.2;have bltBx:=FBx.2.2.2.2;refine wpAnyH_done (by kernel_rfl) ?_ _;have hB:=hB6
     go_wp2_with fail
     go_meet
     exact⟨Bx,By,rfl,rfl,by first | exact neBxBy | exact neByBx.symm,hloBx,hloBy,hB,FBx,FBy⟩
  ·try simp only[Ba,Bc,Az]
   go_split_ands
   go_wp2_with fail
   have hB1:=Aw (.cells #[.int .u64 0,.int .u64 0] 184) hB0;have FBx:=FC.new w0 184;obtain⟨Bx,hBx⟩:=nm (w0.heap.size);have hloBx:W0.heap.size≤Bx:=by have:=hB0.size;omega
   simp only[hBx]at FBx⊢;generalize w0.alloc (.cells #[.int .u64 0,.int .u64 0] 184)=w1 at *;refine hK.out _ _ (HS.out _ hB1) (fun hHeld=>?_);clear hK K
   try simp only[Act.put,Co,Cp,Cn,Ba,Bc,Az]
   have bltBx:=FBx.2.2.2.2;refine rq [6,15] ?_;refine AllReadyH.cons (o:=_) rfl (fun K hK=>?_) (AllReadyH.cons (o:=_) rfl (fun K hK=>?_) (AllReadyH.nil))
   ·try simp only[Ba,Bc,Az]
    go_simp
    (go_at_call 110;go_split_ands;go_fit (Cg na bd na0 na1 bd0 bd1 _);rintro e w2 ⟨rfl,hb2⟩;rw[HX.out])
    go_wp2_with fail
    have hB2:=hB1.trans (hb2.mono hB1.size);have FBx:=FBx.carry hb2;refine hK.out _ _ (HS.out _ hB2) (fun hHeld=>?_);clear hK K
    try simp only[Act.put,Co,Cp,Cn,Ba,Bc,Az]
    have bltBx:=FBx.2.2.2.2;refine Gz (i:=9) (oi:=_) (v:=.int .u64 nb) rfl (by kernel_rfl) (by kernel_rfl) (by kernel_rfl) (fun _ _ _ h=>h) ⟨by rfl,89,#[.int .i64 bn],?_,fun w _=>Z2.out w⟩ (by assumption) ?_
    ·(intro w hSw;(try dsimp only at hSw);go_split_ands;(try simp only[Ba,Bc,Az]);go_simp;try with_reducible rfl)
    simp only[Act.put,Co,Cp,Cn,Ba,Bc,Az];refine rq [13,15] ?_;refine AllReadyH.cons (o:=_) rfl (fun K hK=>?_) (AllReadyH.cons (o:=_) rfl (fun K hK=>?_) (AllReadyH.nil))
    focus
     try simp only[Ba,Bc,Az]
     go_simp
     (go_at_call 110;go_split_ands;go_fit (Cg nb ad nb0 nb1 ad0 ad1 _);rintro e w3 ⟨rfl,hb3⟩;rw[HY.out])
     go_wp2_with fail
     have hB3:=hB2.trans (hb3.mono hB2.size);have FBx:=FBx.carry hb3;refine hK.out _ _ (HS.out _ hB3) (fun hHeld=>?_);clear hK K
     try simp only[Act.put,Co,Cp,Cn,Ba,Bc,Az]
     have bltBx:=FBx.2.2.2.2;refine r1 15 (fun K hK=>?_)
     try simp only[Ba,Bc,Az]
     go_split_ands
     go_wp2_with fail
     have hB4:=Aw (.cells #[.int .u64 0,.int .u64 0] 184) hB3;have FBx:=FBx.carry (Aa _ (.cells #[.int .u64 0,.int .u64 0] 184));have FBy:=FC.new w3 184;obtain⟨By,hBy⟩:=nm (w3.heap.size);have neBxBy:Bx≠By:=by have:=(bltBx);omega
     have hloBy:W0.heap.size≤By:=by have:=hB3.size;omega
     simp only[hBy]at FBy⊢;generalize w3.alloc (.cells #[.int .u64 0,.int .u64 0] 184)=w4 at *
    rotate_left
    focus
     try simp only[Ba,Bc,Az]
     go_split_ands
     go_wp2_with fail
     have hB3:=Aw (.cells #[.int .u64 0,.int .u64 0] 184) hB2;have FBx:=FBx.carry (Aa _ (.cells #[.int .u64 0,.int .u64 0] 184));have FBy:=FC.new w2 184;obtain⟨By,hBy⟩:=nm (w2.heap.size);have neBxBy:Bx≠By:=by have:=(bltBx);omega
     have hloBy:W0.heap.size≤By:=by have:=hB2.size;omega
     simp only[hBy]at FBy⊢;generalize w2.alloc (.cells #[.int .u64 0,.int .u64 0] 184)=w3 at *;refine hK.out _ _ (HS.out _ hB3) (fun hHeld=>?_);clear hK K
     try simp only[Act.put,Co,Cp,Cn,Ba,Bc,Az]
     have bltBx:=FBx.2.2.2.2;have bltBy:=FBy.2.2.2.2;refine r1 13 (fun K hK=>?_)
     try simp only[Ba,Bc,Az]
     go_simp
     (go_at_call 110;go_split_ands;go_fit (Cg nb ad nb0 nb1 ad0 ad1 _);rintro e w4 ⟨rfl,hb4⟩;rw[HY.out])
     go_wp2_with fail
     have hB4:=hB3.trans (hb4.mono hB3.size);have FBx:=FBx.carry hb4;have FBy:=FBy.carry hb4
    rotate_left
    all_goals
     refine hK.out _ _ (HS.out _ hB4) (fun hHeld=>?_);clear hK K
     try simp only[Act.put,Co,Cp,Cn,Ba,Bc,Az]
     have bltBx:=FBx.2.2.2.2;have bltBy:=FBy.2.2.2.2;refine r1 16 (fun K hK=>?_)
     try simp only[Ba,Bc,Az]
     go_split_ands;obtain⟨fa,fb,fc,fd,fe⟩:=FBx
     go_wp2_with fail
     have hB5:=Ad ⟨Bx,1,none⟩ (.int .u64 (Cy x)) (Ad ⟨Bx,0,none⟩ (.int .u64 (Cr x)) hB4 hloBx) hloBx;have FBy:=FBy.other (by first | exact neByBx | exact neBxBy.symm) (Cr x) (Cy x);have FBx:=FC.set ⟨fa,fb,fc,fd,fe⟩ (Cr x) (Cy x);clear fa fb fc fd fe;generalize ((w4.setCell ⟨Bx,0,none⟩ (.int .u64 (Cr x))).setCell ⟨Bx,1,none⟩ (.int .u64 (Cy x)))=w5 at *;refine hK.out _ _ (HS.out _ hB5) (fun hHeld=>?_);clear hK K
     try simp only[Act.put,Co,Cp,Cn,Ba,Bc,Az]
     have bltBx:=FBx.2.2.2.2;have bltBy:=FBy.2.2.2.2;refine r1 17 (fun K hK=>?_)
     try simp only[Ba,Bc,Az]
     go_split_ands;obtain⟨fa,fb,fc,fd,fe⟩:=FBy
     go_wp2_with fail
     have hB6:=Ad ⟨By,1,none⟩ (.int .u64 (Cy y)) (Ad ⟨By,0,none⟩ (.int .u64 (Cr y)) hB5 hloBy) hloBy;have FBx:=FBx.other (by first | exact neBxBy | exact neByBx.symm) (Cr y) (Cy y);have FBy:=FC.set ⟨fa,fb,fc,fd,fe⟩ (Cr y) (Cy y);clear fa fb fc fd fe;generalize ((w5.setCell ⟨By,0,none⟩ (.int .u64 (Cr y))).setCell ⟨By,1,none⟩ (.int .u64 (Cy y)))=w6 at *;refine hK.out _ _ (HS.out _ hB6) (fun hHeld=>?_);clear hK K
     try simp only[Act.put,Co,Cp,Cn,Ba,Bc,Az]
     have bltBx:=FBx.2.2.2.2;have bltBy:=FBy.2.2.2.2;refine wpAnyH_done (by kernel_rfl) ?_ _;have hB:=hB6
     go_wp2_with fail
     go_meet
     exact⟨Bx,By,rfl,rfl,by first | exact neBxBy | exact neByBx.symm,hloBx,hloBy,hB,FBx,FBy⟩
   ·try simp only[Ba,Bc,Az]
    go_split_ands
    go_wp2_with fail
    have hB2:=Aw (.cells #[.int .u64 0,.int .u64 0] 184) hB1;have FBx:=FBx.carry (Aa _ (.cells #[.int .u64 0,.int .u64 0] 184));have FBy:=FC.new w1 184;obtain⟨By,hBy⟩:=nm (w1.heap.size);have neBxBy:Bx≠By:=by have:=(bltBx);omega
    have hloBy:W0.heap.size≤By:=by have:=hB1.size;omega
    simp only[hBy]at FBy⊢;generalize w1.alloc (.cells #[.int .u64 0,.int .u64 0] 184)=w2 at *;refine hK.out _ _ (HS.out _ hB2) (fun hHeld=>?_);clear hK K
    try simp only[Act.put,Co,Cp,Cn,Ba,Bc,Az]
    have bltBx:=FBx.2.2.2.2;have bltBy:=FBy.2.2.2.2;refine r1 6 (fun K hK=>?_)
    try simp only[Ba,Bc,Az]
    go_simp
    (go_at_call 110;go_split_ands;go_fit (Cg na bd na0 na1 bd0 bd1 _);rintro e w3 ⟨rfl,hb3⟩;rw[HX.out])
    go_wp2_with fail
    have hB3:=hB2.trans (hb3.mono hB2.size);have FBx:=FBx.carry hb3;have FBy:=FBy.carry hb3;refine hK.out _ _ (HS.out _ hB3) (fun hHeld=>?_);clear hK K
    try simp only[Act.put,Co,Cp,Cn,Ba,Bc,Az]
    have bltBx:=FBx.2.2.2.2;have bltBy:=FBy.2.2.2.2;refine Gz (i:=9) (oi:=_) (v:=.int .u64 nb) rfl (by kernel_rfl) (by kernel_rfl) (by kernel_rfl) (fun _ _ _ h=>h) ⟨by rfl,89,#[.int .i64 bn],?_,fun w _=>Z2.out w⟩ (by assumption) ?_
    ·(intro w hSw;(try dsimp only at hSw);go_split_ands;(try simp only[Ba,Bc,Az]);go_simp;try with_reducible rfl)
    simp only[Act.put,Co,Cp,Cn,Ba,Bc,Az];refine r1 13 (fun K hK=>?_)
    try simp only[Ba,Bc,Az]
    go_simp
    (go_at_call 110;go_split_ands;go_fit (Cg nb ad nb0 nb1 ad0 ad1 _);rintro e w4 ⟨rfl,hb4⟩;rw[HY.out])
    go_wp2_with fail
    have hB4:=hB3.trans (hb4.mono hB3.size);have FBx:=FBx.carry hb4;have FBy:=FBy.carry hb4;refine hK.out _ _ (HS.out _ hB4) (fun hHeld=>?_);clear hK K
    try simp only[Act.put,Co,Cp,Cn,Ba,Bc,Az]
    have bltBx:=FBx.2.2.2.2;have bltBy:=FBy.2.2.2.2;refine r1 16 (fun K hK=>?_)
    try simp only[Ba,Bc,Az]
    go_split_ands;obtain⟨fa,fb,fc,fd,fe⟩:=FBx
    go_wp2_with fail
    have hB5:=Ad ⟨Bx,1,none⟩ (.int .u64 (Cy x)) (Ad ⟨Bx,0,none⟩ (.int .u64 (Cr x)) hB4 hloBx) hloBx;have FBy:=FBy.other (by first | exact neByBx | exact neBxBy.symm) (Cr x) (Cy x);have FBx:=FC.set ⟨fa,fb,fc,fd,fe⟩ (Cr x) (Cy x);clear fa fb fc fd fe;generalize ((w4.setCell ⟨Bx,0,none⟩ (.int .u64 (Cr x))).setCell ⟨Bx,1,none⟩ (.int .u64 (Cy x)))=w5 at *;refine hK.out _ _ (HS.out _ hB5) (fun hHeld=>?_);clear hK K
    try simp only[Act.put,Co,Cp,Cn,Ba,Bc,Az]
    have bltBx:=FBx.2.2.2.2;have bltBy:=FBy.2.2.2.2;refine r1 17 (fun K hK=>?_)
    try simp only[Ba,Bc,Az]
    go_split_ands;obtain⟨fa,fb,fc,fd,fe⟩:=FBy
    go_wp2_with fail
    have hB6:=Ad ⟨By,1,none⟩ (.int .u64 (Cy y)) (Ad ⟨By,0,none⟩ (.int .u64 (Cr y)) hB5 hloBy) hloBy;have FBx:=FBx.other (by first | exact neBxBy | exact neByBx.symm) (Cr y) (Cy y);have FBy:=FC.set ⟨fa,fb,fc,fd,fe⟩ (Cr y) (Cy y);clear fa fb fc fd fe;generalize ((w5.setCell ⟨By,0,none⟩ (.int .u64 (Cr y))).setCell ⟨By,1,none⟩ (.int .u64 (Cy y)))=w6 at *;refine hK.out _ _ (HS.out _ hB6) (fun hHeld=>?_);clear hK K
    try simp only[Act.put,Co,Cp,Cn,Ba,Bc,Az]
    have bltBx:=FBx.2.2.2.2;have bltBy:=FBy.2.2.2.2;refine wpAnyH_done (by kernel_rfl) ?_ _;have hB:=hB6
    go_wp2_with fail
    go_meet
    exact⟨Bx,By,rfl,rfl,by first | exact neBxBy | exact neByBx.symm,hloBx,hloBy,hB,FBx,FBy⟩
  ·try simp only[Ba,Bc,Az]
   go_split_ands
   go_wp2_with fail
   have hB1:=Aw (.cells #[.int .u64 0,.int .u64 0] 184) hB0;have FBy:=FC.new w0 184;obtain⟨By,hBy⟩:=nm (w0.heap.size);have hloBy:W0.heap.size≤By:=by have:=hB0.size;omega
   simp only[hBy]at FBy⊢;generalize w0.alloc (.cells #[.int .u64 0,.int .u64 0] 184)=w1 at *;refine hK.out _ _ (HS.out _ hB1) (fun hHeld=>?_);clear hK K
   try simp only[Act.put,Co,Cp,Cn,Ba,Bc,Az]
   have bltBy:=FBy.2.2.2.2;refine rq [6,14] ?_;refine AllReadyH.cons (o:=_) rfl (fun K hK=>?_) (AllReadyH.cons (o:=_) rfl (fun K hK=>?_) (AllReadyH.nil))
   ·try simp only[Ba,Bc,Az]
    go_simp
    (go_at_call 110;go_split_ands;go_fit (Cg na bd na0 na1 bd0 bd1 _);rintro e w2 ⟨rfl,hb2⟩;rw[HX.out])
    go_wp2_with fail
    have hB2:=hB1.trans (hb2.mono hB1.size);have FBy:=FBy.carry hb2;refine hK.out _ _ (HS.out _ hB2) (fun hHeld=>?_);clear hK K
    try simp only[Act.put,Co,Cp,Cn,Ba,Bc,Az]
    have bltBy:=FBy.2.2.2.2;refine Gz (i:=9) (oi:=_) (v:=.int .u64 nb) rfl (by kernel_rfl) (by kernel_rfl) (by kernel_rfl) (fun _ _ _ h=>h) ⟨by rfl,89,#[.int .i64 bn],?_,fun w _=>Z2.out w⟩ (by assumption) ?_
    ·(intro w hSw;(try dsimp only at hSw);go_split_ands;(try simp only[Ba,Bc,Az]);go_simp;try with_reducible rfl)
    simp only[Act.put,Co,Cp,Cn,Ba,Bc,Az];refine rq [13,14] ?_;refine AllReadyH.cons (o:=_) rfl (fun K hK=>?_) (AllReadyH.cons (o:=_) rfl (fun K hK=>?_) (AllReadyH.nil))
    focus
     try simp only[Ba,Bc,Az]
     go_simp
     (go_at_call 110;go_split_ands;go_fit (Cg nb ad nb0 nb1 ad0 ad1 _);rintro e w3 ⟨rfl,hb3⟩;rw[HY.out])
     go_wp2_with fail
     have hB3:=hB2.trans (hb3.mono hB2.size);have FBy:=FBy.carry hb3;refine hK.out _ _ (HS.out _ hB3) (fun hHeld=>?_);clear hK K
     try simp only[Act.put,Co,Cp,Cn,Ba,Bc,Az]
     have bltBy:=FBy.2.2.2.2;refine r1 14 (fun K hK=>?_)
     try simp only[Ba,Bc,Az]
     go_split_ands
     go_wp2_with fail
     have hB4:=Aw (.cells #[.int .u64 0,.int .u64 0] 184) hB3;have FBy:=FBy.carry (Aa _ (.cells #[.int .u64 0,.int .u64 0] 184));have FBx:=FC.new w3 184;obtain⟨Bx,hBx⟩:=nm (w3.heap.size);have neByBx:By≠Bx:=by have:=(bltBy);omega
     have hloBx:W0.heap.size≤Bx:=by have:=hB3.size;omega
     simp only[hBx]at FBx⊢;generalize w3.alloc (.cells #[.int .u64 0,.int .u64 0] 184)=w4 at *
    rotate_left
    focus
     try simp only[Ba,Bc,Az]
     go_split_ands
     go_wp2_with fail
     have hB3:=Aw (.cells #[.int .u64 0,.int .u64 0] 184) hB2;have FBy:=FBy.carry (Aa _ (.cells #[.int .u64 0,.int .u64 0] 184));have FBx:=FC.new w2 184;obtain⟨Bx,hBx⟩:=nm (w2.heap.size);have neByBx:By≠Bx:=by have:=(bltBy);omega
     have hloBx:W0.heap.size≤Bx:=by have:=hB2.size;omega
     simp only[hBx]at FBx⊢;generalize w2.alloc (.cells #[.int .u64 0,.int .u64 0] 184)=w3 at *;refine hK.out _ _ (HS.out _ hB3) (fun hHeld=>?_);clear hK K
     try simp only[Act.put,Co,Cp,Cn,Ba,Bc,Az]
     have bltBy:=FBy.2.2.2.2;have bltBx:=FBx.2.2.2.2;refine r1 13 (fun K hK=>?_)
     try simp only[Ba,Bc,Az]
     go_simp
     (go_at_call 110;go_split_ands;go_fit (Cg nb ad nb0 nb1 ad0 ad1 _);rintro e w4 ⟨rfl,hb4⟩;rw[HY.out])
     go_wp2_with fail
     have hB4:=hB3.trans (hb4.mono hB3.size);have FBy:=FBy.carry hb4;have FBx:=FBx.carry hb4
    rotate_left
    all_goals
     refine hK.out _ _ (HS.out _ hB4) (fun hHeld=>?_);clear hK K
     try simp only[Act.put,Co,Cp,Cn,Ba,Bc,Az]
     have bltBy:=FBy.2.2.2.2;have bltBx:=FBx.2.2.2.2;refine r1 16 (fun K hK=>?_)
     try simp only[Ba,Bc,Az]
     go_split_ands;obtain⟨fa,fb,fc,fd,fe⟩:=FBx
     go_wp2_with fail
     have hB5:=Ad ⟨Bx,1,none⟩ (.int .u64 (Cy x)) (Ad ⟨Bx,0,none⟩ (.int .u64 (Cr x)) hB4 hloBx) hloBx;have FBy:=FBy.other (by first | exact neByBx | exact neBxBy.symm) (Cr x) (Cy x);have FBx:=FC.set ⟨fa,fb,fc,fd,fe⟩ (Cr x) (Cy x);clear fa fb fc fd fe;generalize ((w4.setCell ⟨Bx,0,none⟩ (.int .u64 (Cr x))).setCell ⟨Bx,1,none⟩ (.int .u64 (Cy x)))=w5 at *;refine hK.out _ _ (HS.out _ hB5) (fun hHeld=>?_);clear hK K
     try simp only[Act.put,Co,Cp,Cn,Ba,Bc,Az]
     have bltBy:=FBy.2.2.2.2;have bltBx:=FBx.2.2.2.2;refine r1 17 (fun K hK=>?_)
     try simp only[Ba,Bc,Az]
     go_split_ands;obtain⟨fa,fb,fc,fd,fe⟩:=FBy
     go_wp2_with fail
     have hB6:=Ad ⟨By,1,none⟩ (.int .u64 (Cy y)) (Ad ⟨By,0,none⟩ (.int .u64 (Cr y)) hB5 hloBy) hloBy;have FBx:=FBx.other (by first | exact neBxBy | exact neByBx.symm) (Cr y) (Cy y);have FBy:=FC.set ⟨fa,fb,fc,fd,fe⟩ (Cr y) (Cy y);clear fa fb fc fd fe;generalize ((w5.setCell ⟨By,0,none⟩ (.int .u64 (Cr y))).setCell ⟨By,1,none⟩ (.int .u64 (Cy y)))=w6 at *;refine hK.out _ _ (HS.out _ hB6) (fun hHeld=>?_);clear hK K
     try simp only[Act.put,Co,Cp,Cn,Ba,Bc,Az]
     have bltBy:=FBy.2.2.2.2;have bltBx:=FBx.2.2.2.2;refine wpAnyH_done (by kernel_rfl) ?_ _;have hB:=hB6
     go_wp2_with fail
     go_meet
     exact⟨Bx,By,rfl,rfl,by first | exact neBxBy | exact neByBx.symm,hloBx,hloBy,hB,FBx,FBy⟩
   ·try simp only[Ba,Bc,Az]
    go_split_ands
    go_wp2_with fail
    have hB2:=Aw (.cells #[.int .u64 0,.int .u64 0] 184) hB1;have FBy:=FBy.carry (Aa _ (.cells #[.int .u64 0,.int .u64 0] 184));have FBx:=FC.new w1 184;obtain⟨Bx,hBx⟩:=nm (w1.heap.size);have neByBx:By≠Bx:=by have:=(bltBy);omega
    have hloBx:W0.heap.size≤Bx:=by have:=hB1.size;omega
    simp only[hBx]at FBx⊢;generalize w1.alloc (.cells #[.int .u64 0,.int .u64 0] 184)=w2 at *;refine hK.out _ _ (HS.out _ hB2) (fun hHeld=>?_);clear hK K
    try simp only[Act.put,Co,Cp,Cn,Ba,Bc,Az]
    have bltBy:=FBy.2.2.2.2;have bltBx:=FBx.2.2.2.2;refine r1 6 (fun K hK=>?_)
    try simp only[Ba,Bc,Az]
    go_simp
    (go_at_call 110;go_split_ands;go_fit (Cg na bd na0 na1 bd0 bd1 _);rintro e w3 ⟨rfl,hb3⟩;rw[HX.out])
    go_wp2_with fail
    have hB3:=hB2.trans (hb3.mono hB2.size);have FBy:=FBy.carry hb3;have FBx:=FBx.carry hb3;refine hK.out _ _ (HS.out _ hB3) (fun hHeld=>?_);clear hK K
    try simp only[Act.put,Co,Cp,Cn,Ba,Bc,Az]
    have bltBy:=FBy.2.2.2.2;have bltBx:=FBx.2.2.2.2;refine Gz (i:=9) (oi:=_) (v:=.int .u64 nb) rfl (by kernel_rfl) (by kernel_rfl) (by kernel_rfl) (fun _ _ _ h=>h) ⟨by rfl,89,#[.int .i64 bn],?_,fun w _=>Z2.out w⟩ (by assumption) ?_
    ·(intro w hSw;(try dsimp only at hSw);go_split_ands;(try simp only[Ba,Bc,Az]);go_simp;try with_reducible rfl)
    simp only[Act.put,Co,Cp,Cn,Ba,Bc,Az];refine r1 13 (fun K hK=>?_)
    try simp only[Ba,Bc,Az]
    go_simp
    (go_at_call 110;go_split_ands;go_fit (Cg nb ad nb0 nb1 ad0 ad1 _);rintro e w4 ⟨rfl,hb4⟩;rw[HY.out])
    go_wp2_with fail
    have hB4:=hB3.trans (hb4.mono hB3.size);have FBy:=FBy.carry hb4;have FBx:=FBx.carry hb4;refine hK.out _ _ (HS.out _ hB4) (fun hHeld=>?_);clear hK K
    try simp only[Act.put,Co,Cp,Cn,Ba,Bc,Az]
    have bltBy:=FBy.2.2.2.2;have bltBx:=FBx.2.2.2.2;refine r1 16 (fun K hK=>?_)
    try simp only[Ba,Bc,Az]
    go_split_ands;obtain⟨fa,fb,fc,fd,fe⟩:=FBx
    go_wp2_with fail
    have hB5:=Ad ⟨Bx,1,none⟩ (.int .u64 (Cy x)) (Ad ⟨Bx,0,none⟩ (.int .u64 (Cr x)) hB4 hloBx) hloBx;have FBy:=FBy.other (by first | exact neByBx | exact neBxBy.symm) (Cr x) (Cy x);have FBx:=FC.set ⟨fa,fb,fc,fd,fe⟩ (Cr x) (Cy x);clear fa fb fc fd fe;generalize ((w4.setCell ⟨Bx,0,none⟩ (.int .u64 (Cr x))).setCell ⟨Bx,1,none⟩ (.int .u64 (Cy x)))=w5 at *;refine hK.out _ _ (HS.out _ hB5) (fun hHeld=>?_);clear hK K
    try simp only[Act.put,Co,Cp,Cn,Ba,Bc,Az]
    have bltBy:=FBy.2.2.2.2;have bltBx:=FBx.2.2.2.2;refine r1 17 (fun K hK=>?_)
    try simp only[Ba,Bc,Az]
    go_split_ands;obtain⟨fa,fb,fc,fd,fe⟩:=FBy
    go_wp2_with fail
    have hB6:=Ad ⟨By,1,none⟩ (.int .u64 (Cy y)) (Ad ⟨By,0,none⟩ (.int .u64 (Cr y)) hB5 hloBy) hloBy;have FBx:=FBx.other (by first | exact neBxBy | exact neByBx.symm) (Cr y) (Cy y);have FBy:=FC.set ⟨fa,fb,fc,fd,fe⟩ (Cr y) (Cy y);clear fa fb fc fd fe;generalize ((w5.setCell ⟨By,0,none⟩ (.int .u64 (Cr y))).setCell ⟨By,1,none⟩ (.int .u64 (Cy y)))=w6 at *;refine hK.out _ _ (HS.out _ hB6) (fun hHeld=>?_);clear hK K
    try simp only[Act.put,Co,Cp,Cn,Ba,Bc,Az]
    have bltBy:=FBy.2.2.2.2;have bltBx:=FBx.2.2.2.2;refine wpAnyH_done (by kernel_rfl) ?_ _;have hB:=hB6
    go_wp2_with fail
    go_meet
    exact⟨Bx,By,rfl,rfl,by first | exact neBxBy | exact neByBx.symm,hloBx,hloBy,hB,FBx,FBy⟩
 case rest=>
  obtain⟨Bx,By,rfl,rfl,hne,hl1,hl2,hBx,FX,FY⟩:=hcut;obtain⟨W1,rfl⟩:∃W:World,W=wc:=⟨_,rfl⟩;obtain⟨hBW,l0,l1,l2,l3⟩:=HK.out _ hBx;have HFX:=lh FX;have HFY:=lh FY;obtain⟨fa,fb,fc,fd,fe⟩:=FX;obtain⟨ga,gb,gc,gd,ge⟩:=FY;clear HK HS Z1 Z2;have kA:∀w',Below W1.heap.size W1 w'→FC w' Bx (Cr x) (Cy x)∧FC w' By (Cr y) (Cy y):=fun w' h=>⟨HFX.out.carry h,HFY.out.carry h⟩;have HKA:=lh kA;clear kA
  by_cases ca:an<0
  ·have ea:=dT ca
   have hx1:=HM.out.1 (by omega);have hx2:=HXP.out (by omega)
   by_cases cb:bn<0
   ·have eb:=dT cb
    have hy1:=HM.out.2.2.1 (by omega);have G1:FC ((((W1.setCell ⟨Bx,0,none⟩ (.int .u64 (Cr y))).setCell ⟨Bx,1,none⟩ (.int .u64 (Cy y))).setCell ⟨By,0,none⟩ (.int .u64 (Cr x))).setCell ⟨By,1,none⟩ (.int .u64 (Cy x))) Bx (Cr y) (Cy y):=(HFX.out.set (Cr y) (Cy y)).other hne _ _;have G2:FC ((((W1.setCell ⟨Bx,0,none⟩ (.int .u64 (Cr y))).setCell ⟨Bx,1,none⟩ (.int .u64 (Cy y))).setCell ⟨By,0,none⟩ (.int .u64 (Cr x))).setCell ⟨By,1,none⟩ (.int .u64 (Cy x))) By (Cr x) (Cy x):=(HFY.out.other hne.symm (Cr y) (Cy y)).set _ _
    have hB2:Below w.heap.size w ((((W1.setCell ⟨Bx,0,none⟩ (.int .u64 (Cr y))).setCell ⟨Bx,1,none⟩ (.int .u64 (Cy y))).setCell ⟨By,0,none⟩ (.int .u64 (Cr x))).setCell ⟨By,1,none⟩ (.int .u64 (Cy x))):=by
     repeat' refine Ad _ _ ?_ (by simp<;>omega)
     exact hBW
    have HG1:=lh G1;have HG2:=lh G2;clear G1 G2
    go_upto_region 10 with (fail)
    generalize ((((W1.setCell ⟨Bx,0,none⟩ (.int .u64 (Cr y))).setCell ⟨Bx,1,none⟩ (.int .u64 (Cy y))).setCell ⟨By,0,none⟩ (.int .u64 (Cr x))).setCell ⟨By,1,none⟩ (.int .u64 (Cy x)))=W2 at *;clear fa fb fc fd fe ga gb gc gd ge l0 l1 l2 l3;obtain⟨fa,fb,fc,fd,fe⟩:=HG1.out;obtain⟨ga,gb,gc,gd,ge⟩:=HG2.out
    by_cases lt:y<x
    ·have g1:decide (y<x)=true:=dT lt
     have HR:Hid (C=-1):=lh (by rw[←HC.out];unfold Iy;rw[if_neg (by omega),if_pos (by omega)]);clear lt
     go_wp2_with (go_at_call 157;go_fit (Ec y x _);rw[g1];rintro e w3 ⟨rfl,hb3⟩)
     go_ret2
     exact⟨by rw[HR.out];rfl,(hB2).trans (hb3.mono (hB2).size)⟩
    ·have g1:decide (y<x)=false:=dF lt
     by_cases gt:x<y
     ·have g2:decide (x<y)=true:=dT gt
      have HR:Hid (C=1):=lh (by rw[←HC.out];unfold Iy;rw[if_neg (by omega),if_neg (by omega)]);clear lt gt
      go_wp2_with (first | (go_at_call 157;go_fit (Ec y x _);rw[g1];rintro e w3 ⟨rfl,hb3⟩;obtain⟨fa,fb,fc,fd,fe⟩:=HG1.out.carry hb3;obtain⟨ga,gb,gc,gd,ge⟩:=HG2.out.carry hb3) | (go_at_call 157;go_fit (Ec x y _);rw[g2];rintro e w4 ⟨rfl,hb4⟩))
      go_ret2
      have hb5:=(hB2).trans (hb3.mono (hB2).size);exact⟨by rw[HR.out];rfl,hb5.trans (hb4.mono hb5.size)⟩
     ·have g2:decide (x<y)=false:=dF gt
      have HR:Hid (C=0):=lh (by rw[←HC.out];unfold Iy;rw[if_pos (by omega)]);clear lt gt
      go_wp2_with (first | (go_at_call 157;go_fit (Ec y x _);rw[g1];rintro e w3 ⟨rfl,hb3⟩;obtain⟨fa,fb,fc,fd,fe⟩:=HG1.out.carry hb3;obtain⟨ga,gb,gc,gd,ge⟩:=HG2.out.carry hb3) | (go_at_call 157;go_fit (Ec x y _);rw[g2];rintro e w4 ⟨rfl,hb4⟩))
      go_ret2
      have hb5:=(hB2).trans (hb3.mono (hB2).size);exact⟨by rw[HR.out];rfl,hb5.trans (hb4.mono hb5.size)⟩
   ·have eb:=dF cb
    have hy1:=HM.out.2.2.2 (by omega);have HR:Hid (C=-1):=lh (by rw[←HC.out];unfold Iy;rw[if_neg (by omega),if_pos (by omega)]);clear ca cb
    go_wp2_with fail
    go_ret2
    exact⟨by rw[HR.out];rfl,hBW⟩
  ·have ea:=dF ca
   have hx1:=HM.out.2.1 (by omega)
   by_cases cb:bn<0
   ·have eb:=dT cb
    have hy1:=HM.out.2.2.1 (by omega);have hy2:=HYP.out (by omega);have HR:Hid (C=1):=lh (by rw[←HC.out];unfold Iy;rw[if_neg (by omega),if_neg (by omega)]);clear ca cb
    go_wp2_with fail
    go_ret2
    exact⟨by rw[HR.out];rfl,hBW⟩
   ·have eb:=dF cb
    have hy1:=HM.out.2.2.2 (by omega)
    by_cases lt:x<y
    ·have g1:decide (x<y)=true:=dT lt
     have HR:Hid (C=-1):=lh (by rw[←HC.out];unfold Iy;rw[if_neg (by omega),if_pos (by omega)]);clear lt
     go_wp2_with (go_at_call 157;go_fit (Ec x y _);rw[g1];rintro e w3 ⟨rfl,hb3⟩)
     go_ret2
     exact⟨by rw[HR.out];rfl,(hBW).trans (hb3.mono (hBW).size)⟩
    ·have g1:decide (x<y)=false:=dF lt
     by_cases gt:y<x
     ·have g2:decide (y<x)=true:=dT gt
      have HR:Hid (C=1):=lh (by rw[←HC.out];unfold Iy;rw[if_neg (by omega),if_neg (by omega)]);clear lt gt
      go_wp2_with (first | (go_at_call 157;go_fit (Ec x y _);rw[g1];rintro e w3 ⟨rfl,hb3⟩;obtain⟨⟨fa,fb,fc,fd,fe⟩,⟨ga,gb,gc,gd,ge⟩⟩:=HKA.out _ hb3) | (go_at_call 157;go_fit (Ec y x _);rw[g2];rintro e w4 ⟨rfl,hb4⟩))
      go_ret2
      have hb5:=(hBW).trans (hb3.mono (hBW).size);exact⟨by rw[HR.out];rfl,hb5.trans (hb4.mono hb5.size)⟩
     ·have g2:decide (y<x)=false:=dF gt
      have HR:Hid (C=0):=lh (by rw[←HC.out];unfold Iy;rw[if_pos (by omega)]);clear lt gt
      go_wp2_with (first | (go_at_call 157;go_fit (Ec x y _);rw[g1];rintro e w3 ⟨rfl,hb3⟩;obtain⟨⟨fa,fb,fc,fd,fe⟩,⟨ga,gb,gc,gd,ge⟩⟩:=HKA.out _ hb3) | (go_at_call 157;go_fit (Ec y x _);rw[g2];rintro e w4 ⟨rfl,hb4⟩))
      go_ret2
      have hb5:=(hBW).trans (hb3.mono (hBW).size);exact⟨by rw[HR.out];rfl,hb5.trans (hb4.mono hb5.size)⟩
end
end Go.Proofs.YtebofaenlhhkaaaGreat
