/-
  THE WALK of package quadratic: Smooth, at a valid curve.
-/
import Derived.Test.YtebofaenlhhkaaaGreatU29
namespace Go.Proofs.YtebofaenlhhkaaaGreat
set_option maxRecDepth 100000
set_option maxHeartbeats 80000000
set_option linter.unusedSimpArgs false
section
open Go.RowKit Go.Shelf
theorem eqF_any(a b c d:Int)(w:World):(binOp .eql 49 (.agg #[.int .i64 a,.int .i64 b]) (.agg #[.int .i64 c,.int .i64 d])).run Tryz.prog w=.ok (.bool ((a==c)&&(b==d))) w:=by
 simp[go_sem]
 by_cases x:a=c
 ·by_cases y:b=d
  ·simp[x,y]
  ·simp[x,y]
 ·simp[x]
noncomputable def smCode(n:Nat):Code:=((Tryz.f34.body.bind (regionIn n)).getD .skip)
theorem smR8{L:List Pc}{b off c Bs k:Nat}{e:Int}{K1:(Int×Int)×Int}{wr:World}{u1 u2 u3 u5 u7 u8 u9 u10 u11 u12 u13 u14 u15 u16 u17 u18 u19 u20 u21 u22 u23 u24 u25 u26 u27 u28 u29 u30 u31 u32 u33 u34 u35 u36 u37 u38 u39:Value}{R:List Value}{K:Act→World→Prop}{Q0:Exit→Act→World→Prop}
  (_i2:IntKind.i64.wrap (((k+1:Nat):Int)-1)=(k:Int)) (_i1:IntKind.i64.wrap ((k:Int)+1-1)=(k:Int)) (i3:IntKind.i64.wrap (k:Int)=(k:Int)) (_i4:(k:Int)+1<(L.length:Int)) (i5:(k:Int)<(L.length:Int)) (i6:(0:Int)≤(k:Int)) (_i7:(0:Int)≤(k:Int)+1) (_i8:k<L.length) (_hlt:k+1<L.length) (_i10:((k:Int)+1).toNat=k+1) (HC1:Hid (∀w:World,w.cell? ⟨Bs,0,none⟩=some (.int .i64 e)→w.frozen? ⟨Bs,0,none⟩=false→Calls Tryz.prog 62 #[.pointer (some ⟨Bs,0,none⟩),.agg #[.int .i64 (pcg L (k+1)).f0,.int .i64 (pcg L (k+1)).f1],.agg #[.int .i64 (pcg L k).f0,.int .i64 (pcg L k).f1]] w fun z w'=>z=.returned (.agg #[.int .i64 K1.1.1,.int .i64 K1.1.2])∧Sm Bs K1.2 w w')) (hsr:Sm Bs e wr wr.drew) (hbs:Bs<wr.heap.size) (HX8:Hid (∀x w',Sm Bs x wr w'→(fun w'=>wr.heap.size≤w'.heap.size∧w'.cell? ⟨b,off+(k+1)*8,none⟩=some (.int .i64 (pcg L (k+1)).f0)∧w'.cell? ⟨b,off+(k+1)*8+1,none⟩=some (.int .i64 (pcg L (k+1)).f1)∧w'.cell? ⟨b,off+k*8,none⟩=some (.int .i64 (pcg L k).f0)∧w'.cell? ⟨b,off+k*8+1,none⟩=some (.int .i64 (pcg L k).f1)) w'))
  (hK:∀(v7 v27 v28 v29 v30 v31 v32 v33 v34 v35 v36 v37 v38 v39:Value) (wx:World),(∃Bu:Nat,v7=.pointer (some ⟨Bu,0,none⟩)∧wr.heap.size≤Bu∧Sm Bs K1.2 wr wx∧FI wx Bu K1.1.1 K1.1.2)→K ⟨List.toArray (.slice (some ⟨b,off,none⟩) L.length c::u1::u2::u3::.pointer (some ⟨Bs,0,none⟩)::u5::.int .i64 ((k+1:Nat):Int)::v7::u8::u9::u10::u11::u12::u13::u14::u15::u16::u17::u18::u19::u20::u21::u22::u23::u24::u25::u26::v27::v28::v29::v30::v31::v32::v33::v34::v35::v36::v37::v38::v39::R),[]⟩ wx):
  Code.wp Tryz.prog (smCode 8) (Exit.then K Q0) ⟨List.toArray (.slice (some ⟨b,off,none⟩) L.length c::u1::u2::u3::.pointer (some ⟨Bs,0,none⟩)::u5::.int .i64 ((k+1:Nat):Int)::u7::u8::u9::u10::u11::u12::u13::u14::u15::u16::u17::u18::u19::u20::u21::u22::u23::u24::u25::u26::u27::u28::u29::u30::u31::u32::u33::u34::u35::u36::u37::u38::u39::R),[]⟩ wr:=by
 conv=>arg 2;whnf
 refine wp_region_noPanic ?_;refine wp_region_held_drew (S:=fun w'=>wr.heap.size≤w'.heap.size∧w'.cell? ⟨b,off+(k+1)*8,none⟩=some (.int .i64 (pcg L (k+1)).f0)∧w'.cell? ⟨b,off+(k+1)*8+1,none⟩=some (.int .i64 (pcg L (k+1)).f1)∧w'.cell? ⟨b,off+k*8,none⟩=some (.int .i64 (pcg L k).f0)∧w'.cell? ⟨b,off+k*8+1,none⟩=some (.int .i64 (pcg L k).f1)) (by kernel_rfl) (HX8.out _ _ hsr) (fun hHeld=>?_);have hs0:=hsr;obtain⟨w0,hw0⟩:=nm (wr.drew);simp only[hw0]at hs0 hHeld⊢;clear hw0;refine tkA 0 ?_;simp only[Act.put,s_1,s_2,s_3];refine tkA 1 ?_;simp only[Act.put,s_1,s_2,s_3];refine tkA 2 ?_;simp only[Act.put,s_1,s_2,s_3];refine tkA 3 ?_;simp only[Act.put,s_1,s_2,s_3];refine tkA 4 ?_;simp only[Act.put,s_1,s_2,s_3];refine tkA 5 ?_;simp only[Act.put,s_1,s_2,s_3];refine tkA 6 ?_;simp only[Act.put,s_1,s_2,s_3];refine tkA 7 ?_;simp only[Act.put,s_1,s_2,s_3];refine tkA 8 ?_;simp only[Act.put,s_1,s_2,s_3];refine tkA 9 ?_;simp only[Act.put,s_1,s_2,s_3];refine tkA 10 ?_;simp only[Act.put,s_1,s_2,s_3];refine tkA 11 ?_;simp only[Act.put,s_1,s_2,s_3];refine rq [12,13] ?_;refine tkC (fun K hK=>?_) (tkC (fun K hK=>?_) (AllReadyH.nil))
 focus
  go_simp
  (go_at_call 62;go_split_ands;(with_reducible refine(HC1.out _ hs0.cell hs0.free).mono ?_);rintro z w1 ⟨rfl,hb1⟩)
  go_wp2_with fail
  have hs1:=hs0.trans hb1;refine hK.out _ _ (HX8.out _ _ hs1) (fun hHeld=>?_);clear hK K
  try simp only[Act.put,s_1,s_2,s_3]
  refine rq [13] ?_;refine tkC (fun K hK=>?_) (AllReadyH.nil);rw[if_pos (by rfl)];go_split_ands
  go_wp2_with fail
  have hs2:=hs1.alloc (.cells #[.int .i64 0,.int .i64 0] 49);have FBu:=FI.new w1 49;obtain⟨Bu,hBu⟩:=nm (w1.heap.size);have hloBu:wr.heap.size≤Bu:=by have:=hs1.size;omega
  simp only[hBu]at FBu⊢;generalize w1.alloc (.cells #[.int .i64 0,.int .i64 0] 49)=w2 at *
 rotate_left
 focus
  rw[if_pos (by rfl)];go_split_ands
  go_wp2_with fail
  have hs1:=hs0.alloc (.cells #[.int .i64 0,.int .i64 0] 49);have FBu:=FI.new w0 49;obtain⟨Bu,hBu⟩:=nm (w0.heap.size);have hloBu:wr.heap.size≤Bu:=by have:=hs0.size;omega
  simp only[hBu]at FBu⊢;generalize w0.alloc (.cells #[.int .i64 0,.int .i64 0] 49)=w1 at *;refine hK.out _ _ (HX8.out _ _ hs1) (fun hHeld=>?_);clear hK K
  try simp only[Act.put,s_1,s_2,s_3]
  have bltBu:=FBu.2.2.2.2;refine rq [12] ?_;refine tkC (fun K hK=>?_) (AllReadyH.nil)
  go_simp
  (go_at_call 62;go_split_ands;(with_reducible refine(HC1.out _ hs1.cell hs1.free).mono ?_);rintro z w2 ⟨rfl,hb2⟩)
  go_wp2_with fail
  have hs2:=hs1.trans hb2;have FBu:=FBu.sm hb2 (by omega)
 rotate_left
 all_goals
  refine hK.out _ _ (HX8.out _ _ hs2) (fun hHeld=>?_);clear hK K
  try simp only[Act.put,s_1,s_2,s_3]
  have bltBu:=FBu.2.2.2.2;refine rq [14] ?_;refine tkC (fun K hK=>?_) (AllReadyH.nil);rw[if_pos (by rfl)];go_split_ands;obtain⟨fa,fb,fc,fd,fe⟩:=FBu
  go_wp2_with fail
  have hs3:=(hs2.setCell (p:=⟨Bu,0,none⟩) hloBu hbs (.int .i64 (K1.1.1))).setCell (p:=⟨Bu,1,none⟩) hloBu hbs (.int .i64 (K1.1.2));have FBu:=FI.set ⟨fa,fb,fc,fd,fe⟩ (K1.1.1) (K1.1.2);clear fa fb fc fd fe;generalize ((w2.setCell ⟨Bu,0,none⟩ (.int .i64 (K1.1.1))).setCell ⟨Bu,1,none⟩ (.int .i64 (K1.1.2)))=w3 at *;refine hK.out _ _ (HX8.out _ _ hs3) (fun hHeld=>?_);clear hK K
  try simp only[Act.put,s_1,s_2,s_3]
  have bltBu:=FBu.2.2.2.2;refine wpAnyH_done (by kernel_rfl) ?_ _;have hs:=hs3;exact hK _ _ _ _ _ _ _ _ _ _ _ _ _ _ _ ⟨Bu,rfl,hloBu,hs,FBu⟩
theorem smR9{L:List Pc}{b off c Bs Bu k:Nat}{K1 K2 K3:(Int×Int)×Int}{W1:World}{u1 u2 u3 u5 u8 u9 u10 u11 u12 u13 u14 u15 u16 u17 u18 u19 u20 u21 u22 u23 u24 u25 u26 u27 u28 u29 u30 u31 u32 u33 u34 u35 u36 u37 u38 u39 u40 u41 u42 u43 u44 u45 u46 u47 u48 u49 u50 u51 u52 u53 u54 u55:Value}{R:List Value}{K:Act→World→Prop}{Q0:Exit→Act→World→Prop}
  (_i2:IntKind.i64.wrap (((k+1:Nat):Int)-1)=(k:Int)) (_i1:IntKind.i64.wrap ((k:Int)+1-1)=(k:Int)) (i3:IntKind.i64.wrap (k:Int)=(k:Int)) (_i4:(k:Int)+1<(L.length:Int)) (i5:(k:Int)<(L.length:Int)) (i6:(0:Int)≤(k:Int)) (_i7:(0:Int)≤(k:Int)+1) (_i8:k<L.length) (_hlt:k+1<L.length) (_i10:((k:Int)+1).toNat=k+1) (HC2:Hid (∀w:World,w.cell? ⟨Bs,0,none⟩=some (.int .i64 K1.2)→w.frozen? ⟨Bs,0,none⟩=false→Calls Tryz.prog 63 #[.pointer (some ⟨Bs,0,none⟩),.agg #[.int .i64 (pcg L k).f0,.int .i64 (pcg L k).f1,.int .i64 (pcg L k).a0,.int .i64 (pcg L k).a1,.int .i64 (pcg L k).b0,.int .i64 (pcg L k).b1,.int .i64 (pcg L k).c0,.int .i64 (pcg L k).c1],.agg #[.int .i64 K1.1.1,.int .i64 K1.1.2]] w fun z w'=>z=.returned (.agg #[.int .i64 K2.1.1,.int .i64 K2.1.2])∧Sm Bs K2.2 w w')) (HC3:Hid (∀w:World,w.cell? ⟨Bs,0,none⟩=some (.int .i64 K2.2)→w.frozen? ⟨Bs,0,none⟩=false→Calls Tryz.prog 64 #[.pointer (some ⟨Bs,0,none⟩),.agg #[.int .i64 (pcg L k).f0,.int .i64 (pcg L k).f1,.int .i64 (pcg L k).a0,.int .i64 (pcg L k).a1,.int .i64 (pcg L k).b0,.int .i64 (pcg L k).b1,.int .i64 (pcg L k).c0,.int .i64 (pcg L k).c1],.agg #[.int .i64 K1.1.1,.int .i64 K1.1.2]] w fun z w'=>z=.returned (.agg #[.int .i64 K3.1.1,.int .i64 K3.1.2])∧Sm Bs K3.2 w w')) (hsr1:Sm Bs K1.2 W1 W1.drew) (hbs:Bs<W1.heap.size) (HX9:Hid (∀x w',Sm Bs x W1 w'→(fun w'=>W1.heap.size≤w'.heap.size∧w'.cell? ⟨b,off+k*8,none⟩=some (.int .i64 (pcg L k).f0)∧w'.cell? ⟨b,off+k*8+1,none⟩=some (.int .i64 (pcg L k).f1)∧w'.cell? ⟨b,off+k*8+2,none⟩=some (.int .i64 (pcg L k).a0)∧w'.cell? ⟨b,off+k*8+3,none⟩=some (.int .i64 (pcg L k).a1)∧w'.cell? ⟨b,off+k*8+4,none⟩=some (.int .i64 (pcg L k).b0)∧w'.cell? ⟨b,off+k*8+5,none⟩=some (.int .i64 (pcg L k).b1)∧w'.cell? ⟨b,off+k*8+6,none⟩=some (.int .i64 (pcg L k).c0)∧w'.cell? ⟨b,off+k*8+7,none⟩=some (.int .i64 (pcg L k).c1)∧w'.cell? ⟨Bu,0,none⟩=some (.int .i64 K1.1.1)∧w'.cell? ⟨Bu,1,none⟩=some (.int .i64 K1.1.2)) w'))
  (hK:∀(v8 v9 v40 v41 v42 v43 v44 v45 v46 v47 v48 v49 v50 v51 v52 v53 v54 v55:Value) (wx:World),(∃Ba Bb:Nat,v8=.pointer (some ⟨Ba,0,none⟩)∧v9=.pointer (some ⟨Bb,0,none⟩)∧Sm Bs K3.2 W1 wx∧FI wx Ba K2.1.1 K2.1.2∧FI wx Bb K3.1.1 K3.1.2)→K ⟨List.toArray (.slice (some ⟨b,off,none⟩) L.length c::u1::u2::u3::.pointer (some ⟨Bs,0,none⟩)::u5::.int .i64 ((k+1:Nat):Int)::.pointer (some ⟨Bu,0,none⟩)::v8::v9::u10::u11::u12::u13::u14::u15::u16::u17::u18::u19::u20::u21::u22::u23::u24::u25::u26::u27::u28::u29::u30::u31::u32::u33::u34::u35::u36::u37::u38::u39::v40::v41::v42::v43::v44::v45::v46::v47::v48::v49::v50::v51::v52::v53::v54::v55::R),[]⟩ wx):
  Code.wp Tryz.prog (smCode 9) (Exit.then K Q0) ⟨List.toArray (.slice (some ⟨b,off,none⟩) L.length c::u1::u2::u3::.pointer (some ⟨Bs,0,none⟩)::u5::.int .i64 ((k+1:Nat):Int)::.pointer (some ⟨Bu,0,none⟩)::u8::u9::u10::u11::u12::u13::u14::u15::u16::u17::u18::u19::u20::u21::u22::u23::u24::u25::u26::u27::u28::u29::u30::u31::u32::u33::u34::u35::u36::u37::u38::u39::u40::u41::u42::u43::u44::u45::u46::u47::u48::u49::u50::u51::u52::u53::u54::u55::R),[]⟩ W1:=by
 conv=>arg 2;whnf
 refine wp_region_noPanic ?_;refine wp_region_held_drew (S:=fun w'=>W1.heap.size≤w'.heap.size∧w'.cell? ⟨b,off+k*8,none⟩=some (.int .i64 (pcg L k).f0)∧w'.cell? ⟨b,off+k*8+1,none⟩=some (.int .i64 (pcg L k).f1)∧w'.cell? ⟨b,off+k*8+2,none⟩=some (.int .i64 (pcg L k).a0)∧w'.cell? ⟨b,off+k*8+3,none⟩=some (.int .i64 (pcg L k).a1)∧w'.cell? ⟨b,off+k*8+4,none⟩=some (.int .i64 (pcg L k).b0)∧w'.cell? ⟨b,off+k*8+5,none⟩=some (.int .i64 (pcg L k).b1)∧w'.cell? ⟨b,off+k*8+6,none⟩=some (.int .i64 (pcg L k).c0)∧w'.cell? ⟨b,off+k*8+7,none⟩=some (.int .i64 (pcg L k).c1)∧w'.cell? ⟨Bu,0,none⟩=some (.int .i64 K1.1.1)∧w'.cell? ⟨Bu,1,none⟩=some (.int .i64 K1.1.2)) (by kernel_rfl) (HX9.out _ _ hsr1) (fun hHeld=>?_);have hs0:=hsr1;obtain⟨w0,hw0⟩:=nm (W1.drew);simp only[hw0]at hs0 hHeld⊢;clear hw0;refine tkA 0 ?_;simp only[Act.put,s_1,s_2,s_3];refine tkA 1 ?_;simp only[Act.put,s_1,s_2,s_3];refine tkA 2 ?_;simp only[Act.put,s_1,s_2,s_3];refine tkA 3 ?_;simp only[Act.put,s_1,s_2,s_3];refine tkA 4 ?_;simp only[Act.put,s_1,s_2,s_3];refine tkA 5 ?_;simp only[Act.put,s_1,s_2,s_3];refine tkA 6 ?_;simp only[Act.put,s_1,s_2,s_3];refine tkA 8 ?_;simp only[Act.put,s_1,s_2,s_3];refine tkA 9 ?_;simp only[Act.put,s_1,s_2,s_3];refine tkA 10 ?_;simp only[Act.put,s_1,s_2,s_3];refine tkA 11 ?_;simp only[Act.put,s_1,s_2,s_3];refine tkA 12 ?_;simp only[Act.put,s_1,s_2,s_3];refine tkA 13 ?_;simp only[Act.put,s_1,s_2,s_3];refine tkA 14 ?_;simp only[Act.put,s_1,s_2,s_3];refine rq [7,16,17] ?_;refine tkC (fun K hK=>?_) (tkC (fun K hK=>?_) (tkC (fun K hK=>?_) (AllReadyH.nil)))
 ·go_simp
  (go_at_call 63;go_split_ands;(with_reducible refine(HC2.out _ hs0.cell hs0.free).mono ?_);rintro z w1 ⟨rfl,hb1⟩)
  go_wp2_with fail
  have hs1:=hs0.trans hb1;refine hK.out _ _ (HX9.out _ _ hs1) (fun hHeld=>?_);clear hK K
  try simp only[Act.put,s_1,s_2,s_3]
  refine rq [15,16,17] ?_;refine tkC (fun K hK=>?_) (tkC (fun K hK=>?_) (tkC (fun K hK=>?_) (AllReadyH.nil)))
  ·go_simp
   (go_at_call 64;go_split_ands;(with_reducible refine(HC3.out _ hs1.cell hs1.free).mono ?_);rintro z w2 ⟨rfl,hb2⟩)
   go_wp2_with fail
   have hs2:=hs1.trans hb2;refine hK.out _ _ (HX9.out _ _ hs2) (fun hHeld=>?_);clear hK K
   try simp only[Act.put,s_1,s_2,s_3]
   refine rq [16,17] ?_;refine tkC (fun K hK=>?_) (tkC (fun K hK=>?_) (AllReadyH.nil))
   focus
    rw[if_pos (by rfl)];go_split_ands
    go_wp2_with fail
    have hs3:=hs2.alloc (.cells #[.int .i64 0,.int .i64 0] 49);have FBa:=FI.new w2 49;obtain⟨Ba,hBa⟩:=nm (w2.heap.size);have hloBa:W1.heap.size≤Ba:=by have:=hs2.size;omega
    simp only[hBa]at FBa⊢;generalize w2.alloc (.cells #[.int .i64 0,.int .i64 0] 49)=w3 at *;refine hK.out _ _ (HX9.out _ _ hs3) (fun hHeld=>?_);clear hK K
    try simp only[Act.put,s_1,s_2,s_3]
    have bltBa:=FBa.2.2.2.2;refine rq [17] ?_;refine tkC (fun K hK=>?_) (AllReadyH.nil);rw[if_pos (by rfl)];go_split_ands
    go_wp2_with fail
    have hs4:=hs3.alloc (.cells #[.int .i64 0,.int .i64 0] 49);have FBa:=FBa.carry (below_new _ (.cells #[.int .i64 0,.int .i64 0] 49));have FBb:=FI.new w3 49;obtain⟨Bb,hBb⟩:=nm (w3.heap.size);have neBaBb:Ba≠Bb:=by have:=(bltBa);omega
    have hloBb:W1.heap.size≤Bb:=by have:=hs3.size;omega
    simp only[hBb]at FBb⊢;generalize w3.alloc (.cells #[.int .i64 0,.int .i64 0] 49)=w4 at *;refine hK.out _ _ (HX9.out _ _ hs4) (fun hHeld=>?_);clear hK K
    try simp only[Act.put,s_1,s_2,s_3]
    have bltBa:=FBa.2.2.2.2;have bltBb:=FBb.2.2.2.2;refine rq [18] ?_;refine tkC (fun K hK=>?_) (AllReadyH.nil);rw[if_pos (by rfl)];go_split_ands;obtain⟨fa,fb,fc,fd,fe⟩:=FBa
    go_wp2_with fail
    have hs5:=(hs4.setCell (p:=⟨Ba,0,none⟩) hloBa hbs (.int .i64 (K2.1.1))).setCell (p:=⟨Ba,1,none⟩) hloBa hbs (.int .i64 (K2.1.2));have FBb:=FBb.other (by first | exact neBbBa | exact neBaBb.symm) (.int .i64 (K2.1.1)) (.int .i64 (K2.1.2));have FBa:=FI.set ⟨fa,fb,fc,fd,fe⟩ (K2.1.1) (K2.1.2);clear fa fb fc fd fe;generalize ((w4.setCell ⟨Ba,0,none⟩ (.int .i64 (K2.1.1))).setCell ⟨Ba,1,none⟩ (.int .i64 (K2.1.2)))=w5 at *;refine hK.out _ _ (HX9.out _ _ hs5) (fun hHeld=>?_);clear hK K
    try simp only[Act.put,s_1,s_2,s_3]
    have bltBa:=FBa.2.2.2.2;have bltBb:=FBb.2.2.2.2;refine rq [19] ?_;refine tkC (fun K hK=>?_) (AllReadyH.nil);rw[if_pos (by rfl)];go_split_ands;obtain⟨fa,fb,fc,fd,fe⟩:=FBb
    go_wp2_with fail
    have hs6:=(hs5.setCell (p:=⟨Bb,0,none⟩) hloBb hbs (.int .i64 (K3.1.1))).setCell (p:=⟨Bb,1,none⟩) hloBb hbs (.int .i64 (K3.1.2));have FBa:=FBa.other (by first | exact neBaBb | exact neBbBa.symm) (.int .i64 (K3.1.1)) (.int .i64 (K3.1.2));have FBb:=FI.set ⟨fa,fb,fc,fd,fe⟩ (K3.1.1) (K3.1.2);clear fa fb fc fd fe;generalize ((w5.setCell ⟨Bb,0,none⟩ (.int .i64 (K3.1.1))).setCell ⟨Bb,1,none⟩ (.int .i64 (K3.1.2)))=w6 at *;refine hK.out _ _ (HX9.out _ _ hs6) (fun hHeld=>?_);clear hK K
    try simp only[Act.put,s_1,s_2,s_3]
    have bltBa:=FBa.2.2.2.2;have bltBb:=FBb.2.2.2.2
   rotate_left
   focus
    rw[if_pos (by rfl)];go_split_ands
    go_wp2_with fail
    have hs3:=hs2.alloc (.cells #[.int .i64 0,.int .i64 0] 49);have FBb:=FI.new w2 49;obtain⟨Bb,hBb⟩:=nm (w2.heap.size);have hloBb:W1.heap.size≤Bb:=by have:=hs2.size;omega
    simp only[hBb]at FBb⊢;generalize w2.alloc (.cells #[.int .i64 0,.int .i64 0] 49)=w3 at *;refine hK.out _ _ (HX9.out _ _ hs3) (fun hHeld=>?_);clear hK K
    try simp only[Act.put,s_1,s_2,s_3]
    have bltBb:=FBb.2.2.2.2;refine rq [16] ?_;refine tkC (fun K hK=>?_) (AllReadyH.nil);rw[if_pos (by rfl)];go_split_ands
    go_wp2_with fail
    have hs4:=hs3.alloc (.cells #[.int .i64 0,.int .i64 0] 49);have FBb:=FBb.carry (below_new _ (.cells #[.int .i64 0,.int .i64 0] 49));have FBa:=FI.new w3 49;obtain⟨Ba,hBa⟩:=nm (w3.heap.size);have neBbBa:Bb≠Ba:=by have:=(bltBb);omega
    have hloBa:W1.heap.size≤Ba:=by have:=hs3.size;omega
    simp only[hBa]at FBa⊢;generalize w3.alloc (.cells #[.int .i64 0,.int .i64 0] 49)=w4 at *;refine hK.out _ _ (HX9.out _ _ hs4) (fun hHeld=>?_);clear hK K
    try simp only[Act.put,s_1,s_2,s_3]
    have bltBb:=FBb.2.2.2.2;have bltBa:=FBa.2.2.2.2;refine rq [18] ?_;refine tkC (fun K hK=>?_) (AllReadyH.nil);rw[if_pos (by rfl)];go_split_ands;obtain⟨fa,fb,fc,fd,fe⟩:=FBa
    go_wp2_with fail
    have hs5:=(hs4.setCell (p:=⟨Ba,0,none⟩) hloBa hbs (.int .i64 (K2.1.1))).setCell (p:=⟨Ba,1,none⟩) hloBa hbs (.int .i64 (K2.1.2));have FBb:=FBb.other (by first | exact neBbBa | exact neBaBb.symm) (.int .i64 (K2.1.1)) (.int .i64 (K2.1.2));have FBa:=FI.set ⟨fa,fb,fc,fd,fe⟩ (K2.1.1) (K2.1.2);clear fa fb fc fd fe;generalize ((w4.setCell ⟨Ba,0,none⟩ (.int .i64 (K2.1.1))).setCell ⟨Ba,1,none⟩ (.int .i64 (K2.1.2)))=w5 at *;refine hK.out _ _ (HX9.out _ _ hs5) (fun hHeld=>?_);clear hK K
    try simp only[Act.put,s_1,s_2,s_3]
    have bltBb:=FBb.2.2.2.2;have bltBa:=FBa.2.2.2.2;refine rq [19] ?_;refine tkC (fun K hK=>?_) (AllReadyH.nil);rw[if_pos (by rfl)];go_split_ands;obtain⟨fa,fb,fc,fd,fe⟩:=FBb
    go_wp2_with fail
    have hs6:=(hs5.setCell (p:=⟨Bb,0,none⟩) hloBb hbs (.int .i64 (K3.1.1))).setCell (p:=⟨Bb,1,none⟩) hloBb hbs (.int .i64 (K3.1.2));have FBa:=FBa.other (by first | exact neBaBb | exact neBbBa.symm) (.int .i64 (K3.1.1)) (.int .i64 (K3.1.2));have FBb:=FI.set ⟨fa,fb,fc,fd,fe⟩ (K3.1.1) (K3.1.2);clear fa fb fc fd fe;generalize ((w5.setCell ⟨Bb,0,none⟩ (.int .i64 (K3.1.1))).setCell ⟨Bb,1,none⟩ (.int .i64 (K3.1.2)))=w6 at *;refine hK.out _ _ (HX9.out _ _ hs6) (fun hHeld=>?_);clear hK K
    try simp only[Act.put,s_1,s_2,s_3]
    have bltBb:=FBb.2.2.2.2;have bltBa:=FBa.2.2.2.2
   rotate_left
   all_goals
    refine wpAnyH_done (by kernel_rfl) ?_ _;have hs:=hs6;exact hK _ _ _ _ _ _ _ _ _ _ _ _ _ _ _ _ _ _ _ ⟨Ba,Bb,rfl,rfl,hs,FBa,FBb⟩
  ·rw[if_pos (by rfl)]
   go_split_ands
   go_wp2_with fail
   have hs2:=hs1.alloc (.cells #[.int .i64 0,.int .i64 0] 49);have FBa:=FI.new w1 49;obtain⟨Ba,hBa⟩:=nm (w1.heap.size);have hloBa:W1.heap.size≤Ba:=by have:=hs1.size;omega
   simp only[hBa]at FBa⊢;generalize w1.alloc (.cells #[.int .i64 0,.int .i64 0] 49)=w2 at *;refine hK.out _ _ (HX9.out _ _ hs2) (fun hHeld=>?_);clear hK K
   try simp only[Act.put,s_1,s_2,s_3]
   have bltBa:=FBa.2.2.2.2;refine rq [15,17] ?_;refine tkC (fun K hK=>?_) (tkC (fun K hK=>?_) (AllReadyH.nil))
   focus
    go_simp
    (go_at_call 64;go_split_ands;(with_reducible refine(HC3.out _ hs2.cell hs2.free).mono ?_);rintro z w3 ⟨rfl,hb3⟩)
    go_wp2_with fail
    have hs3:=hs2.trans hb3;have FBa:=FBa.sm hb3 (by omega);refine hK.out _ _ (HX9.out _ _ hs3) (fun hHeld=>?_);clear hK K
    try simp only[Act.put,s_1,s_2,s_3]
    have bltBa:=FBa.2.2.2.2;refine rq [17] ?_;refine tkC (fun K hK=>?_) (AllReadyH.nil);rw[if_pos (by rfl)];go_split_ands
    go_wp2_with fail
    have hs4:=hs3.alloc (.cells #[.int .i64 0,.int .i64 0] 49);have FBa:=FBa.carry (below_new _ (.cells #[.int .i64 0,.int .i64 0] 49));have FBb:=FI.new w3 49;obtain⟨Bb,hBb⟩:=nm (w3.heap.size);have neBaBb:Ba≠Bb:=by have:=(bltBa);omega
    have hloBb:W1.heap.size≤Bb:=by have:=hs3.size;omega
    simp only[hBb]at FBb⊢;generalize w3.alloc (.cells #[.int .i64 0,.int .i64 0] 49)=w4 at *
   rotate_left
   focus
    rw[if_pos (by rfl)];go_split_ands
    go_wp2_with fail
    have hs3:=hs2.alloc (.cells #[.int .i64 0,.int .i64 0] 49);have FBa:=FBa.carry (below_new _ (.cells #[.int .i64 0,.int .i64 0] 49));have FBb:=FI.new w2 49;obtain⟨Bb,hBb⟩:=nm (w2.heap.size);have neBaBb:Ba≠Bb:=by have:=(bltBa);omega
    have hloBb:W1.heap.size≤Bb:=by have:=hs2.size;omega
    simp only[hBb]at FBb⊢;generalize w2.alloc (.cells #[.int .i64 0,.int .i64 0] 49)=w3 at *;refine hK.out _ _ (HX9.out _ _ hs3) (fun hHeld=>?_);clear hK K
    try simp only[Act.put,s_1,s_2,s_3]
    have bltBa:=FBa.2.2.2.2;have bltBb:=FBb.2.2.2.2;refine rq [15] ?_;refine tkC (fun K hK=>?_) (AllReadyH.nil)
    go_simp
    (go_at_call 64;go_split_ands;(with_reducible refine(HC3.out _ hs3.cell hs3.free).mono ?_);rintro z w4 ⟨rfl,hb4⟩)
    go_wp2_with fail
    have hs4:=hs3.trans hb4;have FBa:=FBa.sm hb4 (by omega);have FBb:=FBb.sm hb4 (by omega)
   rotate_left
   all_goals
    refine hK.out _ _ (HX9.out _ _ hs4) (fun hHeld=>?_);clear hK K
    try simp only[Act.put,s_1,s_2,s_3]
    have bltBa:=FBa.2.2.2.2;have bltBb:=FBb.2.2.2.2;refine rq [18] ?_;refine tkC (fun K hK=>?_) (AllReadyH.nil);rw[if_pos (by rfl)];go_split_ands;obtain⟨fa,fb,fc,fd,fe⟩:=FBa
    go_wp2_with fail
    have hs5:=(hs4.setCell (p:=⟨Ba,0,none⟩) hloBa hbs (.int .i64 (K2.1.1))).setCell (p:=⟨Ba,1,none⟩) hloBa hbs (.int .i64 (K2.1.2));have FBb:=FBb.other (by first | exact neBbBa | exact neBaBb.symm) (.int .i64 (K2.1.1)) (.int .i64 (K2.1.2));have FBa:=FI.set ⟨fa,fb,fc,fd,fe⟩ (K2.1.1) (K2.1.2);clear fa fb fc fd fe;generalize ((w4.setCell ⟨Ba,0,none⟩ (.int .i64 (K2.1.1))).setCell ⟨Ba,1,none⟩ (.int .i64 (K2.1.2)))=w5 at *;refine hK.out _ _ (HX9.out _ _ hs5) (fun hHeld=>?_);clear hK K
    try simp only[Act.put,s_1,s_2,s_3]
    have bltBa:=FBa.2.2.2.2;have bltBb:=FBb.2.2.2.2;refine rq [19] ?_;refine tkC (fun K hK=>?_) (AllReadyH.nil);rw[if_pos (by rfl)];go_split_ands;obtain⟨fa,fb,fc,fd,fe⟩:=FBb
    go_wp2_with fail
    have hs6:=(hs5.setCell (p:=⟨Bb,0,none⟩) hloBb hbs (.int .i64 (K3.1.1))).setCell (p:=⟨Bb,1,none⟩) hloBb hbs (.int .i64 (K3.1.2));have FBa:=FBa.other (by first | exact neBaBb | exact neBbBa.symm) (.int .i64 (K3.1.1)) (.int .i64 (K3.1.2));have FBb:=FI.set ⟨fa,fb,fc,fd,fe⟩ (K3.1.1) (K3.1.2);clear fa fb fc fd fe;generalize ((w5.setCell ⟨Bb,0,none⟩ (.int .i64 (K3.1.1))).setCell ⟨Bb,1,none⟩ (.int .i64 (K3.1.2)))=w6 at *;refine hK.out _ _ (HX9.out _ _ hs6) (fun hHeld=>?_);clear hK K
    try simp only[Act.put,s_1,s_2,s_3]
    have bltBa:=FBa.2.2.2.2;have bltBb:=FBb.2.2.2.2;refine wpAnyH_done (by kernel_rfl) ?_ _;have hs:=hs6;exact hK _ _ _ _ _ _ _ _ _ _ _ _ _ _ _ _ _ _ _ ⟨Ba,Bb,rfl,rfl,hs,FBa,FBb⟩
  ·rw[if_pos (by rfl)]
   go_split_ands
   go_wp2_with fail
   have hs2:=hs1.alloc (.cells #[.int .i64 0,.int .i64 0] 49);have FBb:=FI.new w1 49;obtain⟨Bb,hBb⟩:=nm (w1.heap.size);have hloBb:W1.heap.size≤Bb:=by have:=hs1.size;omega
   simp only[hBb]at FBb⊢;generalize w1.alloc (.cells #[.int .i64 0,.int .i64 0] 49)=w2 at *;refine hK.out _ _ (HX9.out _ _ hs2) (fun hHeld=>?_);clear hK K
   try simp only[Act.put,s_1,s_2,s_3]
   have bltBb:=FBb.2.2.2.2;refine rq [15,16] ?_;refine tkC (fun K hK=>?_) (tkC (fun K hK=>?_) (AllReadyH.nil))
   focus
    go_simp
    (go_at_call 64;go_split_ands;(with_reducible refine(HC3.out _ hs2.cell hs2.free).mono ?_);rintro z w3 ⟨rfl,hb3⟩)
    go_wp2_with fail
    have hs3:=hs2.trans hb3;have FBb:=FBb.sm hb3 (by omega);refine hK.out _ _ (HX9.out _ _ hs3) (fun hHeld=>?_);clear hK K
    try simp only[Act.put,s_1,s_2,s_3]
    have bltBb:=FBb.2.2.2.2;refine rq [16] ?_;refine tkC (fun K hK=>?_) (AllReadyH.nil);rw[if_pos (by rfl)];go_split_ands
    go_wp2_with fail
    have hs4:=hs3.alloc (.cells #[.int .i64 0,.int .i64 0] 49);have FBb:=FBb.carry (below_new _ (.cells #[.int .i64 0,.int .i64 0] 49));have FBa:=FI.new w3 49;obtain⟨Ba,hBa⟩:=nm (w3.heap.size);have neBbBa:Bb≠Ba:=by have:=(bltBb);omega
    have hloBa:W1.heap.size≤Ba:=by have:=hs3.size;omega
    simp only[hBa]at FBa⊢;generalize w3.alloc (.cells #[.int .i64 0,.int .i64 0] 49)=w4 at *
   rotate_left
   focus
    rw[if_pos (by rfl)];go_split_ands
    go_wp2_with fail
    have hs3:=hs2.alloc (.cells #[.int .i64 0,.int .i64 0] 49);have FBb:=FBb.carry (below_new _ (.cells #[.int .i64 0,.int .i64 0] 49));have FBa:=FI.new w2 49;obtain⟨Ba,hBa⟩:=nm (w2.heap.size);have neBbBa:Bb≠Ba:=by have:=(bltBb);omega
    have hloBa:W1.heap.size≤Ba:=by have:=hs2.size;omega
    simp only[hBa]at FBa⊢;generalize w2.alloc (.cells #[.int .i64 0,.int .i64 0] 49)=w3 at *;refine hK.out _ _ (HX9.out _ _ hs3) (fun hHeld=>?_);clear hK K
    try simp only[Act.put,s_1,s_2,s_3]
    have bltBb:=FBb.2.2.2.2;have bltBa:=FBa.2.2.2.2;refine rq [15] ?_;refine tkC (fun K hK=>?_) (AllReadyH.nil)
    go_simp
    (go_at_call 64;go_split_ands;(with_reducible refine(HC3.out _ hs3.cell hs3.free).mono ?_);rintro z w4 ⟨rfl,hb4⟩)
    go_wp2_with fail
    have hs4:=hs3.trans hb4;have FBb:=FBb.sm hb4 (by omega);have FBa:=FBa.sm hb4 (by omega)
   rotate_left
   all_goals
    refine hK.out _ _ (HX9.out _ _ hs4) (fun hHeld=>?_);clear hK K
    try simp only[Act.put,s_1,s_2,s_3]
    have bltBb:=FBb.2.2.2.2;have bltBa:=FBa.2.2.2.2;refine rq [18] ?_;refine tkC (fun K hK=>?_) (AllReadyH.nil);rw[if_pos (by rfl)];go_split_ands;obtain⟨fa,fb,fc,fd,fe⟩:=FBa
    go_wp2_with fail
    have hs5:=(hs4.setCell (p:=⟨Ba,0,none⟩) hloBa hbs (.int .i64 (K2.1.1))).setCell (p:=⟨Ba,1,none⟩) hloBa hbs (.int .i64 (K2.1.2));have FBb:=FBb.other (by first | exact neBbBa | exact neBaBb.symm) (.int .i64 (K2.1.1)) (.int .i64 (K2.1.2));have FBa:=FI.set ⟨fa,fb,fc,fd,fe⟩ (K2.1.1) (K2.1.2);clear fa fb fc fd fe;generalize ((w4.setCell ⟨Ba,0,none⟩ (.int .i64 (K2.1.1))).setCell ⟨Ba,1,none⟩ (.int .i64 (K2.1.2)))=w5 at *;refine hK.out _ _ (HX9.out _ _ hs5) (fun hHeld=>?_);clear hK K
    try simp only[Act.put,s_1,s_2,s_3]
    have bltBb:=FBb.2.2.2.2;have bltBa:=FBa.2.2.2.2;refine rq [19] ?_;refine tkC (fun K hK=>?_) (AllReadyH.nil);rw[if_pos (by rfl)];go_split_ands;obtain⟨fa,fb,fc,fd,fe⟩:=FBb
    go_wp2_with fail
    have hs6:=(hs5.setCell (p:=⟨Bb,0,none⟩) hloBb hbs (.int .i64 (K3.1.1))).setCell (p:=⟨Bb,1,none⟩) hloBb hbs (.int .i64 (K3.1.2));have FBa:=FBa.other (by first | exact neBaBb | exact neBbBa.symm) (.int .i64 (K3.1.1)) (.int .i64 (K3.1.2));have FBb:=FI.set ⟨fa,fb,fc,fd,fe⟩ (K3.1.1) (K3.1.2);clear fa fb fc fd fe;generalize ((w5.setCell ⟨Bb,0,none⟩ (.int .i64 (K3.1.1))).setCell ⟨Bb,1,none⟩ (.int .i64 (K3.1.2)))=w6 at *;refine hK.out _ _ (HX9.out _ _ hs6) (fun hHeld=>?_);clear hK K
    try simp only[Act.put,s_1,s_2,s_3]
    have bltBb:=FBb.2.2.2.2;have bltBa:=FBa.2.2.2.2;refine wpAnyH_done (by kernel_rfl) ?_ _;have hs:=hs6;exact hK _ _ _ _ _ _ _ _ _ _ _ _ _ _ _ _ _ _ _ ⟨Ba,Bb,rfl,rfl,hs,FBa,FBb⟩
 ·rw[if_pos (by rfl)]
  go_split_ands
  go_wp2_with fail
  have hs1:=hs0.alloc (.cells #[.int .i64 0,.int .i64 0] 49);have FBa:=FI.new w0 49;obtain⟨Ba,hBa⟩:=nm (w0.heap.size);have hloBa:W1.heap.size≤Ba:=by have:=hs0.size;omega
  simp only[hBa]at FBa⊢;generalize w0.alloc (.cells #[.int .i64 0,.int .i64 0] 49)=w1 at *;refine hK.out _ _ (HX9.out _ _ hs1) (fun hHeld=>?_);clear hK K
  try simp only[Act.put,s_1,s_2,s_3]
  have bltBa:=FBa.2.2.2.2;refine rq [7,17] ?_;refine tkC (fun K hK=>?_) (tkC (fun K hK=>?_) (AllReadyH.nil))
  ·go_simp
   (go_at_call 63;go_split_ands;(with_reducible refine(HC2.out _ hs1.cell hs1.free).mono ?_);rintro z w2 ⟨rfl,hb2⟩)
   go_wp2_with fail
   have hs2:=hs1.trans hb2;have FBa:=FBa.sm hb2 (by omega);refine hK.out _ _ (HX9.out _ _ hs2) (fun hHeld=>?_);clear hK K
   try simp only[Act.put,s_1,s_2,s_3]
   have bltBa:=FBa.2.2.2.2;refine rq [15,17] ?_;refine tkC (fun K hK=>?_) (tkC (fun K hK=>?_) (AllReadyH.nil))
   focus
    go_simp
    (go_at_call 64;go_split_ands;(with_reducible refine(HC3.out _ hs2.cell hs2.free).mono ?_);rintro z w3 ⟨rfl,hb3⟩)
    go_wp2_with fail
    have hs3:=hs2.trans hb3;have FBa:=FBa.sm hb3 (by omega);refine hK.out _ _ (HX9.out _ _ hs3) (fun hHeld=>?_);clear hK K
    try simp only[Act.put,s_1,s_2,s_3]
    have bltBa:=FBa.2.2.2.2;refine rq [17] ?_;refine tkC (fun K hK=>?_) (AllReadyH.nil);rw[if_pos (by rfl)];go_split_ands
    go_wp2_with fail
    have hs4:=hs3.alloc (.cells #[.int .i64 0,.int .i64 0] 49);have FBa:=FBa.carry (below_new _ (.cells #[.int .i64 0,.int .i64 0] 49));have FBb:=FI.new w3 49;obtain⟨Bb,hBb⟩:=nm (w3.heap.size);have neBaBb:Ba≠Bb:=by have:=(bltBa);omega
    have hloBb:W1.heap.size≤Bb:=by have:=hs3.size;omega
    simp only[hBb]at FBb⊢;generalize w3.alloc (.cells #[.int .i64 0,.int .i64 0] 49)=w4 at *
   rotate_left
   focus
    rw[if_pos (by rfl)];go_split_ands
    go_wp2_with fail
    have hs3:=hs2.alloc (.cells #[.int .i64 0,.int .i64 0] 49);have FBa:=FBa.carry (below_new _ (.cells #[.int .i64 0,.int .i64 0] 49));have FBb:=FI.new w2 49;obtain⟨Bb,hBb⟩:=nm (w2.heap.size);have neBaBb:Ba≠Bb:=by have:=(bltBa);omega
    have hloBb:W1.heap.size≤Bb:=by have:=hs2.size;omega
    simp only[hBb]at FBb⊢;generalize w2.alloc (.cells #[.int .i64 0,.int .i64 0] 49)=w3 at *;refine hK.out _ _ (HX9.out _ _ hs3) (fun hHeld=>?_);clear hK K
    try simp only[Act.put,s_1,s_2,s_3]
    have bltBa:=FBa.2.2.2.2;have bltBb:=FBb.2.2.2.2;refine rq [15] ?_;refine tkC (fun K hK=>?_) (AllReadyH.nil)
    go_simp
    (go_at_call 64;go_split_ands;(with_reducible refine(HC3.out _ hs3.cell hs3.free).mono ?_);rintro z w4 ⟨rfl,hb4⟩)
    go_wp2_with fail
    have hs4:=hs3.trans hb4;have FBa:=FBa.sm hb4 (by omega);have FBb:=FBb.sm hb4 (by omega)
   rotate_left
   all_goals
    refine hK.out _ _ (HX9.out _ _ hs4) (fun hHeld=>?_);clear hK K
    try simp only[Act.put,s_1,s_2,s_3]
    have bltBa:=FBa.2.2.2.2;have bltBb:=FBb.2.2.2.2;refine rq [18] ?_;refine tkC (fun K hK=>?_) (AllReadyH.nil);rw[if_pos (by rfl)];go_split_ands;obtain⟨fa,fb,fc,fd,fe⟩:=FBa
    go_wp2_with fail
    have hs5:=(hs4.setCell (p:=⟨Ba,0,none⟩) hloBa hbs (.int .i64 (K2.1.1))).setCell (p:=⟨Ba,1,none⟩) hloBa hbs (.int .i64 (K2.1.2));have FBb:=FBb.other (by first | exact neBbBa | exact neBaBb.symm) (.int .i64 (K2.1.1)) (.int .i64 (K2.1.2));have FBa:=FI.set ⟨fa,fb,fc,fd,fe⟩ (K2.1.1) (K2.1.2);clear fa fb fc fd fe;generalize ((w4.setCell ⟨Ba,0,none⟩ (.int .i64 (K2.1.1))).setCell ⟨Ba,1,none⟩ (.int .i64 (K2.1.2)))=w5 at *;refine hK.out _ _ (HX9.out _ _ hs5) (fun hHeld=>?_);clear hK K
    try simp only[Act.put,s_1,s_2,s_3]
    have bltBa:=FBa.2.2.2.2;have bltBb:=FBb.2.2.2.2;refine rq [19] ?_;refine tkC (fun K hK=>?_) (AllReadyH.nil);rw[if_pos (by rfl)];go_split_ands;obtain⟨fa,fb,fc,fd,fe⟩:=FBb
    go_wp2_with fail
    have hs6:=(hs5.setCell (p:=⟨Bb,0,none⟩) hloBb hbs (.int .i64 (K3.1.1))).setCell (p:=⟨Bb,1,none⟩) hloBb hbs (.int .i64 (K3.1.2));have FBa:=FBa.other (by first | exact neBaBb | exact neBbBa.symm) (.int .i64 (K3.1.1)) (.int .i64 (K3.1.2));have FBb:=FI.set ⟨fa,fb,fc,fd,fe⟩ (K3.1.1) (K3.1.2);clear fa fb fc fd fe;generalize ((w5.setCell ⟨Bb,0,none⟩ (.int .i64 (K3.1.1))).setCell ⟨Bb,1,none⟩ (.int .i64 (K3.1.2)))=w6 at *;refine hK.out _ _ (HX9.out _ _ hs6) (fun hHeld=>?_);clear hK K
    try simp only[Act.put,s_1,s_2,s_3]
    have bltBa:=FBa.2.2.2.2;have bltBb:=FBb.2.2.2.2;refine wpAnyH_done (by kernel_rfl) ?_ _;have hs:=hs6;exact hK _ _ _ _ _ _ _ _ _ _ _ _ _ _ _ _ _ _ _ ⟨Ba,Bb,rfl,rfl,hs,FBa,FBb⟩
  ·rw[if_pos (by rfl)]
   go_split_ands
   go_wp2_with fail
   have hs2:=hs1.alloc (.cells #[.int .i64 0,.int .i64 0] 49);have FBa:=FBa.carry (below_new _ (.cells #[.int .i64 0,.int .i64 0] 49));have FBb:=FI.new w1 49;obtain⟨Bb,hBb⟩:=nm (w1.heap.size);have neBaBb:Ba≠Bb:=by have:=(bltBa);omega
   have hloBb:W1.heap.size≤Bb:=by have:=hs1.size;omega
   simp only[hBb]at FBb⊢;generalize w1.alloc (.cells #[.int .i64 0,.int .i64 0] 49)=w2 at *;refine hK.out _ _ (HX9.out _ _ hs2) (fun hHeld=>?_);clear hK K
   try simp only[Act.put,s_1,s_2,s_3]
   have bltBa:=FBa.2.2.2.2;have bltBb:=FBb.2.2.2.2;refine rq [7] ?_;refine tkC (fun K hK=>?_) (AllReadyH.nil)
   go_simp
   (go_at_call 63;go_split_ands;(with_reducible refine(HC2.out _ hs2.cell hs2.free).mono ?_);rintro z w3 ⟨rfl,hb3⟩)
   go_wp2_with fail
   have hs3:=hs2.trans hb3;have FBa:=FBa.sm hb3 (by omega);have FBb:=FBb.sm hb3 (by omega);refine hK.out _ _ (HX9.out _ _ hs3) (fun hHeld=>?_);clear hK K
   try simp only[Act.put,s_1,s_2,s_3]
   have bltBa:=FBa.2.2.2.2;have bltBb:=FBb.2.2.2.2;refine rq [15] ?_;refine tkC (fun K hK=>?_) (AllReadyH.nil)
   go_simp
   (go_at_call 64;go_split_ands;(with_reducible refine(HC3.out _ hs3.cell hs3.free).mono ?_);rintro z w4 ⟨rfl,hb4⟩)
   go_wp2_with fail
   have hs4:=hs3.trans hb4;have FBa:=FBa.sm hb4 (by omega);have FBb:=FBb.sm hb4 (by omega);refine hK.out _ _ (HX9.out _ _ hs4) (fun hHeld=>?_);clear hK K
   try simp only[Act.put,s_1,s_2,s_3]
   have bltBa:=FBa.2.2.2.2;have bltBb:=FBb.2.2.2.2;refine rq [18] ?_;refine tkC (fun K hK=>?_) (AllReadyH.nil);rw[if_pos (by rfl)];go_split_ands;obtain⟨fa,fb,fc,fd,fe⟩:=FBa
   go_wp2_with fail
   have hs5:=(hs4.setCell (p:=⟨Ba,0,none⟩) hloBa hbs (.int .i64 (K2.1.1))).setCell (p:=⟨Ba,1,none⟩) hloBa hbs (.int .i64 (K2.1.2));have FBb:=FBb.other (by first | exact neBbBa | exact neBaBb.symm) (.int .i64 (K2.1.1)) (.int .i64 (K2.1.2));have FBa:=FI.set ⟨fa,fb,fc,fd,fe⟩ (K2.1.1) (K2.1.2);clear fa fb fc fd fe;generalize ((w4.setCell ⟨Ba,0,none⟩ (.int .i64 (K2.1.1))).setCell ⟨Ba,1,none⟩ (.int .i64 (K2.1.2)))=w5 at *;refine hK.out _ _ (HX9.out _ _ hs5) (fun hHeld=>?_);clear hK K
   try simp only[Act.put,s_1,s_2,s_3]
   have bltBa:=FBa.2.2.2.2;have bltBb:=FBb.2.2.2.2;refine rq [19] ?_;refine tkC (fun K hK=>?_) (AllReadyH.nil);rw[if_pos (by rfl)];go_split_ands;obtain⟨fa,fb,fc,fd,fe⟩:=FBb
   go_wp2_with fail
   have hs6:=(hs5.setCell (p:=⟨Bb,0,none⟩) hloBb hbs (.int .i64 (K3.1.1))).setCell (p:=⟨Bb,1,none⟩) hloBb hbs (.int .i64 (K3.1.2));have FBa:=FBa.other (by first | exact neBaBb | exact neBbBa.symm) (.int .i64 (K3.1.1)) (.int .i64 (K3.1.2));have FBb:=FI.set ⟨fa,fb,fc,fd,fe⟩ (K3.1.1) (K3.1.2);clear fa fb fc fd fe;generalize ((w5.setCell ⟨Bb,0,none⟩ (.int .i64 (K3.1.1))).setCell ⟨Bb,1,none⟩ (.int .i64 (K3.1.2)))=w6 at *;refine hK.out _ _ (HX9.out _ _ hs6) (fun hHeld=>?_);clear hK K
   try simp only[Act.put,s_1,s_2,s_3]
   have bltBa:=FBa.2.2.2.2;have bltBb:=FBb.2.2.2.2;refine wpAnyH_done (by kernel_rfl) ?_ _;have hs:=hs6;exact hK _ _ _ _ _ _ _ _ _ _ _ _ _ _ _ _ _ _ _ ⟨Ba,Bb,rfl,rfl,hs,FBa,FBb⟩
 ·rw[if_pos (by rfl)]
  go_split_ands
  go_wp2_with fail
  have hs1:=hs0.alloc (.cells #[.int .i64 0,.int .i64 0] 49);have FBb:=FI.new w0 49;obtain⟨Bb,hBb⟩:=nm (w0.heap.size);have hloBb:W1.heap.size≤Bb:=by have:=hs0.size;omega
  simp only[hBb]at FBb⊢;generalize w0.alloc (.cells #[.int .i64 0,.int .i64 0] 49)=w1 at *;refine hK.out _ _ (HX9.out _ _ hs1) (fun hHeld=>?_);clear hK K
  try simp only[Act.put,s_1,s_2,s_3]
  have bltBb:=FBb.2.2.2.2;refine rq [7,16] ?_;refine tkC (fun K hK=>?_) (tkC (fun K hK=>?_) (AllReadyH.nil))
  ·go_simp
   (go_at_call 63;go_split_ands;(with_reducible refine(HC2.out _ hs1.cell hs1.free).mono ?_);rintro z w2 ⟨rfl,hb2⟩)
   go_wp2_with fail
   have hs2:=hs1.trans hb2;have FBb:=FBb.sm hb2 (by omega);refine hK.out _ _ (HX9.out _ _ hs2) (fun hHeld=>?_);clear hK K
   try simp only[Act.put,s_1,s_2,s_3]
   have bltBb:=FBb.2.2.2.2;refine rq [15,16] ?_;refine tkC (fun K hK=>?_) (tkC (fun K hK=>?_) (AllReadyH.nil))
   focus
    go_simp
    (go_at_call 64;go_split_ands;(with_reducible refine(HC3.out _ hs2.cell hs2.free).mono ?_);rintro z w3 ⟨rfl,hb3⟩)
    go_wp2_with fail
    have hs3:=hs2.trans hb3;have FBb:=FBb.sm hb3 (by omega);refine hK.out _ _ (HX9.out _ _ hs3) (fun hHeld=>?_);clear hK K
    try simp only[Act.put,s_1,s_2,s_3]
    have bltBb:=FBb.2.2.2.2;refine rq [16] ?_;refine tkC (fun K hK=>?_) (AllReadyH.nil);rw[if_pos (by rfl)];go_split_ands
    go_wp2_with fail
    have hs4:=hs3.alloc (.cells #[.int .i64 0,.int .i64 0] 49);have FBb:=FBb.carry (below_new _ (.cells #[.int .i64 0,.int .i64 0] 49));have FBa:=FI.new w3 49;obtain⟨Ba,hBa⟩:=nm (w3.heap.size);have neBbBa:Bb≠Ba:=by have:=(bltBb);omega
    have hloBa:W1.heap.size≤Ba:=by have:=hs3.size;omega
    simp only[hBa]at FBa⊢;generalize w3.alloc (.cells #[.int .i64 0,.int .i64 0] 49)=w4 at *
   rotate_left
   focus
    rw[if_pos (by rfl)];go_split_ands
    go_wp2_with fail
    have hs3:=hs2.alloc (.cells #[.int .i64 0,.int .i64 0] 49);have FBb:=FBb.carry (below_new _ (.cells #[.int .i64 0,.int .i64 0] 49));have FBa:=FI.new w2 49;obtain⟨Ba,hBa⟩:=nm (w2.heap.size);have neBbBa:Bb≠Ba:=by have:=(bltBb);omega
    have hloBa:W1.heap.size≤Ba:=by have:=hs2.size;omega
    simp only[hBa]at FBa⊢;generalize w2.alloc (.cells #[.int .i64 0,.int .i64 0] 49)=w3 at *;refine hK.out _ _ (HX9.out _ _ hs3) (fun hHeld=>?_);clear hK K
    try simp only[Act.put,s_1,s_2,s_3]
    have bltBb:=FBb.2.2.2.2;have bltBa:=FBa.2.2.2.2;refine rq [15] ?_;refine tkC (fun K hK=>?_) (AllReadyH.nil)
    go_simp
    (go_at_call 64;go_split_ands;(with_reducible refine(HC3.out _ hs3.cell hs3.free).mono ?_);rintro z w4 ⟨rfl,hb4⟩)
    go_wp2_with fail
    have hs4:=hs3.trans hb4;have FBb:=FBb.sm hb4 (by omega);have FBa:=FBa.sm hb4 (by omega)
   rotate_left
   all_goals
    refine hK.out _ _ (HX9.out _ _ hs4) (fun hHeld=>?_);clear hK K
    try simp only[Act.put,s_1,s_2,s_3]
    have bltBb:=FBb.2.2.2.2;have bltBa:=FBa.2.2.2.2;refine rq [18] ?_;refine tkC (fun K hK=>?_) (AllReadyH.nil);rw[if_pos (by rfl)];go_split_ands;obtain⟨fa,fb,fc,fd,fe⟩:=FBa
    go_wp2_with fail
    have hs5:=(hs4.setCell (p:=⟨Ba,0,none⟩) hloBa hbs (.int .i64 (K2.1.1))).setCell (p:=⟨Ba,1,none⟩) hloBa hbs (.int .i64 (K2.1.2));have FBb:=FBb.other (by first | exact neBbBa | exact neBaBb.symm) (.int .i64 (K2.1.1)) (.int .i64 (K2.1.2));have FBa:=FI.set ⟨fa,fb,fc,fd,fe⟩ (K2.1.1) (K2.1.2);clear fa fb fc fd fe;generalize ((w4.setCell ⟨Ba,0,none⟩ (.int .i64 (K2.1.1))).setCell ⟨Ba,1,none⟩ (.int .i64 (K2.1.2)))=w5 at *;refine hK.out _ _ (HX9.out _ _ hs5) (fun hHeld=>?_);clear hK K
    try simp only[Act.put,s_1,s_2,s_3]
    have bltBb:=FBb.2.2.2.2;have bltBa:=FBa.2.2.2.2;refine rq [19] ?_;refine tkC (fun K hK=>?_) (AllReadyH.nil);rw[if_pos (by rfl)];go_split_ands;obtain⟨fa,fb,fc,fd,fe⟩:=FBb
    go_wp2_with fail
    have hs6:=(hs5.setCell (p:=⟨Bb,0,none⟩) hloBb hbs (.int .i64 (K3.1.1))).setCell (p:=⟨Bb,1,none⟩) hloBb hbs (.int .i64 (K3.1.2));have FBa:=FBa.other (by first | exact neBaBb | exact neBbBa.symm) (.int .i64 (K3.1.1)) (.int .i64 (K3.1.2));have FBb:=FI.set ⟨fa,fb,fc,fd,fe⟩ (K3.1.1) (K3.1.2);clear fa fb fc fd fe;generalize ((w5.setCell ⟨Bb,0,none⟩ (.int .i64 (K3.1.1))).setCell ⟨Bb,1,none⟩ (.int .i64 (K3.1.2)))=w6 at *;refine hK.out _ _ (HX9.out _ _ hs6) (fun hHeld=>?_);clear hK K
    try simp only[Act.put,s_1,s_2,s_3]
    have bltBb:=FBb.2.2.2.2;have bltBa:=FBa.2.2.2.2;refine wpAnyH_done (by kernel_rfl) ?_ _;have hs:=hs6;exact hK _ _ _ _ _ _ _ _ _ _ _ _ _ _ _ _ _ _ _ ⟨Ba,Bb,rfl,rfl,hs,FBa,FBb⟩
  ·rw[if_pos (by rfl)]
   go_split_ands
   go_wp2_with fail
   have hs2:=hs1.alloc (.cells #[.int .i64 0,.int .i64 0] 49);have FBb:=FBb.carry (below_new _ (.cells #[.int .i64 0,.int .i64 0] 49));have FBa:=FI.new w1 49;obtain⟨Ba,hBa⟩:=nm (w1.heap.size);have neBbBa:Bb≠Ba:=by have:=(bltBb);omega
   have hloBa:W1.heap.size≤Ba:=by have:=hs1.size;omega
   simp only[hBa]at FBa⊢;generalize w1.alloc (.cells #[.int .i64 0,.int .i64 0] 49)=w2 at *;refine hK.out _ _ (HX9.out _ _ hs2) (fun hHeld=>?_);clear hK K
   try simp only[Act.put,s_1,s_2,s_3]
   have bltBb:=FBb.2.2.2.2;have bltBa:=FBa.2.2.2.2;refine rq [7] ?_;refine tkC (fun K hK=>?_) (AllReadyH.nil)
   go_simp
   (go_at_call 63;go_split_ands;(with_reducible refine(HC2.out _ hs2.cell hs2.free).mono ?_);rintro z w3 ⟨rfl,hb3⟩)
   go_wp2_with fail
   have hs3:=hs2.trans hb3;have FBb:=FBb.sm hb3 (by omega);have FBa:=FBa.sm hb3 (by omega);refine hK.out _ _ (HX9.out _ _ hs3) (fun hHeld=>?_);clear hK K
   try simp only[Act.put,s_1,s_2,s_3]
   have bltBb:=FBb.2.2.2.2;have bltBa:=FBa.2.2.2.2;refine rq [15] ?_;refine tkC (fun K hK=>?_) (AllReadyH.nil)
   go_simp
   (go_at_call 64;go_split_ands;(with_reducible refine(HC3.out _ hs3.cell hs3.free).mono ?_);rintro z w4 ⟨rfl,hb4⟩)
   go_wp2_with fail
   have hs4:=hs3.trans hb4;have FBb:=FBb.sm hb4 (by omega);have FBa:=FBa.sm hb4 (by omega);refine hK.out _ _ (HX9.out _ _ hs4) (fun hHeld=>?_);clear hK K
   try simp only[Act.put,s_1,s_2,s_3]
   have bltBb:=FBb.2.2.2.2;have bltBa:=FBa.2.2.2.2;refine rq [18] ?_;refine tkC (fun K hK=>?_) (AllReadyH.nil);rw[if_pos (by rfl)];go_split_ands;obtain⟨fa,fb,fc,fd,fe⟩:=FBa
   go_wp2_with fail
   have hs5:=(hs4.setCell (p:=⟨Ba,0,none⟩) hloBa hbs (.int .i64 (K2.1.1))).setCell (p:=⟨Ba,1,none⟩) hloBa hbs (.int .i64 (K2.1.2));have FBb:=FBb.other (by first | exact neBbBa | exact neBaBb.symm) (.int .i64 (K2.1.1)) (.int .i64 (K2.1.2));have FBa:=FI.set ⟨fa,fb,fc,fd,fe⟩ (K2.1.1) (K2.1.2);clear fa fb fc fd fe;generalize ((w4.setCell ⟨Ba,0,none⟩ (.int .i64 (K2.1.1))).setCell ⟨Ba,1,none⟩ (.int .i64 (K2.1.2)))=w5 at *;refine hK.out _ _ (HX9.out _ _ hs5) (fun hHeld=>?_);clear hK K
   try simp only[Act.put,s_1,s_2,s_3]
   have bltBb:=FBb.2.2.2.2;have bltBa:=FBa.2.2.2.2;refine rq [19] ?_;refine tkC (fun K hK=>?_) (AllReadyH.nil);rw[if_pos (by rfl)];go_split_ands;obtain⟨fa,fb,fc,fd,fe⟩:=FBb
   go_wp2_with fail
   have hs6:=(hs5.setCell (p:=⟨Bb,0,none⟩) hloBb hbs (.int .i64 (K3.1.1))).setCell (p:=⟨Bb,1,none⟩) hloBb hbs (.int .i64 (K3.1.2));have FBa:=FBa.other (by first | exact neBaBb | exact neBbBa.symm) (.int .i64 (K3.1.1)) (.int .i64 (K3.1.2));have FBb:=FI.set ⟨fa,fb,fc,fd,fe⟩ (K3.1.1) (K3.1.2);clear fa fb fc fd fe;generalize ((w5.setCell ⟨Bb,0,none⟩ (.int .i64 (K3.1.1))).setCell ⟨Bb,1,none⟩ (.int .i64 (K3.1.2)))=w6 at *;refine hK.out _ _ (HX9.out _ _ hs6) (fun hHeld=>?_);clear hK K
   try simp only[Act.put,s_1,s_2,s_3]
   have bltBb:=FBb.2.2.2.2;have bltBa:=FBa.2.2.2.2;refine wpAnyH_done (by kernel_rfl) ?_ _;have hs:=hs6;exact hK _ _ _ _ _ _ _ _ _ _ _ _ _ _ _ _ _ _ _ ⟨Ba,Bb,rfl,rfl,hs,FBa,FBb⟩
theorem qsmooth_any(L:List Pc)(ok:CurveOK L)(a:Option Addr)(c:Nat)(w:World)(hL:Pcs w.heap.size w a L):
  Calls Tryz.prog 34 #[.slice a L.length c] w fun e w'=>e=.returned (.tuple #[.bool (smoothP L).1,.int .i64 (smoothP L).2])∧Below w.heap.size w w':=by
 have hpos:=ok.pos;have hpos0:0<L.length:=hpos;have hlen:=ok.len;have HV:=lh (qvalid_yes L ok a c w hL);have HOK:=lh ok;obtain⟨b,off,rfl,hb,hc⟩:=hL (by omega);have HC:=lh hc;clear ok hc hL
 go_enter Tryz.func34,Tryz.ntmps34
 go_upto_region 4 with (go_at_call 60;(with_reducible refine HV.out.mono ?_);rintro e w1 ⟨rfl,hb1⟩;have hb9:w.heap.size≤w1.heap.size:=hb1.size)
 have hW:Below w.heap.size w (w1.alloc (.cells #[.int .i64 0] 132)):=hb1.alloc hb9 _;have s0:(w1.alloc (.cells #[.int .i64 0] 132)).cell? ⟨w1.heap.size,0,none⟩=some (.int .i64 0):=by simp
 have s1:(w1.alloc (.cells #[.int .i64 0] 132)).frozen? ⟨w1.heap.size,0,none⟩=false:=by simp
 obtain⟨Bs,hBB⟩:=nm (w1.heap.size);simp only[hBB]at s0 s1 hb9⊢;have hBs:=wl s0;simp only at hBs;clear hBB hb1;generalize w1.alloc (.cells #[.int .i64 0] 132)=W0 at *
 have HCW:Hid (∀x w',Sm Bs x W0 w'→∀i,i<L.length→w'.cell? ⟨b,off+i*8,none⟩=some (.int .i64 (pcg L i).f0)∧w'.cell? ⟨b,off+i*8+1,none⟩=some (.int .i64 (pcg L i).f1)∧w'.cell? ⟨b,off+i*8+2,none⟩=some (.int .i64 (pcg L i).a0)∧w'.cell? ⟨b,off+i*8+3,none⟩=some (.int .i64 (pcg L i).a1)∧w'.cell? ⟨b,off+i*8+4,none⟩=some (.int .i64 (pcg L i).b0)∧w'.cell? ⟨b,off+i*8+5,none⟩=some (.int .i64 (pcg L i).b1)∧w'.cell? ⟨b,off+i*8+6,none⟩=some (.int .i64 (pcg L i).c0)∧w'.cell? ⟨b,off+i*8+7,none⟩=some (.int .i64 (pcg L i).c1)):=lh fun x w' h i hi=>by
  obtain⟨c0,c1,c2,c3,c4,c5,c6,c7⟩:=HC.out i hi;have hB:=hW.trans (h.below (n:=w.heap.size) hb9 (by omega));exact⟨(hB.cell (p:=⟨b,off+i*8,none⟩) hb).trans c0,(hB.cell (p:=⟨b,off+i*8+1,none⟩) hb).trans c1,(hB.cell (p:=⟨b,off+i*8+2,none⟩) hb).trans c2,(hB.cell (p:=⟨b,off+i*8+3,none⟩) hb).trans c3,(hB.cell (p:=⟨b,off+i*8+4,none⟩) hb).trans c4,(hB.cell (p:=⟨b,off+i*8+5,none⟩) hb).trans c5,(hB.cell (p:=⟨b,off+i*8+6,none⟩) hb).trans c6,(hB.cell (p:=⟨b,off+i*8+7,none⟩) hb).trans c7⟩
 have hsd:Sm Bs 0 W0 W0.drew:=(Sm.refl s0 s1).drew;have E0:∀w,(binOp .eql 49 (.agg #[.int .i64 (pcg L 0).b0,.int .i64 (pcg L 0).b1]) (.agg #[.int .i64 0,.int .i64 1])).run Tryz.prog w=.ok (.bool (smRun L 0).1) w:=fun w=>eqF_any _ _ _ _ w;obtain⟨q0,hq0⟩:=nm ((smRun L 0).1);have HQ0:=lh hq0;rw[hq0]at E0;clear hq0 s0 s1
 have HX4:Hid (∀x w',Sm Bs x W0 w'→W0.heap.size≤w'.heap.size∧w'.cell? ⟨b,off+4,none⟩=some (.int .i64 (pcg L 0).b0)∧w'.cell? ⟨b,off+5,none⟩=some (.int .i64 (pcg L 0).b1)):=lh fun x w' h=>by
  have:=HCW.out x w' h 0 (by omega);simp only[Nat.zero_mul,Nat.add_zero]at this;exact⟨h.size,this.2.2.2.2.1,this.2.2.2.2.2.1⟩
 refine wp_region_held_drew (S:=(fun w'=>W0.heap.size≤w'.heap.size∧w'.cell? ⟨b,off+4,none⟩=some (.int .i64 (pcg L 0).b0)∧w'.cell? ⟨b,off+5,none⟩=some (.int .i64 (pcg L 0).b1))) (by kernel_rfl) (HX4.out _ _ hsd) (fun hHeld=>?_);refine tkB 0 ?_;simp only[Act.put,s_1,s_2,s_3,s_4,s_6];refine tkB 1 ?_;simp only[Act.put,s_1,s_2,s_3,s_4,s_5,s_6];refine tkB 2 ?_;simp only[Act.put,s_1,s_2,s_3,s_4,s_5,s_6];refine tkB 3 ?_;simp only[Act.put,s_1,s_2,s_3,s_4,s_5,s_6];refine r1 4 (fun K hK=>?_)
 try simp only[s_4,s_5,s_6]
 go_simp
 (go_at_call 61;go_split_ands;(with_reducible refine(qzero_any _).mono ?_);rintro z w2 ⟨rfl,hb2⟩;have hs2:=hsd.then hb2)
 go_wp2_with fail
 refine hK.out _ _ (HX4.out _ _ hs2) (fun hHeld=>?_);clear hK K
 try simp only[Act.put,s_1,s_2,s_3,s_4,s_5,s_6]
 refine tkB 5 ?_;simp only[Act.put,s_1,s_2,s_3,s_4,s_5,s_6];refine tkB 6 ?_;simp only[Act.put,s_1,s_2,s_3,s_4,s_5,s_6];refine wpAnyH_done (by kernel_rfl) ?_ _;clear E0
 go_wp2_with fail
 go_loopw [5,6] (fun p i wr=>∃k:Nat,k+1≤L.length∧i=.int .i64 ((k+1:Nat):Int)∧p=.bool (smRun L k).1∧Sm Bs (smRun L k).2 W0 wr) (fun _ i _=>L.length-(intOf i).toNat)
 case atStart=>exact⟨0,hpos,rfl,by rw[HQ0.out],hs2⟩
 case round=>
  obtain⟨k,hk,rfl,rfl,hs⟩:=hrel;have HSK:=lh hs;have hsz:=hs.size
  by_cases hlt:k+1<L.length
  ·have i1:IntKind.i64.wrap ((k:Int)+1-1)=(k:Int):=(IntWalk.i64_in _ (by omega)).trans (by omega)
   have i2:IntKind.i64.wrap (((k+1:Nat):Int)-1)=(k:Int):=(IntWalk.i64_in _ (by omega)).trans (by omega);have i3:IntKind.i64.wrap (k:Int)=(k:Int):=IntWalk.i64_in _ (by omega);have i4:(k:Int)+1<(L.length:Int):=by omega
   have i5:(k:Int)<(L.length:Int):=by omega
   have i6:(0:Int)≤(k:Int):=by omega
   have i7:(0:Int)≤(k:Int)+1:=by omega
   have i8:k<L.length:=by omega
   have i9:IntKind.i64.wrap ((k:Int)+1+1)=(k:Int)+1+1:=IntWalk.i64_in _ (by omega);have i10:((k:Int)+1).toNat=k+1:=by omega
   have i11:decide ((k:Int)+1<(L.length:Int))=true:=decide_eq_true i4;have hok:=HOK.out.val k i8;have hok1:=HOK.out.val (k+1) hlt;obtain⟨P,hP⟩:=nm (smRun L k);rw[hP]at hs;have HP:=lh hP;obtain⟨K1,hK1⟩:=nm (smU L P.2 k);obtain⟨K2,hK2⟩:=nm (smA L P.2 k);obtain⟨K3,hK3⟩:=nm (smB L P.2 k);have V1:vF K1.1=true:=by rw[←hK1];exact kSub_valid hok1.f hok.f
   have hk2:kVal K1.2 ((pcg L k).a0,(pcg L k).a1) ((pcg L k).b0,(pcg L k).b1) ((pcg L k).c0,(pcg L k).c1) K1.1=K2:=by rw[←hK2,←hK1];rfl
   have hk3:kSlope K2.2 ((pcg L k).b0,(pcg L k).b1) ((pcg L k).c0,(pcg L k).c1) K1.1=K3:=by rw[←hK3,←hK2,←hK1];rfl
   have HN:Hid (smRun L (k+1)=(P.1&&eqF K2.1 ((pcg L (k+1)).a0,(pcg L (k+1)).a1)&&eqF K3.1 ((pcg L (k+1)).b0,(pcg L (k+1)).b1),K3.2)):=lh (by rw[smRun,hP,hK2,hK3])
   have HC1:Hid (∀w:World,w.cell? ⟨Bs,0,none⟩=some (.int .i64 P.2)→w.frozen? ⟨Bs,0,none⟩=false→Calls Tryz.prog 62 #[.pointer (some ⟨Bs,0,none⟩),.agg #[.int .i64 (pcg L (k+1)).f0,.int .i64 (pcg L (k+1)).f1],.agg #[.int .i64 (pcg L k).f0,.int .i64 (pcg L k).f1]] w fun z w'=>z=.returned (.agg #[.int .i64 K1.1.1,.int .i64 K1.1.2])∧Sm Bs K1.2 w w'):=lh fun w h0 h1=>by
    have:=ksub_any Bs P.2 ((pcg L (k+1)).f0,(pcg L (k+1)).f1) ((pcg L k).f0,(pcg L k).f1) hok1.f hok.f w h0 h1
    rwa [show kSub P.2 ((pcg L (k+1)).f0,(pcg L (k+1)).f1) ((pcg L k).f0,(pcg L k).f1)=K1 from hK1]at this
   have HC2:Hid (∀w:World,w.cell? ⟨Bs,0,none⟩=some (.int .i64 K1.2)→w.frozen? ⟨Bs,0,none⟩=false→Calls Tryz.prog 63 #[.pointer (some ⟨Bs,0,none⟩),.agg #[.int .i64 (pcg L k).f0,.int .i64 (pcg L k).f1,.int .i64 (pcg L k).a0,.int .i64 (pcg L k).a1,.int .i64 (pcg L k).b0,.int .i64 (pcg L k).b1,.int .i64 (pcg L k).c0,.int .i64 (pcg L k).c1],.agg #[.int .i64 K1.1.1,.int .i64 K1.1.2]] w fun z w'=>z=.returned (.agg #[.int .i64 K2.1.1,.int .i64 K2.1.2])∧Sm Bs K2.2 w w'):=lh fun w h0 h1=>by
    have:=qvalue_any Bs K1.2 ((pcg L k).f0,(pcg L k).f1) ((pcg L k).a0,(pcg L k).a1) ((pcg L k).b0,(pcg L k).b1) ((pcg L k).c0,(pcg L k).c1) K1.1 hok.a hok.b hok.c V1 w h0 h1
    rwa [hk2]at this
   have HC3:Hid (∀w:World,w.cell? ⟨Bs,0,none⟩=some (.int .i64 K2.2)→w.frozen? ⟨Bs,0,none⟩=false→Calls Tryz.prog 64 #[.pointer (some ⟨Bs,0,none⟩),.agg #[.int .i64 (pcg L k).f0,.int .i64 (pcg L k).f1,.int .i64 (pcg L k).a0,.int .i64 (pcg L k).a1,.int .i64 (pcg L k).b0,.int .i64 (pcg L k).b1,.int .i64 (pcg L k).c0,.int .i64 (pcg L k).c1],.agg #[.int .i64 K1.1.1,.int .i64 K1.1.2]] w fun z w'=>z=.returned (.agg #[.int .i64 K3.1.1,.int .i64 K3.1.2])∧Sm Bs K3.2 w w'):=lh fun w h0 h1=>by
    have:=qslope_any Bs K2.2 ((pcg L k).f0,(pcg L k).f1) ((pcg L k).a0,(pcg L k).a1) ((pcg L k).b0,(pcg L k).b1) ((pcg L k).c0,(pcg L k).c1) K1.1 hok.b hok.c V1 w h0 h1
    rwa [hk3]at this
   obtain⟨q1,hq1⟩:=nm (eqF K2.1 ((pcg L (k+1)).a0,(pcg L (k+1)).a1));obtain⟨q2,hq2⟩:=nm (eqF K3.1 ((pcg L (k+1)).b0,(pcg L (k+1)).b1));have E1:∀w,(binOp .eql 49 (.agg #[.int .i64 K2.1.1,.int .i64 K2.1.2]) (.agg #[.int .i64 (pcg L (k+1)).a0,.int .i64 (pcg L (k+1)).a1])).run Tryz.prog w=.ok (.bool q1) w:=fun w=>by rw[←hq1];exact eqF_any _ _ _ _ w
   have E2:∀w,(binOp .eql 49 (.agg #[.int .i64 K3.1.1,.int .i64 K3.1.2]) (.agg #[.int .i64 (pcg L (k+1)).b0,.int .i64 (pcg L (k+1)).b1])).run Tryz.prog w=.ok (.bool q2) w:=fun w=>by rw[←hq2];exact eqF_any _ _ _ _ w
   have HE1:=lh E1;have HE2:=lh E2;rw[hq1,hq2]at HN;obtain⟨p,hp⟩:=nm (P.1);rw[hp]at HN;have hsr:Sm Bs P.2 wr wr.drew:=(Sm.refl hs.cell hs.free).drew;have hbs:Bs<wr.heap.size:=by omega
   have HSP:Hid (Sm Bs P.2 W0 wr):=lh hs
   have HX8:Hid (∀x w',Sm Bs x wr w'→(fun w'=>wr.heap.size≤w'.heap.size∧w'.cell? ⟨b,off+(k+1)*8,none⟩=some (.int .i64 (pcg L (k+1)).f0)∧w'.cell? ⟨b,off+(k+1)*8+1,none⟩=some (.int .i64 (pcg L (k+1)).f1)∧w'.cell? ⟨b,off+k*8,none⟩=some (.int .i64 (pcg L k).f0)∧w'.cell? ⟨b,off+k*8+1,none⟩=some (.int .i64 (pcg L k).f1)) w'):=lh fun x w' h=>by
    have h':=HSP.out.trans h;obtain⟨c0,c1,_⟩:=HCW.out x w' h' (k+1) hlt;obtain⟨d0,d1,_⟩:=HCW.out x w' h' k i8;exact⟨h.size,c0,c1,d0,d1⟩
   rw[hP,hp];clear hP hK1 hK2 hK3 hk2 hk3 hq1 hq2 V1 hok hok1 hs hp E1 E2 HSK
   go_upto_region 8 with (fail)
   refine smR8 i2 i1 i3 i4 i5 i6 i7 i8 hlt i10 HC1 hsr hbs HX8 ?_;intro v7 v27 v28 v29 v30 v31 v32 v33 v34 v35 v36 v37 v38 v39 wc hcut
   next=>
    obtain⟨Bu,rfl,hlu,hsm1,FU⟩:=hcut;obtain⟨W1,rfl⟩:∃W:World,W=wc:=⟨_,rfl⟩;have HS1:=lh (HSP.out.trans hsm1);have hz1:=hsm1.size;have hsr1:Sm Bs K1.2 W1 W1.drew:=(Sm.refl hsm1.cell hsm1.free).drew;have hbs1:Bs<W1.heap.size:=by omega
    have HFU:=lh FU
    have HX9:Hid (∀x w',Sm Bs x W1 w'→(fun w'=>W1.heap.size≤w'.heap.size∧w'.cell? ⟨b,off+k*8,none⟩=some (.int .i64 (pcg L k).f0)∧w'.cell? ⟨b,off+k*8+1,none⟩=some (.int .i64 (pcg L k).f1)∧w'.cell? ⟨b,off+k*8+2,none⟩=some (.int .i64 (pcg L k).a0)∧w'.cell? ⟨b,off+k*8+3,none⟩=some (.int .i64 (pcg L k).a1)∧w'.cell? ⟨b,off+k*8+4,none⟩=some (.int .i64 (pcg L k).b0)∧w'.cell? ⟨b,off+k*8+5,none⟩=some (.int .i64 (pcg L k).b1)∧w'.cell? ⟨b,off+k*8+6,none⟩=some (.int .i64 (pcg L k).c0)∧w'.cell? ⟨b,off+k*8+7,none⟩=some (.int .i64 (pcg L k).c1)∧w'.cell? ⟨Bu,0,none⟩=some (.int .i64 K1.1.1)∧w'.cell? ⟨Bu,1,none⟩=some (.int .i64 K1.1.2)) w'):=lh fun x w' h=>by
     have h':=HS1.out.trans h;obtain⟨c0,c1,c2,c3,c4,c5,c6,c7⟩:=HCW.out x w' h' k i8;have fu:=HFU.out.sm h (by omega);exact⟨h.size,c0,c1,c2,c3,c4,c5,c6,c7,fu.1,fu.2.1⟩
    clear hsm1 FU hsr hbs;have hbs:=hbs1;clear hbs1
    go_upto_region 9 with (fail)
    refine smR9 i2 i1 i3 i4 i5 i6 i7 i8 hlt i10 HC2 HC3 hsr1 hbs HX9 ?_;intro v8 v9 v40 v41 v42 v43 v44 v45 v46 v47 v48 v49 v50 v51 v52 v53 v54 v55 wc hcut
    next=>
     obtain⟨Ba,Bb,rfl,rfl,hsm2,FA,FB⟩:=hcut;obtain⟨W2,rfl⟩:∃W:World,W=wc:=⟨_,rfl⟩;have hS2:=HS1.out.trans hsm2;obtain⟨_,_,c2,c3,c4,c5,_⟩:=HCW.out _ _ hS2 (k+1) hlt;obtain⟨fa0,fa1,_⟩:=FA;obtain⟨fb0,fb1,_⟩:=FB;have E1:=HE1.out;have E2:=HE2.out;have HS2:=lh hS2;clear hsm2 hS2 hsr1 hbs hlu hz1 hsz
     go_upto_region 10 with (fail)
     cases p
     ·go_quiet (fail)
      clear E1 E2 c2 c3 c4 c5 fa0 fa1 fb0 fb1
      go_wp2_with fail
      go_roundw
      case rel=>exact⟨k+1,hlt,by go_num,by rw[HN.out];rfl,by rw[HN.out];exact Sm.then HS2.out (below_drewN br _)⟩
      case measure=>simp[intOf];omega
     ·cases q1
      ·go_quiet (fail)
       clear E1 E2 c2 c3 c4 c5 fa0 fa1 fb0 fb1
       go_wp2_with fail
       go_roundw
       case rel=>exact⟨k+1,hlt,by go_num,by rw[HN.out];rfl,by rw[HN.out];exact Sm.then HS2.out (below_drewN br _)⟩
       case measure=>simp[intOf];omega
      ·go_quiet (fail)
       clear E1 E2 c2 c3 c4 c5 fa0 fa1 fb0 fb1
       go_wp2_with fail
       go_roundw
       case rel=>exact⟨k+1,hlt,by go_num,by rw[HN.out];rfl,by rw[HN.out];exact Sm.then HS2.out (below_drewN br _)⟩
       case measure=>simp[intOf];omega
  ·have e:L.length-1=k:=by omega
   have HSP:Hid (smoothP L=if(smRun L k).2=0 then((smRun L k).1,0)else(false,(smRun L k).2)):=lh (by unfold smoothP;rw[e]);obtain⟨P,hP⟩:=nm (smRun L k);rw[hP]at HSP hs⊢;have g:decide (((k+1:Nat):Int)<(L.length:Int))=false:=dF (by omega);have g2:decide ((k:Int)+1<(L.length:Int))=false:=dF (by omega);have hB:=hW.trans (hs.below (n:=w.heap.size) hb9 (by omega));have s0:=hs.cell;clear hP e HSK hs
   by_cases z:P.2=0
   ·have HR:Hid (smoothP L=(P.1,0)):=lh (by rw[HSP.out,if_pos z])
    have z1:(P.2 !=0)=false:=by simpa using z
    have z2:(P.2==0)=true:=by simpa using z
    clear z
    go_wp2_with fail
    go_ret2
    exact⟨by rw[HR.out];rfl,hB⟩
   ·have HR:Hid (smoothP L=(false,P.2)):=lh (by rw[HSP.out,if_neg z])
    have z1:(P.2 !=0)=true:=by simpa using z
    have z2:(P.2==0)=false:=by simpa using z
    clear z
    go_wp2_with fail
    first
     | (go_quiet (fail);go_wp2_with fail;go_ret2;exact⟨by rw[HR.out];rfl,below_drewN hB _⟩)
     | (go_ret2;exact⟨by rw[HR.out];rfl,hB⟩)
end
end Go.Proofs.YtebofaenlhhkaaaGreat
