import Derived.Test.YtebofaenlhhkaaaGreatY25
namespace Go.Proofs.YtebofaenlhhkaaaGreat
set_option maxRecDepth 100000
set_option maxHeartbeats 80000000
set_option linter.unusedSimpArgs false
section
open Go.RowKit Go.Shelf
attribute [local go_sem] Oper.semAt_some
def Zm(r:Ds)(L:Bool):Bool:=
 Ao r.name&&(Ai r.depth 0 1048576&&(Ai r.low 0 r.high&&(Ai r.high 0 1048576&&(Ai r.length 1000 1048576&&((r.length%1000==0)&&(Ai r.lines.length 2 10&&
  (Ai r.pipe 0 1048576&&(Ai r.arbor 0 1048576&&(Ai r.purchase 1 2&&(Ai r.most 1 67108864&&(Ai r.brake 0 67108864&&(L&&(Iw r.items r.length&&Hg r.bricks)))))))))))))
theorem APd(r:Ds)(L:Bool)(h:Ai r.lines.length 2 10=true→(L=true↔∀j,j<r.lines.length→Ai (ig r.lines j) 0 r.length=true∧(0<j→ig r.lines (j-1)<ig r.lines j))):Zm r L=setB r:=by
 rw[Bool.eq_iff_iff,ADe];unfold Zm;simp only[Bool.and_eq_true,beq_iff_eq]
 constructor
 ·rintro ⟨h1,h2,h3,h4,h5,h6,h7,h8,h9,h10,h11,h12,h13,h14,h15⟩
  have l1:=Am.1 h3;have l2:=Am.1 h4;have l3:=Am.1 h5;exact⟨h1,Am.1 h2,⟨l1.1,l1.2,l2.2⟩,⟨l3.1,l3.2,h6⟩,Xc.2 ⟨h7,(h h7).1 h13⟩,Am.1 h8,Am.1 h9,Am.1 h10,Am.1 h11,Am.1 h12,h14,h15⟩
 ·intro q
  obtain⟨h7,h13⟩:=Xc.1 q.lines;obtain⟨a,b,c⟩:=q.low;obtain⟨d,e,g⟩:=q.length;exact⟨q.name,Am.2 q.depth,Am.2 ⟨a,b⟩,Am.2 ⟨by omega,c⟩,Am.2 ⟨d,e⟩,g,h7,Am.2 q.pipe,Am.2 q.arbor,Am.2 q.purchase,Am.2 q.most,Am.2 q.brake,(h h7).2 h13,q.items,q.bricks⟩
theorem Nj(r:Ds)(w:World)(hs:Ls w r):
  Calls Tryz.prog 169 #[.agg #[.string r.name,.int .i64 r.depth,.int .i64 r.low,.int .i64 r.high,.int .i64 r.length,.slice r.la r.lines.length r.lc,.int .i64 r.pipe,.int .i64 r.arbor,.int .i64 r.purchase,.int .i64 r.most,.int .i64 r.brake,.slice r.ia r.items.length r.ic,.slice r.ba r.bricks.length r.bc]] w fun e w'=>e=.returned (.bool (setB r))∧Below w.heap.size w w':=by
 obtain⟨L,hL⟩:∃L:Bool,L=true↔∀j,j<r.lines.length→Ai (ig r.lines j) 0 r.length=true∧(0<j→ig r.lines (j-1)<ig r.lines j):=by
  by_cases h:∀j,j<r.lines.length→Ai (ig r.lines j) 0 r.length=true∧(0<j→ig r.lines (j-1)<ig r.lines j)
  ·exact⟨true,fun _=>h,fun _=>rfl⟩
  ·exact⟨false,fun h=>by(cases h),fun q=>absurd q h⟩
 rw[←APd r L fun _=>hL];obtain⟨RR,hR⟩:=nm (Zm r L)
 have HF:Hid ((Ao r.name&&(Ai r.depth 0 1048576&&(Ai r.low 0 r.high&&(Ai r.high 0 1048576&&(Ai r.length 1000 1048576&&((r.length%1000==0)&&(Ai r.lines.length 2 10&&(Ai r.pipe 0 1048576&&(Ai r.arbor 0 1048576&&(Ai r.purchase 1 2&&(Ai r.most 1 67108864&&(Ai r.brake 0 67108864))))))))))))=false→RR=false):=lh fun h=>by
  rw[←hR,Bool.eq_false_iff];intro q;unfold Zm at q;simp only[Bool.and_eq_true]at q;obtain⟨a1,a2,a3,a4,a5,a6,a7,a8,a9,a10,a11,a12,_⟩:=q;rw[a1,a2,a3,a4,a5,a6,a7,a8,a9,a10,a11,a12]at h;cases h
 have HL2:Hid ((¬∀j,j<r.lines.length→Ai (ig r.lines j) 0 r.length=true∧(0<j→ig r.lines (j-1)<ig r.lines j))→RR=false):=lh fun h=>by
  rw[←hR,Bool.eq_false_iff];intro q;unfold Zm at q;simp only[Bool.and_eq_true]at q;obtain⟨_,_,_,_,_,_,_,_,_,_,_,_,q,_⟩:=q;exact h (hL.1 q)
 have HL3:Hid ((Ao r.name&&(Ai r.depth 0 1048576&&(Ai r.low 0 r.high&&(Ai r.high 0 1048576&&(Ai r.length 1000 1048576&&((r.length%1000==0)&&(Ai r.lines.length 2 10&&(Ai r.pipe 0 1048576&&(Ai r.arbor 0 1048576&&(Ai r.purchase 1 2&&(Ai r.most 1 67108864&&(Ai r.brake 0 67108864))))))))))))=true→(∀j,j<r.lines.length→Ai (ig r.lines j) 0 r.length=true∧(0<j→ig r.lines (j-1)<ig r.lines j))→RR=(Iw r.items r.length&&Hg r.bricks)):=lh fun h h2=>by
  rw[←hR];unfold Zm;simp only[Bool.and_eq_true]at h;simp only[h,hL.2 h2,Bool.true_and]
 rw[hR];clear hR hL;have hb0:=Aa w (Ko r);have HX:Hid (∀wx,Below (w.alloc (Ko r)).heap.size (w.alloc (Ko r)) wx→Below w.heap.size w wx):=lh fun wx h=>Dh _ h;have HS:Hid (∀wx,Below (w.alloc (Ko r)).heap.size (w.alloc (Ko r)) wx→Ls wx r):=lh fun wx h=>(hs.grow hb0).grow h;have HAT:Hid (∀wx,Below (w.alloc (Ko r)).heap.size (w.alloc (Ko r)) wx→Ke wx w.heap.size r):=lh fun wx h=>(Ke.new w r 59).below h (by simp);clear hb0 hs
 go_enter Tryz.func169,Tryz.ntmps169
 go_wp2_with fail
 generalize (w.alloc (Ko r))=W0 at *;have hB1:=Below.refl W0.heap.size W0;obtain⟨x0,x1,x2,x3,x4,x5,x6,x7,x8,x9,x10,x11,x12⟩:=Od HAT
 cases h0:Ao r.name
 ·have HR:Hid ((Ao r.name&&(Ai r.depth 0 1048576&&(Ai r.low 0 r.high&&(Ai r.high 0 1048576&&(Ai r.length 1000 1048576&&((r.length%1000==0)&&(Ai r.lines.length 2 10&&(Ai r.pipe 0 1048576&&(Ai r.arbor 0 1048576&&(Ai r.purchase 1 2&&(Ai r.most 1 67108864&&(Ai r.brake 0 67108864))))))))))))=false):=lh (by simp only[h0,Bool.false_and])
  have H0:=lh h0;clear h0;have HR2:=lh (HF.out HR.out);clear HF
  go_wp2_with (first
   | (go_at_call 167;go_fit (Af r.name _);rintro e w1 ⟨rfl,rfl⟩;rw[H0.out]))
  go_ret;exact⟨Ab HR2.out.symm,HX.out _ hB1⟩
 cases h1:Ai r.depth 0 1048576
 ·have HR:Hid ((Ao r.name&&(Ai r.depth 0 1048576&&(Ai r.low 0 r.high&&(Ai r.high 0 1048576&&(Ai r.length 1000 1048576&&((r.length%1000==0)&&(Ai r.lines.length 2 10&&(Ai r.pipe 0 1048576&&(Ai r.arbor 0 1048576&&(Ai r.purchase 1 2&&(Ai r.most 1 67108864&&(Ai r.brake 0 67108864))))))))))))=false):=lh (by simp only[h0,h1,Bool.true_and,Bool.false_and])
  have H0:=lh h0;have H1:=lh h1;clear h0 h1;have HR2:=lh (HF.out HR.out);clear HF
  go_wp2_with (first
   | (go_at_call 167;go_fit (Af r.name _);rintro e w1 ⟨rfl,rfl⟩;rw[H0.out])
   | (go_at_call 192;go_fit (Bi r.depth 0 1048576 _);rintro e w1 ⟨rfl,rfl⟩;rw[H1.out]))
  go_ret;exact⟨Ab HR2.out.symm,HX.out _ hB1⟩
 cases h2:Ai r.low 0 r.high
 ·have HR:Hid ((Ao r.name&&(Ai r.depth 0 1048576&&(Ai r.low 0 r.high&&(Ai r.high 0 1048576&&(Ai r.length 1000 1048576&&((r.length%1000==0)&&(Ai r.lines.length 2 10&&(Ai r.pipe 0 1048576&&(Ai r.arbor 0 1048576&&(Ai r.purchase 1 2&&(Ai r.most 1 67108864&&(Ai r.brake 0 67108864))))))))))))=false):=lh (by simp only[h0,h1,h2,Bool.true_and,Bool.false_and])
  have H0:=lh h0;have H1:=lh h1;have H2:=lh h2;clear h0 h1 h2;have HR2:=lh (HF.out HR.out);clear HF
  go_wp2_with (first
   | (go_at_call 167;go_fit (Af r.name _);rintro e w1 ⟨rfl,rfl⟩;rw[H0.out])
   | (go_at_call 192;go_fit (Bi _ _ _ _);rintro e w1 ⟨rfl,rfl⟩;simp only[H1.out,H2.out]))
  go_ret;exact⟨Ab HR2.out.symm,HX.out _ hB1⟩
 cases h3:Ai r.high 0 1048576
 ·have HR:Hid ((Ao r.name&&(Ai r.depth 0 1048576&&(Ai r.low 0 r.high&&(Ai r.high 0 1048576&&(Ai r.length 1000 1048576&&((r.length%1000==0)&&(Ai r.lines.length 2 10&&(Ai r.pipe 0 1048576&&(Ai r.arbor 0 1048576&&(Ai r.purchase 1 2&&(Ai r.most 1 67108864&&(Ai r.brake 0 67108864))))))))))))=false):=lh (by simp only[h0,h1,h2,h3,Bool.true_and,Bool.false_and])
  have H0:=lh h0;have H1:=lh h1;have H2:=lh h2;have H3:=lh h3;clear h0 h1 h2 h3;have HR2:=lh (HF.out HR.out);clear HF
  go_wp2_with (first
   | (go_at_call 167;go_fit (Af r.name _);rintro e w1 ⟨rfl,rfl⟩;rw[H0.out])
   | (go_at_call 192;go_fit (Bi _ _ _ _);rintro e w1 ⟨rfl,rfl⟩;simp only[H1.out,H2.out,H3.out]))
  go_ret;exact⟨Ab HR2.out.symm,HX.out _ hB1⟩
 cases h4:Ai r.length 1000 1048576
 ·have HR:Hid ((Ao r.name&&(Ai r.depth 0 1048576&&(Ai r.low 0 r.high&&(Ai r.high 0 1048576&&(Ai r.length 1000 1048576&&((r.length%1000==0)&&(Ai r.lines.length 2 10&&(Ai r.pipe 0 1048576&&(Ai r.arbor 0 1048576&&(Ai r.purchase 1 2&&(Ai r.most 1 67108864&&(Ai r.brake 0 67108864))))))))))))=false):=lh (by simp only[h0,h1,h2,h3,h4,Bool.true_and,Bool.false_and])
  have H0:=lh h0;have H1:=lh h1;have H2:=lh h2;have H3:=lh h3;have H4:=lh h4;clear h0 h1 h2 h3 h4;have HR2:=lh (HF.out HR.out);clear HF
  go_wp2_with (first
   | (go_at_call 167;go_fit (Af r.name _);rintro e w1 ⟨rfl,rfl⟩;rw[H0.out])
   | (go_at_call 192;go_fit (Bi _ _ _ _);rintro e w1 ⟨rfl,rfl⟩;simp only[H1.out,H2.out,H3.out,H4.out]))
  go_ret;exact⟨Ab HR2.out.symm,HX.out _ hB1⟩
 have hlen:=Am.1 h4;have hln2:0≤r.length∧r.length≤1048576:=by omega
 have HLEN:=lh hln2
 cases h5:(r.length%1000==0)
 ·have HR:Hid ((Ao r.name&&(Ai r.depth 0 1048576&&(Ai r.low 0 r.high&&(Ai r.high 0 1048576&&(Ai r.length 1000 1048576&&((r.length%1000==0)&&(Ai r.lines.length 2 10&&(Ai r.pipe 0 1048576&&(Ai r.arbor 0 1048576&&(Ai r.purchase 1 2&&(Ai r.most 1 67108864&&(Ai r.brake 0 67108864))))))))))))=false):=lh (by simp only[h0,h1,h2,h3,h4,h5,Bool.true_and,Bool.false_and])
  have H0:=lh h0;have H1:=lh h1;have H2:=lh h2;have H3:=lh h3;have H4:=lh h4;clear h0 h1 h2 h3 h4;have h5n:(r.length%1000 !=0)=true:=by rw[bne,h5];rfl
  have HR2:=lh (HF.out HR.out);clear HF
  go_wp2_with (first
   | (go_at_call 167;go_fit (Af r.name _);rintro e w1 ⟨rfl,rfl⟩;rw[H0.out])
   | (go_at_call 192;go_fit (Bi _ _ _ _);rintro e w1 ⟨rfl,rfl⟩;simp only[H1.out,H2.out,H3.out,H4.out]))
  go_ret;exact⟨Ab HR2.out.symm,HX.out _ hB1⟩
 have h5n:(r.length%1000 !=0)=false:=by rw[bne,h5];rfl
 cases h6:Ai r.lines.length 2 10
 ·have HR:Hid ((Ao r.name&&(Ai r.depth 0 1048576&&(Ai r.low 0 r.high&&(Ai r.high 0 1048576&&(Ai r.length 1000 1048576&&((r.length%1000==0)&&(Ai r.lines.length 2 10&&(Ai r.pipe 0 1048576&&(Ai r.arbor 0 1048576&&(Ai r.purchase 1 2&&(Ai r.most 1 67108864&&(Ai r.brake 0 67108864))))))))))))=false):=lh (by simp only[h0,h1,h2,h3,h4,h5,h6,Bool.true_and,Bool.false_and])
  have H0:=lh h0;have H1:=lh h1;have H2:=lh h2;have H3:=lh h3;have H4:=lh h4;have H6:=lh h6;clear h0 h1 h2 h3 h4 h6;have HR2:=lh (HF.out HR.out);clear HF
  go_wp2_with (first
   | (go_at_call 167;go_fit (Af r.name _);rintro e w1 ⟨rfl,rfl⟩;rw[H0.out])
   | (go_at_call 192;go_fit (Bi _ _ _ _);rintro e w1 ⟨rfl,rfl⟩;simp only[H1.out,H2.out,H3.out,H4.out,H6.out]))
  go_ret;exact⟨Ab HR2.out.symm,HX.out _ hB1⟩
 cases h7:Ai r.pipe 0 1048576
 ·have HR:Hid ((Ao r.name&&(Ai r.depth 0 1048576&&(Ai r.low 0 r.high&&(Ai r.high 0 1048576&&(Ai r.length 1000 1048576&&((r.length%1000==0)&&(Ai r.lines.length 2 10&&(Ai r.pipe 0 1048576&&(Ai r.arbor 0 1048576&&(Ai r.purchase 1 2&&(Ai r.most 1 67108864&&(Ai r.brake 0 67108864))))))))))))=false):=lh (by simp only[h0,h1,h2,h3,h4,h5,h6,h7,Bool.true_and,Bool.false_and])
  have H0:=lh h0;have H1:=lh h1;have H2:=lh h2;have H3:=lh h3;have H4:=lh h4;have H6:=lh h6;have H7:=lh h7;clear h0 h1 h2 h3 h4 h6 h7;have HR2:=lh (HF.out HR.out);clear HF
  go_wp2_with (first
   | (go_at_call 167;go_fit (Af r.name _);rintro e w1 ⟨rfl,rfl⟩;rw[H0.out])
   | (go_at_call 192;go_fit (Bi _ _ _ _);rintro e w1 ⟨rfl,rfl⟩;simp only[H1.out,H2.out,H3.out,H4.out,H6.out,H7.out]))
  go_ret;exact⟨Ab HR2.out.symm,HX.out _ hB1⟩
 cases h8:Ai r.arbor 0 1048576
 ·have HR:Hid ((Ao r.name&&(Ai r.depth 0 1048576&&(Ai r.low 0 r.high&&(Ai r.high 0 1048576&&(Ai r.length 1000 1048576&&((r.length%1000==0)&&(Ai r.lines.length 2 10&&(Ai r.pipe 0 1048576&&(Ai r.arbor 0 1048576&&(Ai r.purchase 1 2&&(Ai r.most 1 67108864&&(Ai r.brake 0 67108864))))))))))))=false):=lh (by simp only[h0,h1,h2,h3,h4,h5,h6,h7,h8,Bool.true_and,Bool.false_and])
  have H0:=lh h0;have H1:=lh h1;have H2:=lh h2;have H3:=lh h3;have H4:=lh h4;have H6:=lh h6;have H7:=lh h7;have H8:=lh h8;clear h0 h1 h2 h3 h4 h6 h7 h8;have HR2:=lh (HF.out HR.out);clear HF
  go_wp2_with (first
   | (go_at_call 167;go_fit (Af r.name _);rintro e w1 ⟨rfl,rfl⟩;rw[H0.out])
   | (go_at_call 192;go_fit (Bi _ _ _ _);rintro e w1 ⟨rfl,rfl⟩;simp only[H1.out,H2.out,H3.out,H4.out,H6.out,H7.out,H8.out]))
  go_ret;exact⟨Ab HR2.out.symm,HX.out _ hB1⟩
 cases h9:Ai r.purchase 1 2
 ·have HR:Hid ((Ao r.name&&(Ai r.depth 0 1048576&&(Ai r.low 0 r.high&&(Ai r.high 0 1048576&&(Ai r.length 1000 1048576&&((r.length%1000==0)&&(Ai r.lines.length 2 10&&(Ai r.pipe 0 1048576&&(Ai r.arbor 0 1048576&&(Ai r.purchase 1 2&&(Ai r.most 1 67108864&&(Ai r.brake 0 67108864))))))))))))=false):=lh (by simp only[h0,h1,h2,h3,h4,h5,h6,h7,h8,h9,Bool.true_and,Bool.false_and])
  have H0:=lh h0;have H1:=lh h1;have H2:=lh h2;have H3:=lh h3;have H4:=lh h4;have H6:=lh h6;have H7:=lh h7;have H8:=lh h8;have H9:=lh h9;clear h0 h1 h2 h3 h4 h6 h7 h8 h9;have HR2:=lh (HF.out HR.out);clear HF
  go_wp2_with (first
   | (go_at_call 167;go_fit (Af r.name _);rintro e w1 ⟨rfl,rfl⟩;rw[H0.out])
   | (go_at_call 192;go_fit (Bi _ _ _ _);rintro e w1 ⟨rfl,rfl⟩;simp only[H1.out,H2.out,H3.out,H4.out,H6.out,H7.out,H8.out,H9.out]))
  go_ret;exact⟨Ab HR2.out.symm,HX.out _ hB1⟩
 cases h10:Ai r.most 1 67108864
 ·have HR:Hid ((Ao r.name&&(Ai r.depth 0 1048576&&(Ai r.low 0 r.high&&(Ai r.high 0 1048576&&(Ai r.length 1000 1048576&&((r.length%1000==0)&&(Ai r.lines.length 2 10&&(Ai r.pipe 0 1048576&&(Ai r.arbor 0 1048576&&(Ai r.purchase 1 2&&(Ai r.most 1 67108864&&(Ai r.brake 0 67108864))))))))))))=false):=lh (by simp only[h0,h1,h2,h3,h4,h5,h6,h7,h8,h9,h10,Bool.true_and,Bool.false_and])
  have H0:=lh h0;have H1:=lh h1;have H2:=lh h2;have H3:=lh h3;have H4:=lh h4;have H6:=lh h6;have H7:=lh h7;have H8:=lh h8;have H9:=lh h9;have H10:=lh h10;clear h0 h1 h2 h3 h4 h6 h7 h8 h9 h10;have HR2:=lh (HF.out HR.out);clear HF
  go_wp2_with (first
   | (go_at_call 167;go_fit (Af r.name _);rintro e w1 ⟨rfl,rfl⟩;rw[H0.out])
   | (go_at_call 192;go_fit (Bi _ _ _ _);rintro e w1 ⟨rfl,rfl⟩;simp only[H1.out,H2.out,H3.out,H4.out,H6.out,H7.out,H8.out,H9.out,H10.out]))
  go_ret;exact⟨Ab HR2.out.symm,HX.out _ hB1⟩
 cases h11:Ai r.brake 0 67108864
 ·have HR:Hid ((Ao r.name&&(Ai r.depth 0 1048576&&(Ai r.low 0 r.high&&(Ai r.high 0 1048576&&(Ai r.length 1000 1048576&&((r.length%1000==0)&&(Ai r.lines.length 2 10&&(Ai r.pipe 0 1048576&&(Ai r.arbor 0 1048576&&(Ai r.purchase 1 2&&(Ai r.most 1 67108864&&(Ai r.brake 0 67108864))))))))))))=false):=lh (by simp only[h0,h1,h2,h3,h4,h5,h6,h7,h8,h9,h10,h11,Bool.true_and])
  have H0:=lh h0;have H1:=lh h1;have H2:=lh h2;have H3:=lh h3;have H4:=lh h4;have H6:=lh h6;have H7:=lh h7;have H8:=lh h8;have H9:=lh h9;have H10:=lh h10;have H11:=lh h11;clear h0 h1 h2 h3 h4 h6 h7 h8 h9 h10 h11;have HR2:=lh (HF.out HR.out);clear HF
  go_wp2_with (first
   | (go_at_call 167;go_fit (Af r.name _);rintro e w1 ⟨rfl,rfl⟩;rw[H0.out])
   | (go_at_call 192;go_fit (Bi _ _ _ _);rintro e w1 ⟨rfl,rfl⟩;simp only[H1.out,H2.out,H3.out,H4.out,H6.out,H7.out,H8.out,H9.out,H10.out,H11.out]))
  go_ret;exact⟨Ab HR2.out.symm,HX.out _ hB1⟩
 have HR:Hid ((Ao r.name&&(Ai r.depth 0 1048576&&(Ai r.low 0 r.high&&(Ai r.high 0 1048576&&(Ai r.length 1000 1048576&&((r.length%1000==0)&&(Ai r.lines.length 2 10&&(Ai r.pipe 0 1048576&&(Ai r.arbor 0 1048576&&(Ai r.purchase 1 2&&(Ai r.most 1 67108864&&(Ai r.brake 0 67108864))))))))))))=true):=lh (by simp only[h0,h1,h2,h3,h4,h5,h6,h7,h8,h9,h10,h11,Bool.and_self]);have H0:=lh h0;have H1:=lh h1;have H2:=lh h2;have H3:=lh h3;have H4:=lh h4;have H6:=lh h6;have H7:=lh h7;have H8:=lh h8;have H9:=lh h9;have H10:=lh h10;have H11:=lh h11;clear h0 h1 h2 h3 h4 h6 h7 h8 h9 h10 h11;have HL3:=lh (HL3.out HR.out);clear HF;have hl2:=Am.1 H6.out
 go_wp2_with (first
  | (go_at_call 167;go_fit (Af r.name _);rintro e w1 ⟨rfl,rfl⟩;rw[H0.out])
  | (go_at_call 192;go_fit (Bi r.depth 0 1048576 _);rintro e w1 ⟨rfl,rfl⟩;rw[H1.out])
  | (go_at_call 192;go_fit (Bi r.low 0 r.high _);rintro e w1 ⟨rfl,rfl⟩;rw[H2.out])
  | (go_at_call 192;go_fit (Bi r.high 0 1048576 _);rintro e w1 ⟨rfl,rfl⟩;rw[H3.out])
  | (go_at_call 192;go_fit (Bi r.length 1000 1048576 _);rintro e w1 ⟨rfl,rfl⟩;rw[H4.out])
  | (go_at_call 192;go_fit (Bi (r.lines.length:Int) 2 10 _);rintro e w1 ⟨rfl,rfl⟩;rw[H6.out])
  | (go_at_call 192;go_fit (Bi r.pipe 0 1048576 _);rintro e w1 ⟨rfl,rfl⟩;rw[H7.out])
  | (go_at_call 192;go_fit (Bi r.arbor 0 1048576 _);rintro e w1 ⟨rfl,rfl⟩;rw[H8.out])
  | (go_at_call 192;go_fit (Bi r.purchase 1 2 _);rintro e w1 ⟨rfl,rfl⟩;rw[H9.out])
  | (go_at_call 192;go_fit (Bi r.most 1 67108864 _);rintro e w1 ⟨rfl,rfl⟩;rw[H10.out])
  | (go_at_call 192;go_fit (Bi r.brake 0 67108864 _);rintro e w1 ⟨rfl,rfl⟩;rw[H11.out]))
 clear h5 h5n
 go_loopw [3] (fun v wr=>∃k:Nat,k≤r.lines.length∧v=.int .i64 k∧Hid (∀j,j<k→Ai (ig r.lines j) 0 r.length=true∧(0<j→ig r.lines (j-1)<ig r.lines j))∧Below W0.heap.size W0 wr) (fun v _=>r.lines.length-(intOf v).toNat)
 case atStart=>exact⟨0,nz,rfl,lh (fun j hj=>by omega),hB1⟩
 case round=>
  obtain⟨k,hk,rfl,HO,hB⟩:=hrel
  by_cases hlt:k<r.lines.length
  ·obtain⟨b,off,hla,hb,hc⟩:=(HS.out wr hB).lines (by omega)
   have y5:wr.cell? ⟨w.heap.size,5,none⟩=some (.slice (some ⟨b,off,none⟩) r.lines.length r.lc):=by rw[←hla];exact x5 wr hB
   have y4:=x4 wr hB;have c0:=hc k hlt;have HC:=lh hc;clear hla x5 x4 hc;have HNO:Hid (¬(Ai (ig r.lines k) 0 r.length=true∧(0<k→ig r.lines (k-1)<ig r.lines k))→RR=false):=lh fun h=>HL2.out fun q=>h (q k hlt)
   have HYE:Hid (Ai (ig r.lines k) 0 r.length=true→(0<k→ig r.lines (k-1)<ig r.lines k)→∀j,j<k+1→Ai (ig r.lines j) 0 r.length=true∧(0<j→ig r.lines (j-1)<ig r.lines j)):=lh fun h1 h2 j hj=>by
    rcases(show j<k∨j=k by omega)with l | l
    ·exact HO.out j l
    ·subst l;exact⟨h1,h2⟩
   have k1:(k:Int)<r.lines.length:=by omega
   obtain⟨x,hx⟩:=nm (ig r.lines k);rw[hx]at c0 HNO HYE;clear hx
   cases hbx:Ai x 0 r.length
   ·have HBX:=lh hbx
    have HR2:=lh (HNO.out fun h=>by rw[hbx]at h;cases h.1);clear hbx HNO HYE
    go_wp2_with (go_quiet ((go_at_call 192;exact Calls.quiet_of_same (v:=.bool false) ((Bi x 0 r.length _).mono fun e w' h=>⟨h.1.trans (by rw[HBX.out]),h.2.symm⟩))))
    go_ret;exact⟨Ab HR2.out.symm,HX.out _ (Aj hB _)⟩
   ·have HBX:=lh hbx
    have HYE2:=lh (HYE.out hbx);clear hbx;rcases Nat.eq_zero_or_pos k with h0 | h0
    ·have HYE3:=lh (HYE2.out (fun h=>absurd h (by omega)))
     have g4:decide (0<(k:Int))=false:=dF (by omega);have g5:decide (0<k)=false:=dF (by omega);clear HNO HYE HYE2 h0
     go_wp2_with (go_quiet ((go_at_call 192;exact Calls.quiet_of_same (v:=.bool true) ((Bi x 0 r.length _).mono fun e w' h=>⟨h.1.trans (by rw[HBX.out]),h.2.symm⟩))))
     go_roundw
     case rel=>exact⟨k+1,by omega,by go_num,HYE3,Aj hB _⟩
     case measure=>simp[intOf];omega
    ·obtain⟨q,hq⟩:=nm (k-1)
     have c1:=HC.out q (by omega);rw[hq]at HNO HYE2;have z5:(k:Int)-1=(q:Int):=by omega
     have z6:(q:Int)<r.lines.length:=by omega
     have z7:q<r.lines.length:=by omega
     have z8:IntKind.i64.wrap ((k:Int)-1)=(q:Int):=by rw[z5];exact IntWalk.i64_in _ (by omega)
     have g4:decide (0<(k:Int))=true:=dT (by omega);have g5:decide (0<k)=true:=dT h0;generalize ig r.lines q=y at *;clear hq
     by_cases hxy:y<x
     ·have g6:decide (x≤y)=false:=dF (by omega)
      have HYE3:=lh (HYE2.out fun _=>hxy);clear HNO HYE HYE2 hxy
      go_wp2_with (go_quiet ((go_at_call 192;exact Calls.quiet_of_same (v:=.bool true) ((Bi x 0 r.length _).mono fun e w' h=>⟨h.1.trans (by rw[HBX.out]),h.2.symm⟩))))
      go_roundw
      case rel=>exact⟨k+1,by omega,by go_num,HYE3,Aj hB _⟩
      case measure=>simp[intOf];omega
     ·have g6:decide (x≤y)=true:=dT (by omega)
      have HR2:=lh (HNO.out fun h=>hxy (h.2 h0));clear HNO HYE HYE2 hxy
      go_wp2_with (go_quiet ((go_at_call 192;exact Calls.quiet_of_same (v:=.bool true) ((Bi x 0 r.length _).mono fun e w' h=>⟨h.1.trans (by rw[HBX.out]),h.2.symm⟩))))
      go_ret;exact⟨Ab HR2.out.symm,HX.out _ (Aj hB _)⟩
  ·obtain rfl:k=r.lines.length:=by omega
   have HR3:=lh (HL3.out HO.out)
   cases hi:Iw r.items r.length
   ·have HI2:=lh hi
    have HR2:Hid (RR=false):=lh (by rw[HR3.out,hi];rfl);clear hi HR3
    go_wp2_with (go_at_call 193;go_fit (Yf r _ HLEN.out (HS.out _ hB));rintro e w4 ⟨rfl,hb⟩;rw[HI2.out];have hB4:=hB.trans (hb.mono hB.size);clear hb)
    go_ret;exact⟨Ab HR2.out.symm,HX.out _ hB4⟩
   ·have HI2:=lh hi
    have HR2:Hid (RR=Hg r.bricks):=lh (by rw[HR3.out,hi];rfl);clear hi HR3
    go_wp2_with (first
     | (go_at_call 193;go_fit (Yf r _ HLEN.out (HS.out _ hB));rintro e w4 ⟨rfl,hb⟩;rw[HI2.out];have hB4:=hB.trans (hb.mono hB.size);clear hb)
     | (go_at_call 194;go_fit (Yk _ r.bricks _ _ (HS.out _ hB4).bricks);rintro e w5 ⟨rfl,hb⟩;have hB5:=hB4.trans (hb.mono hB4.size);clear hb))
    go_ret;exact⟨Ab HR2.out.symm,HX.out _ hB5⟩
theorem Px(h:Ae)(s:ByteArray)(w:World)(hh:HouseIn0 w h)(hl:h.sets.length≤1000):
  Calls Tryz.prog 50 #[.agg #[.string h.name,.int .i64 h.height,.slice h.sa h.sets.length h.sc,.slice h.ra h.roofs.length h.rc],.string s] w fun e w'=>e=.returned (.int .i64 (Cv h.sets s))∧Below w.heap.size w w':=by
 have hb0:=Aa w (Ex h);have hat:=Au.new w h 25;have HH:=lh (hh.sets.grow hb0);clear hh
 go_enter Tryz.func50,Tryz.ntmps50
 go_upto_region 2 with (fail)
 generalize w.alloc (Ex h)=W0 at *;have HB0:=lh hb0;obtain⟨B,hB⟩:=nm (w.heap.size);rw[hB]at hat⊢;obtain⟨a0,a1,a2,a3⟩:=hat;obtain⟨sa,hsa⟩:=nm (h.sa);rw[hsa]at a2 HH⊢;clear hB hb0 hsa
 go_loop [5] (fun i=>∃k:Nat,k≤h.sets.length∧i=.int .i64 k∧Hid (∀j,j<k→decide ((hg h.sets j).name=s)=false)) (fun i=>h.sets.length-(intOf i).toNat)
 case atStart=>exact⟨0,nz,rfl,lh (fun _ h=>absurd h (Nat.not_lt_zero _))⟩
 case round=>
  obtain⟨k,hk,rfl,HA⟩:=hrel
  by_cases hlt:k<h.sets.length
  ·obtain⟨b,off,rfl,hb,hc⟩:=HH.out (by omega)
   obtain⟨d0,-⟩:=hc k hlt;have hs:=Dj (hg h.sets k).name s;clear hc
   by_cases hx:(hg h.sets k).name=s
   ·have H:=lh (Mb h.sets (fun r=>decide (r.name=s)) k hlt (dT hx) HA.out)
    rw[dT hx]at hs;clear hx
    go_wp2_with fail
    go_ret;exact⟨Cu H.out.symm,HB0.out⟩
   ·rw[dF hx]at hs
    have HB':Hid (∀j,j<k+1→decide ((hg h.sets j).name=s)=false):=lh fun j hj=>by
     rcases Nat.lt_or_ge j k with l | l
     ·exact HA.out j l
     ·obtain rfl:j=k:=by omega
      exact dF hx
    clear hx
    go_wp2_with fail
    go_round
    case rel=>exact⟨k+1,by omega,by go_num,HB'⟩
    case measure=>simp[intOf];omega
  ·obtain rfl:k=h.sets.length:=by omega
   have H:=lh (Kz h.sets (fun r=>decide (r.name=s)) HA.out)
   go_wp2_with fail
   go_ret;exact⟨Cu H.out.symm,HB0.out⟩
theorem Fb(n lo hi:Int)(w:World):
  Calls Tryz.prog 191 #[.int .i64 n,.int .i64 lo,.int .i64 hi] w fun e w'=>e=.returned (.bool (Ai n lo hi))∧w=w':=by
 have HR:Hid (Ai n lo hi=(decide (lo≤n)&&decide (n≤hi))):=lh rfl
 by_cases p1:lo≤n
 ·have g1:decide (lo≤n)=true:=dT p1
  rw[g1]at HR;clear p1
  go_enter Tryz.func191,Tryz.ntmps191
  go_wp2_with fail
  go_ret;exact⟨Ab (by rw[HR.out];rfl),rfl⟩
 ·have g1:decide (lo≤n)=false:=dF p1
  rw[g1]at HR;clear p1
  go_enter Tryz.func191,Tryz.ntmps191
  go_wp2_with fail
  go_ret;exact⟨Ab (by rw[HR.out];rfl),rfl⟩
theorem Zf(a:Option Addr)(L:List Cz)(cap:Nat)(w:World)(hl:L.length≤1000)(hL:Gj w.heap.size w a L):
  Calls Tryz.prog 168 #[.slice a L.length cap] w fun e w'=>e=.returned (.bool (Hx L))∧Below w.heap.size w w':=by
 have HL:=lh hL;clear hL
 by_cases h20:20<L.length
 ·have HZ:Hid (Hx L=false):=lh (by
   cases e:Hx L
   ·rfl
   ·have:=(Fs.1 e).1;omega)
  have g:decide ((20:Int)<(L.length:Int))=true:=dT (by omega);clear h20
  go_enter Tryz.func168,Tryz.ntmps168
  go_wp2_with fail
  go_ret;exact⟨Ab HZ.out.symm,br⟩
 have g:decide ((20:Int)<(L.length:Int))=false:=dF (by omega)
 go_enter Tryz.func168,Tryz.ntmps168
 go_upto_region 4 with (fail)
 go_loopw [3,4] (fun i _ wr=>∃k:Nat,k≤L.length∧i=.int .i64 k∧Hid (∀j,j<k→Lg L j)∧Below w.heap.size w wr) (fun i _ _=>L.length-(intOf i).toNat)
 case atStart=>exact⟨0,nz,rfl,lh (fun _ h=>absurd h (Nat.not_lt_zero _)),br⟩
 case round=>
  obtain⟨k,hk,rfl,HA,hB⟩:=hrel
  by_cases hlt:k<L.length
  ·obtain⟨b,off,ha,hb,hc⟩:=HL.out (by omega)
   subst ha;have hbs:=hB.size;obtain⟨e0,e1,e2,e3⟩:=hc k hlt;have d0:=(ct hB e0 hb);have d1:=(ct hB e1 hb);have d2:=(ct hB e2 hb);have d3:=(ct hB e3 hb);have HNO:Hid (¬Lg L k→Hx L=false):=lh fun n=>AEr hlt n;have HNA:Hid (∀j,j<k→Lg L j):=HA;have HC:=lh hc;obtain⟨x,hx⟩:=nm (rg L k);rw[hx]at d0 d1 d2 d3;have HXX:=lh hx;have hx0:∀wr:World,(wr.alloc (.cells #[.string x.name,.int .i64 x.lo,.int .i64 x.hi,.int .i64 x.most] 148)).cell? ⟨wr.heap.size,0,none⟩=some (.string x.name):=fun wr=>by simp
   clear e0 e1 e2 e3 hc hx
   cases h1:Ao x.name
   case false=>
    have H1:=lh h1;have HZ:=lh (HNO.out (fun q=>by have:=q.1.1;rw[HXX.out,H1.out]at this;cases this));clear h1
    go_upto_region 8 with (first
     | (go_at_call 167;go_fit (Af x.name _);rintro e w1 ⟨rfl,rfl⟩;rw[H1.out]))
    go_wp2_with fail
    go_ret;exact⟨Ab HZ.out.symm,hB.alloc (by omega) _⟩
   have H1:=lh h1;clear h1
   cases h2:Ai x.lo 0 x.hi
   case false=>
    have H2:=lh h2;have HZ:=lh (HNO.out (fun q=>by have:=q.1;rw[HXX.out]at this;have:=Am.2 ⟨this.2.1,this.2.2.1⟩;rw[H2.out]at this;cases this));clear h2
    go_upto_region 8 with (first
     | (go_at_call 167;go_fit (Af x.name _);rintro e w1 ⟨rfl,rfl⟩;rw[H1.out])
     | (go_at_call 191;go_fit (Fb x.lo 0 x.hi _);rintro e w1 ⟨rfl,rfl⟩;rw[H2.out]))
    go_wp2_with fail
    go_ret;exact⟨Ab HZ.out.symm,hB.alloc (by omega) _⟩
   have H2:=lh h2;clear h2
   cases h3:Ai x.hi 0 1048576
   case false=>
    have H3:=lh h3;have HZ:=lh (HNO.out (fun q=>by have t:=q.1;rw[HXX.out]at t;have:=Am.2 (show 0≤x.hi∧x.hi≤1048576 from⟨by have t1:=t.2.1;have t2:=t.2.2.1;omega,t.2.2.2.1⟩);rw[H3.out]at this;cases this));clear h3
    go_upto_region 8 with (first
     | (go_at_call 167;go_fit (Af x.name _);rintro e w1 ⟨rfl,rfl⟩;rw[H1.out])
     | (go_at_call 191;go_fit (Fb x.lo 0 x.hi _);rintro e w1 ⟨rfl,rfl⟩;rw[H2.out])
     | (go_at_call 191;go_fit (Fb x.hi 0 1048576 _);rintro e w1 ⟨rfl,rfl⟩;rw[H3.out]))
    go_wp2_with fail
    go_ret;exact⟨Ab HZ.out.symm,hB.alloc (by omega) _⟩
   have H3:=lh h3;clear h3
   cases h4:Ai x.most 0 67108864
   case false=>
    have H4:=lh h4;have HZ:=lh (HNO.out (fun q=>by have:=q.1;rw[HXX.out]at this;have:=Am.2 (show 0≤x.most∧x.most≤67108864 from⟨this.2.2.2.2.1,this.2.2.2.2.2⟩);rw[H4.out]at this;cases this));clear h4
    go_upto_region 8 with (first
     | (go_at_call 167;go_fit (Af x.name _);rintro e w1 ⟨rfl,rfl⟩;rw[H1.out])
     | (go_at_call 191;go_fit (Fb x.lo 0 x.hi _);rintro e w1 ⟨rfl,rfl⟩;rw[H2.out])
     | (go_at_call 191;go_fit (Fb x.hi 0 1048576 _);rintro e w1 ⟨rfl,rfl⟩;rw[H3.out])
     | (go_at_call 191;go_fit (Fb x.most 0 67108864 _);rintro e w1 ⟨rfl,rfl⟩;rw[H4.out]))
    go_wp2_with fail
    go_ret;exact⟨Ab HZ.out.symm,hB.alloc (by omega) _⟩
   have H4:=lh h4;clear h4
   have HOK:Hid (Ld (rg L k)):=lh (by
    rw[HXX.out];exact⟨H1.out,(Am.1 H2.out).1,(Am.1 H2.out).2,(Am.1 H3.out).2,(Am.1 H4.out).1,(Am.1 H4.out).2⟩)
   go_upto_region 10 with (first
    | (go_at_call 167;go_fit (Af x.name _);rintro e w1 ⟨rfl,rfl⟩;rw[H1.out])
    | (go_at_call 191;go_fit (Fb x.lo 0 x.hi _);rintro e w1 ⟨rfl,rfl⟩;rw[H2.out])
    | (go_at_call 191;go_fit (Fb x.hi 0 1048576 _);rintro e w1 ⟨rfl,rfl⟩;rw[H3.out])
    | (go_at_call 191;go_fit (Fb x.most 0 67108864 _);rintro e w1 ⟨rfl,rfl⟩;rw[H4.out]))
   have hB2:Below w.heap.size w (wr.alloc (.cells #[.string x.name,.int .i64 x.lo,.int .i64 x.hi,.int .i64 x.most] 148)):=hB.alloc (by omega) _;have z0:=hx0 wr;clear d0 d1 d2 d3 hx0 hB;generalize wr.alloc (.cells #[.string x.name,.int .i64 x.lo,.int .i64 x.hi,.int .i64 x.most] 148)=w4 at *;obtain⟨B4,hB4⟩:=nm (wr.heap.size);rw[hB4]at z0⊢;have hlt4:B4<w4.heap.size:=wl z0;have Z0:=lh z0;clear hB4 hbs z0;obtain⟨wo,rfl⟩:∃wo:World,wo=wr:=⟨_,rfl⟩
   go_loopw [5] (fun i wr=>∃m:Nat,m≤k∧i=.int .i64 m∧Hid (∀j,j<m→(rg L j).name≠x.name)∧Below w.heap.size w wr∧Below w4.heap.size w4 wr) (fun i _=>k-(intOf i).toNat)
   case atStart=>exact⟨0,nz,rfl,lh (fun _ h=>absurd h (Nat.not_lt_zero _)),hB2,br⟩
   case round=>
    clear hB2;obtain⟨m,hm,rfl,HM,hB,hB4⟩:=hrel
    by_cases hlm:m<k
    ·obtain⟨e0,-⟩:=HC.out m (by omega)
     have d0:=(ct hB e0 hb);have z0:=(ct hB4 Z0.out hlt4);have hs:=Dj (rg L m).name x.name;have i0:0≤(m:Int):=by omega
     have i1:(m:Int)<(L.length:Int):=by omega
     have i2:(m:Int)<(k:Int):=by omega
     clear e0
     by_cases hx:(rg L m).name=x.name
     ·have HZ:=lh (HNO.out fun q=>q.2 m hlm (by rw[HXX.out];exact hx))
      rw[dT hx]at hs;clear hx
      go_upto_region 12 with (fail)
      go_quiet (fail)
      go_wp2_with fail
      go_ret;exact⟨Ab HZ.out.symm,Aj hB _⟩
     ·rw[dF hx]at hs
      have HM2:Hid (∀j,j<m+1→(rg L j).name≠x.name):=lh fun j hj=>by
       rcases Nat.lt_or_ge j m with l | l
       ·exact HM.out j l
       ·obtain rfl:j=m:=by omega
        exact hx
      clear hx
      go_upto_region 12 with (fail)
      go_quiet (fail)
      go_wp2_with fail
      go_roundw
      case rel=>exact⟨m+1,by omega,by go_num,HM2,Aj hB _,Aj hB4 _⟩
      case measure=>simp[intOf];omega
    ·obtain rfl:m=k:=by omega
     have HN:Hid (∀j,j<m+1→Lg L j):=lh fun j hj=>by
      rcases Nat.lt_or_ge j m with l | l
      ·exact HNA.out j l
      ·obtain rfl:j=m:=by omega
       exact⟨HOK.out,fun i hi=>by rw[HXX.out];exact HM.out i hi⟩
     go_wp2_with fail
     go_roundw
     case rel=>exact⟨m+1,by omega,by go_num,HN,hB⟩
     case measure=>simp[intOf];omega
  ·obtain rfl:k=L.length:=by omega
   have HZ:Hid (Hx L=true):=lh (Fs.2 ⟨by omega,HA.out⟩)
   go_wp2_with fail
   go_ret;exact⟨Ab HZ.out.symm,hB⟩
theorem AFh(h:Ae)(w:World)(hh:Ax w h):
  Calls Tryz.prog 126 #[.agg #[.string h.name,.int .i64 h.height,.slice h.sa h.sets.length h.sc,.slice h.ra h.roofs.length h.rc]] w fun e w'=>e=.returned (.bool (Dz h))∧Below w.heap.size w w':=by
 have hb0:=Aa w (Ex h);have hl:=hh.slen;have hcap:=hh.scap;have HX:Hid (∀w',Below (w.alloc (Ex h)).heap.size (w.alloc (Ex h)) w'→Au w' w.heap.size h∧Ax w' h∧Below w.heap.size w w'):=lh fun w' q=>⟨(Au.new w h _).carry q,(hh.grow hb0).grow q,hb0.trans (q.mono hb0.size)⟩
 have HNO:Hid ((¬(Ao h.name=true∧1≤h.height∧h.height≤1048576∧h.sets.length≤60∧Nf h.roofs))→Dz h=false):=lh fun n=>by
  cases e:Dz h
  ·rfl
  ·obtain⟨a,b,c,d,e,_⟩:=Hw.1 e
   exact absurd ⟨a,b,c,d,e⟩ n
 clear hh hb0
 cases h1:Ao h.name
 case false=>
  have H1:=lh h1;have HZ:=lh (HNO.out (fun q=>by have:=q.1;rw[H1.out]at this;cases this))
  go_enter Tryz.func126,Tryz.ntmps126
  go_upto_region 1 with (fail)
  generalize w.alloc (Ex h)=W0 at *;obtain⟨⟨a0,a1,a2,a3⟩,-,-⟩:=HX.out _ br
  go_wp2_with (go_at_call 167;go_fit (Af h.name _);rintro e w1 ⟨rfl,rfl⟩;rw[H1.out])
  go_ret;exact⟨Ab HZ.out.symm,(HX.out _ br).2.2⟩
 have H1:=lh h1
 cases h2:decide (h.height<1)
 case true=>
  have H2:=lh h2;have HZ:=lh (HNO.out (fun q=>by have:=of_decide_eq_true H2.out;omega))
  go_enter Tryz.func126,Tryz.ntmps126
  go_upto_region 1 with (fail)
  generalize w.alloc (Ex h)=W0 at *;obtain⟨⟨a0,a1,a2,a3⟩,-,-⟩:=HX.out _ br
  go_wp2_with (go_at_call 167;go_fit (Af h.name _);rintro e w1 ⟨rfl,rfl⟩;rw[H1.out])
  go_ret;exact⟨Ab HZ.out.symm,(HX.out _ br).2.2⟩
 have H2:=lh h2
 cases h3:decide (1048576<h.height)
 case true=>
  have H3:=lh h3;have HZ:=lh (HNO.out (fun q=>by have:=of_decide_eq_true H3.out;omega))
  go_enter Tryz.func126,Tryz.ntmps126
  go_upto_region 1 with (fail)
  generalize w.alloc (Ex h)=W0 at *;obtain⟨⟨a0,a1,a2,a3⟩,-,-⟩:=HX.out _ br
  go_wp2_with (go_at_call 167;go_fit (Af h.name _);rintro e w1 ⟨rfl,rfl⟩;rw[H1.out])
  go_ret;exact⟨Ab HZ.out.symm,(HX.out _ br).2.2⟩
 have H3:=lh h3
 cases h4:decide ((60:Int)<(h.sets.length:Int))
 case true=>
  have H4:=lh h4;have HZ:=lh (HNO.out (fun q=>by have:=of_decide_eq_true H4.out;omega))
  go_enter Tryz.func126,Tryz.ntmps126
  go_upto_region 1 with (fail)
  generalize w.alloc (Ex h)=W0 at *;obtain⟨⟨a0,a1,a2,a3⟩,-,-⟩:=HX.out _ br
  go_wp2_with (go_at_call 167;go_fit (Af h.name _);rintro e w1 ⟨rfl,rfl⟩;rw[H1.out])
  go_ret;exact⟨Ab HZ.out.symm,(HX.out _ br).2.2⟩
 have H4:=lh h4
 cases h5:Hx h.roofs
 case false=>
  have H5:=lh h5;have HZ:=lh (HNO.out (fun q=>by have:=Fs.2 q.2.2.2.2;rw[H5.out]at this;cases this))
  go_enter Tryz.func126,Tryz.ntmps126
  go_upto_region 1 with (fail)
  generalize w.alloc (Ex h)=W0 at *;obtain⟨⟨a0,a1,a2,a3⟩,-,-⟩:=HX.out _ br
  go_wp2_with (first
   | (go_at_call 167;go_fit (Af h.name _);rintro e w1 ⟨rfl,rfl⟩;rw[H1.out])
   | (go_at_call 168;go_fit (Zf _ h.roofs _ _ (HX.out _ br).2.1.rlen (HX.out _ br).2.1.roofs);rintro e w1 ⟨rfl,hb1⟩;rw[H5.out]))
  go_ret;exact⟨Ab HZ.out.symm,(HX.out _ hb1).2.2⟩
 have H5:=lh h5;have HOK:Hid (Ao h.name=true∧1≤h.height∧h.height≤1048576∧h.sets.length≤60∧Nf h.roofs):=lh ⟨H1.out,by have:=of_decide_eq_false H2.out;omega,by have:=of_decide_eq_false H3.out;omega,by have:=of_decide_eq_false H4.out;omega,Fs.1 H5.out⟩;clear HNO
 go_enter Tryz.func126,Tryz.ntmps126
 go_upto_region 1 with (fail)
 generalize w.alloc (Ex h)=W0 at *;obtain⟨⟨a0,a1,a2,a3⟩,-,-⟩:=HX.out _ br
 go_upto_region 4 with (first
  | (go_at_call 167;go_fit (Af h.name _);rintro e w1 ⟨rfl,rfl⟩;rw[H1.out])
  | (go_at_call 168;go_fit (Zf _ h.roofs _ _ (HX.out _ br).2.1.rlen (HX.out _ br).2.1.roofs);rintro e w1 ⟨rfl,hb1⟩;rw[H5.out]))
 clear a0 a1 a2 a3 h1 h2 h3 h4 h5;obtain⟨B,hBB⟩:=nm (w.heap.size);have HW:Hid (∀w',Below W0.heap.size W0 w'→Below w.heap.size w w'):=lh fun w' q=>(HX.out w' q).2.2;rw[hBB]at HX⊢;have HA:Hid (∀w',Below W0.heap.size W0 w'→Au w' B h):=lh fun w' q=>(HX.out w' q).1;have HH:Hid (∀w',Below W0.heap.size W0 w'→HouseIn0 w' h):=lh fun w' q=>(HX.out w' q).2.1.toHouseIn0;have HALL:Hid (∀w',Below W0.heap.size W0 w'→∀i,i<h.sets.length→Ls w' (hg h.sets i)):=lh fun w' q=>(HX.out w' q).2.1.all;have x0:∀w',Below W0.heap.size W0 w'→w'.cell? ⟨B,0,none⟩=some (.string h.name):=fun w' q=>(HA.out w' q).1;have x1:∀w',Below W0.heap.size W0 w'→w'.cell? ⟨B,1,none⟩=some (.int .i64 h.height):=fun w' q=>(HA.out w' q).2.1;have x2:∀w',Below W0.heap.size W0 w'→w'.cell? ⟨B,2,none⟩=some (.slice h.sa h.sets.length h.sc):=fun w' q=>(HA.out w' q).2.2.1;have x3:∀w',Below W0.heap.size W0 w'→w'.cell? ⟨B,3,none⟩=some (.slice h.ra h.roofs.length h.rc):=fun w' q=>(HA.out w' q).2.2.2;clear HX hBB
 go_loopw [3] (fun i wr=>∃k:Nat,k≤h.sets.length∧i=.int .i64 k∧Hid (∀j,j<k→Hc h j)∧Below W0.heap.size W0 wr) (fun i _=>h.sets.length-(intOf i).toNat)
 case atStart=>exact⟨0,nz,rfl,lh (fun _ h=>absurd h (Nat.not_lt_zero _)),hb1⟩
 case round=>
  clear hb1;obtain⟨k,hk,rfl,HO,hB⟩:=hrel
  by_cases hlt:k<h.sets.length
  ·have HNK:Hid (¬Hc h k→Dz h=false):=lh fun n=>ADp hlt n
   have HSET:Hid (∀w',Below W0.heap.size W0 w'→Ls w' (hg h.sets k)):=lh fun w' q=>HALL.out w' q k hlt;have HFA:=lh (AIj hlt);obtain⟨b,off,hsa,hb,-⟩:=(HH.out W0 br).sets (by omega);have HSA:=lh hsa
   have y0:∀w',Below W0.heap.size W0 w'→w'.cell? ⟨b,off+k*13,none⟩=some (.string (hg h.sets k).name):=fun w' q=>by
    obtain⟨b',off',e,-,hc⟩:=(HH.out w' q).sets (by omega);rw[HSA.out]at e
    cases e
    exact(hc k hlt).1
   have y1:∀w',Below W0.heap.size W0 w'→w'.cell? ⟨b,off+k*13+1,none⟩=some (.int .i64 (hg h.sets k).depth):=fun w' q=>by
    obtain⟨b',off',e,-,hc⟩:=(HH.out w' q).sets (by omega);rw[HSA.out]at e
    cases e
    exact(hc k hlt).2.1
   have y2:∀w',Below W0.heap.size W0 w'→w'.cell? ⟨b,off+k*13+2,none⟩=some (.int .i64 (hg h.sets k).low):=fun w' q=>by
    obtain⟨b',off',e,-,hc⟩:=(HH.out w' q).sets (by omega);rw[HSA.out]at e
    cases e
    exact(hc k hlt).2.2.1
   have y3:∀w',Below W0.heap.size W0 w'→w'.cell? ⟨b,off+k*13+3,none⟩=some (.int .i64 (hg h.sets k).high):=fun w' q=>by
    obtain⟨b',off',e,-,hc⟩:=(HH.out w' q).sets (by omega);rw[HSA.out]at e
    cases e
    exact(hc k hlt).2.2.2.1
   have y4:∀w',Below W0.heap.size W0 w'→w'.cell? ⟨b,off+k*13+4,none⟩=some (.int .i64 (hg h.sets k).length):=fun w' q=>by
    obtain⟨b',off',e,-,hc⟩:=(HH.out w' q).sets (by omega);rw[HSA.out]at e
    cases e
    exact(hc k hlt).2.2.2.2.1
   have y5:∀w',Below W0.heap.size W0 w'→w'.cell? ⟨b,off+k*13+5,none⟩=some (.slice (hg h.sets k).la (hg h.sets k).lines.length (hg h.sets k).lc):=fun w' q=>by
    obtain⟨b',off',e,-,hc⟩:=(HH.out w' q).sets (by omega);rw[HSA.out]at e
    cases e
    exact(hc k hlt).2.2.2.2.2.1
   have y6:∀w',Below W0.heap.size W0 w'→w'.cell? ⟨b,off+k*13+6,none⟩=some (.int .i64 (hg h.sets k).pipe):=fun w' q=>by
    obtain⟨b',off',e,-,hc⟩:=(HH.out w' q).sets (by omega);rw[HSA.out]at e
    cases e
    exact(hc k hlt).2.2.2.2.2.2.1
   have y7:∀w',Below W0.heap.size W0 w'→w'.cell? ⟨b,off+k*13+7,none⟩=some (.int .i64 (hg h.sets k).arbor):=fun w' q=>by
    obtain⟨b',off',e,-,hc⟩:=(HH.out w' q).sets (by omega);rw[HSA.out]at e
    cases e
    exact(hc k hlt).2.2.2.2.2.2.2.1
   have y8:∀w',Below W0.heap.size W0 w'→w'.cell? ⟨b,off+k*13+8,none⟩=some (.int .i64 (hg h.sets k).purchase):=fun w' q=>by
    obtain⟨b',off',e,-,hc⟩:=(HH.out w' q).sets (by omega);rw[HSA.out]at e
    cases e
    exact(hc k hlt).2.2.2.2.2.2.2.2.1
   have y9:∀w',Below W0.heap.size W0 w'→w'.cell? ⟨b,off+k*13+9,none⟩=some (.int .i64 (hg h.sets k).most):=fun w' q=>by
    obtain⟨b',off',e,-,hc⟩:=(HH.out w' q).sets (by omega);rw[HSA.out]at e
    cases e
    exact(hc k hlt).2.2.2.2.2.2.2.2.2.1
   have y10:∀w',Below W0.heap.size W0 w'→w'.cell? ⟨b,off+k*13+10,none⟩=some (.int .i64 (hg h.sets k).brake):=fun w' q=>by
    obtain⟨b',off',e,-,hc⟩:=(HH.out w' q).sets (by omega);rw[HSA.out]at e
    cases e
    exact(hc k hlt).2.2.2.2.2.2.2.2.2.2.1
   have y11:∀w',Below W0.heap.size W0 w'→w'.cell? ⟨b,off+k*13+11,none⟩=some (.slice (hg h.sets k).ia (hg h.sets k).items.length (hg h.sets k).ic):=fun w' q=>by
    obtain⟨b',off',e,-,hc⟩:=(HH.out w' q).sets (by omega);rw[HSA.out]at e
    cases e
    exact(hc k hlt).2.2.2.2.2.2.2.2.2.2.2.1
   have y12:∀w',Below W0.heap.size W0 w'→w'.cell? ⟨b,off+k*13+12,none⟩=some (.slice (hg h.sets k).ba (hg h.sets k).bricks.length (hg h.sets k).bc):=fun w' q=>by
    obtain⟨b',off',e,-,hc⟩:=(HH.out w' q).sets (by omega);rw[HSA.out]at e
    cases e
    exact(hc k hlt).2.2.2.2.2.2.2.2.2.2.2.2
   have HFS:=lh fun w' (q:HouseIn0 w' h)=>Px h (hg h.sets k).name w' q hl;rw[hsa]at x2 HFS;clear hsa;have i0:0≤(k:Int):=by omega
   have i1:(k:Int)<(h.sets.length:Int):=by omega
   have HN:Hid (Hc h k→∀j,j<k+1→Hc h j):=lh fun q j hj=>by
    rcases Nat.lt_or_ge j k with l | l
    ·exact HO.out j l
    ·obtain rfl:j=k:=by omega
     exact q
   have HDEF:Hid (Hc h k↔setB (hg h.sets k)=true∧(hg h.sets k).high≤h.height∧Cv h.sets (hg h.sets k).name=(k:Int)):=lh ⟨fun q=>⟨q.1,q.2.1,HFA.out.2 q.2.2⟩,fun q=>⟨q.1,q.2.1,HFA.out.1 q.2.2⟩⟩;obtain⟨x,hx⟩:=nm (hg h.sets k);rw[hx]at y0 y1 y2 y3 y4 y5 y6 y7 y8 y9 y10 y11 y12 HSET HDEF HFS;clear hx HFA
   go_upto_region 6 with (fail)
   cases hv:setB x
   case false=>
    have HV:=lh hv;have HZ:=lh (HNK.out fun q=>by have:=(HDEF.out.1 q).1;rw[HV.out]at this;cases this);clear hv;refine wp_region_held_drew (S:=(fun w'=>Below W0.heap.size W0 w')) (by kernel_rfl) (hB.drew) (fun hHeld=>?_);refine tk 0 ?_;refine tk 1 ?_;refine tk 2 ?_;refine tk 3 ?_;refine tk 4 ?_;refine r1 5 (fun K hK=>?_)
    try simp only[Ba,Bc,Az]
    go_simp
    (go_at_call 169;go_split_ands;go_fit (Nj x _ (HSET.out _ hHeld));rintro e w5 ⟨rfl,hb5⟩;rw[HV.out])
    go_wp2_with fail
    refine hK.out _ _ (hHeld.trans (hb5.mono hHeld.size)) (fun hHeld=>?_);clear hK K
    try simp only[Act.put,Co,Cp,Cn,Ba,Bc,Az]
    refine tk 6 ?_;refine tk 7 ?_;refine sk 8 ?_;refine sk 9 ?_;refine sk 10 ?_;refine sk 11 ?_;refine sk 12 ?_;refine sk 13 ?_;refine sk 14 ?_;refine sk 15 ?_;refine sk 16 ?_;refine tk 17 ?_;refine tk 18 ?_;refine sk 19 ?_;refine sk 20 ?_;refine sk 21 ?_;refine sk 22 ?_;refine sk 23 ?_;refine sk 24 ?_;refine sk 25 ?_;refine sk 26 ?_;refine sk 27 ?_;refine sk 28 ?_;refine tk 29 ?_;refine wpAnyH_done (by kernel_rfl) ?_ _
    go_wp2_with fail
    go_ret;exact⟨Ab HZ.out.symm,HW.out _ hHeld⟩
   have HV:=lh hv;clear hv
   cases hg1:decide (h.height<x.high)
   case true=>
    have HZ:=lh (HNK.out fun q=>by have:=(HDEF.out.1 q).2.1;have e:=of_decide_eq_true hg1;omega);refine wp_region_held_drew (S:=(fun w'=>Below W0.heap.size W0 w')) (by kernel_rfl) (hB.drew) (fun hHeld=>?_);refine tk 0 ?_;refine tk 1 ?_;refine tk 2 ?_;refine tk 3 ?_;refine tk 4 ?_;refine r1 5 (fun K hK=>?_)
    try simp only[Ba,Bc,Az]
    go_simp
    (go_at_call 169;go_split_ands;go_fit (Nj x _ (HSET.out _ hHeld));rintro e w5 ⟨rfl,hb5⟩;rw[HV.out])
    go_wp2_with fail
    refine hK.out _ _ (hHeld.trans (hb5.mono hHeld.size)) (fun hHeld=>?_);clear hK K
    try simp only[Act.put,Co,Cp,Cn,Ba,Bc,Az]
    refine tk 6 ?_;refine tk 7 ?_;refine tk 8 ?_;refine tk 9 ?_;refine tk 10 ?_;refine tk 11 ?_;refine tk 12 ?_;refine tk 13 ?_;refine tk 14 ?_;refine tk 15 ?_;refine tk 16 ?_;refine tk 17 ?_;refine tk 18 ?_;refine sk 19 ?_;refine sk 20 ?_;refine sk 21 ?_;refine sk 22 ?_;refine sk 23 ?_;refine sk 24 ?_;refine sk 25 ?_;refine sk 26 ?_;refine sk 27 ?_;refine sk 28 ?_;refine tk 29 ?_;refine wpAnyH_done (by kernel_rfl) ?_ _
    go_wp2_with fail
    go_ret;exact⟨Ab HZ.out.symm,HW.out _ hHeld⟩
   have HG:=lh (of_decide_eq_false hg1)
   by_cases hf:Cv h.sets x.name=(k:Int)
   ·have HF:=lh hf
    have HN2:=lh (HN.out (HDEF.out.2 ⟨HV.out,by have:=HG.out;omega,hf⟩));clear hf;refine wp_region_held_drew (S:=(fun w'=>Below W0.heap.size W0 w')) (by kernel_rfl) (hB.drew) (fun hHeld=>?_);refine tk 0 ?_;refine tk 1 ?_;refine tk 2 ?_;refine tk 3 ?_;refine tk 4 ?_;refine r1 5 (fun K hK=>?_)
    try simp only[Ba,Bc,Az]
    go_simp
    (go_at_call 169;go_split_ands;go_fit (Nj x _ (HSET.out _ hHeld));rintro e w5 ⟨rfl,hb5⟩;rw[HV.out])
    go_wp2_with fail
    refine hK.out _ _ (hHeld.trans (hb5.mono hHeld.size)) (fun hHeld=>?_);clear hK K
    try simp only[Act.put,Co,Cp,Cn,Ba,Bc,Az]
    refine tk 6 ?_;refine tk 7 ?_;refine tk 8 ?_;refine tk 9 ?_;refine tk 10 ?_;refine tk 11 ?_;refine tk 12 ?_;refine tk 13 ?_;refine tk 14 ?_;refine tk 15 ?_;refine tk 16 ?_;refine tk 17 ?_;refine tk 18 ?_;refine tk 19 ?_;refine tk 20 ?_;refine tk 21 ?_;refine tk 22 ?_;refine tk 23 ?_;refine tk 24 ?_;refine tk 25 ?_;refine tk 27 ?_;refine r1 26 (fun K hK=>?_)
    try simp only[Ba,Bc,Az]
    go_simp
    (go_at_call 50;go_split_ands;go_fit (HFS.out _ (HH.out _ hHeld));rintro e w6 ⟨rfl,hb6⟩;rw[HF.out])
    go_wp2_with fail
    refine hK.out _ _ (hHeld.trans (hb6.mono hHeld.size)) (fun hHeld=>?_);clear hK K
    try simp only[Act.put,Co,Cp,Cn,Ba,Bc,Az]
    refine tk 28 ?_;refine tk 29 ?_;refine wpAnyH_done (by kernel_rfl) ?_ _
    go_wp2_with fail
    go_roundw
    case rel=>exact⟨k+1,by omega,by go_num,HN2,hHeld⟩
    case measure=>simp[intOf];omega
   ·have HZ:=lh (HNK.out fun q=>hf (HDEF.out.1 q).2.2)
    obtain⟨j,hj⟩:=nm (Cv h.sets x.name);rw[hj]at hf;have HF:=lh hj;have g3:(j !=(k:Int))=true:=bne_iff_ne.2 hf;clear hj hf;refine wp_region_held_drew (S:=(fun w'=>Below W0.heap.size W0 w')) (by kernel_rfl) (hB.drew) (fun hHeld=>?_);refine tk 0 ?_;refine tk 1 ?_;refine tk 2 ?_;refine tk 3 ?_;refine tk 4 ?_;refine r1 5 (fun K hK=>?_)
    try simp only[Ba,Bc,Az]
    go_simp
    (go_at_call 169;go_split_ands;go_fit (Nj x _ (HSET.out _ hHeld));rintro e w5 ⟨rfl,hb5⟩;rw[HV.out])
    go_wp2_with fail
    refine hK.out _ _ (hHeld.trans (hb5.mono hHeld.size)) (fun hHeld=>?_);clear hK K
    try simp only[Act.put,Co,Cp,Cn,Ba,Bc,Az]
    refine tk 6 ?_;refine tk 7 ?_;refine tk 8 ?_;refine tk 9 ?_;refine tk 10 ?_;refine tk 11 ?_;refine tk 12 ?_;refine tk 13 ?_;refine tk 14 ?_;refine tk 15 ?_;refine tk 16 ?_;refine tk 17 ?_;refine tk 18 ?_;refine tk 19 ?_;refine tk 20 ?_;refine tk 21 ?_;refine tk 22 ?_;refine tk 23 ?_;refine tk 24 ?_;refine tk 25 ?_;refine tk 27 ?_;refine r1 26 (fun K hK=>?_)
    try simp only[Ba,Bc,Az]
    go_simp
    (go_at_call 50;go_split_ands;go_fit (HFS.out _ (HH.out _ hHeld));rintro e w6 ⟨rfl,hb6⟩;rw[HF.out])
    go_wp2_with fail
    refine hK.out _ _ (hHeld.trans (hb6.mono hHeld.size)) (fun hHeld=>?_);clear hK K
    try simp only[Act.put,Co,Cp,Cn,Ba,Bc,Az]
    refine tk 28 ?_;refine tk 29 ?_;refine wpAnyH_done (by kernel_rfl) ?_ _
    go_wp2_with fail
    go_ret;exact⟨Ab HZ.out.symm,HW.out _ hHeld⟩
  ·obtain rfl:k=h.sets.length:=by omega
   have HZ:Hid (Dz h=true):=lh (Hw.2 ⟨HOK.out.1,HOK.out.2.1,HOK.out.2.2.1,HOK.out.2.2.2.1,HOK.out.2.2.2.2,HO.out⟩)
   go_wp2_with fail
   go_ret;exact⟨Ab HZ.out.symm,HW.out _ hB⟩
theorem AGk(h:Ae)(q:An)(ta:Option Addr)(t:List Int)(tc:Nat)(w:World)(hh:HouseIn0 w h)(hl:h.sets.length≤1000)(hm:Ei w.heap.size w q.ma q.moves)(hml:q.moves.length≤1000)
  (ht:Bl w.heap.size w ta t) (htl:t.length=h.sets.length) (htn:ta=none→tc=0) (hok:∀i,i<q.moves.length→0≤Cv h.sets (mg q.moves i).name):
  Calls Tryz.prog 136 #[.agg #[.string h.name,.int .i64 h.height,.slice h.sa h.sets.length h.sc,.slice h.ra h.roofs.length h.rc],.slice ta t.length tc,.agg #[.string q.name,.string q.after,.int .i64 q.link,.int .i64 q.delay,.slice q.ma q.moves.length q.mc,.int .i64 q.crew,.int .i64 q.power]] w fun e w'=>Hid (∃v,e=.returned v∧w'.ownsRow w.heap.size 3 1 v (Dq h t q.moves).length (Ap (Dq h t q.moves)))∧Below w.heap.size w w':=by
 have hb0:Below w.heap.size w ((w.alloc (Ex h)).alloc (Eu q)):=(Aa w _).alloc (by simp) _
 have HX:Hid (∀w',Below ((w.alloc (Ex h)).alloc (Eu q)).heap.size ((w.alloc (Ex h)).alloc (Eu q)) w'→Au w' w.heap.size h∧Cx w' (w.heap.size+1) q∧HouseIn0 w' h∧Ei w'.heap.size w' q.ma q.moves∧Bl w'.heap.size w' ta t):=lh fun w' z=>
  ⟨((Au.new w h _).carry (Aa _ _)).carry z,(Cx.new (w.alloc _) q _ _ (by simp)).carry z,(hh.grow hb0).grow z,(hm.grow hb0).grow z,(ht.grow hb0).grow z⟩
 have HW:Hid (∀w',Below ((w.alloc (Ex h)).alloc (Eu q)).heap.size ((w.alloc (Ex h)).alloc (Eu q)) w'→Below w.heap.size w w'):=lh fun w' z=>hb0.trans (z.mono hb0.size);have hml2:(Dq h t q.moves).length=t.length:=Jc h q.moves t;have HOK:=lh hok;have HTN:=lh htn;have HML2:=lh hml2;have HTLL:=lh htl;have htl2:t.length≤1000000:=by omega
 clear hh hb0 hm ht hok htn hml2 htl
 go_enter Tryz.func136,Tryz.ntmps136
 go_upto_region 1 with (fail)
 obtain⟨W0,hW0⟩:=nm (((w.alloc (Ex h)).alloc (Eu q)):World);simp only[hW0]at HX HW⊢;clear hW0;obtain⟨B1,hB1⟩:=nm (w.heap.size);obtain⟨B2,hB2⟩:=nm (w.heap.size+1);rw[hB2]at HX⊢;rw[hB1]at HX⊢;clear hB1 hB2;obtain⟨n₀,hn0⟩:=nm (W0.heap.size);have HSB:Hid (w.heap.size≤n₀):=lh (by have:=(HW.out _ br).size;omega);have hB0:Below n₀ W0 W0:=by rw[←hn0];exact br
 have HXX:Hid (∀w',Below n₀ W0 w'→Au w' B1 h∧Cx w' B2 q∧HouseIn0 w' h∧Ei w'.heap.size w' q.ma q.moves∧Bl w'.heap.size w' ta t):=lh fun w' z=>by rw[←hn0]at z;exact HX.out w' z
 have HWW:Hid (∀w',Below n₀ W0 w'→Below w.heap.size w w'):=lh fun w' z=>by rw[←hn0]at z;exact HW.out w' z
 have hB1:=hB0.alloc (by omega) (.cells #[] 3);have HO1:Hid ((W0.alloc (.cells #[] 3)).ownsRow n₀ 3 1 (.slice (some ⟨W0.heap.size,0,none⟩) 0 0) ([]:List Int).length (Ap [])):=lh (World.ownsRow_lit W0 #[] 0 (by omega) (by unfold maxLen;omega) rfl);have HN1:=lh (HXX.out _ hB1).2.2.2.2;have hn1:n₀≤(W0.alloc (.cells #[] 3)).heap.size:=by simp;omega
 clear HX HW hB0 hn0
 go_upto_region 3 with (at_builtin;refine Xd rfl _ _ rfl n₀ _ [] rfl HO1.out ta t tc rfl HN1.out HTN.out (by simp) htl2 hn1 ?_;intro v1 w1 hr1 hg1;have HR1:=lh hr1;have hb1:=hB1.grown hg1 (by omega) (fun j hj=>(HO1.out.lt _ hj).1);have hs1:=nt hn1 hg1.size;clear hr1 hg1)
 obtain⟨qa,hqa⟩:=nm (q.ma);have HQA:=lh hqa;rw[hqa];clear hqa HO1 HN1 hB1 hn1;have HR0:Hid (w1.ownsRow n₀ 3 1 v1 h.sets.length (Ap t)):=lh (by have:=HR1.out;rw[List.nil_append,HTLL.out]at this;exact this);clear HR1
 go_loopw [8] (fun iv wr=>∃k:Nat,iv=.int .i64 k∧k≤q.moves.length∧Below n₀ W0 wr∧n₀≤wr.heap.size∧Hid (wr.ownsRow n₀ 3 1 v1 h.sets.length (Ap (Dq h t (q.moves.take k))))) (fun iv _=>q.moves.length-(intOf iv).toNat)
 case atStart=>exact⟨0,rfl,nz,hb1,hs1,lh (by rw[List.take_zero];exact HR0.out)⟩
 case round=>
  clear HR0 hb1 hs1;obtain⟨k,rfl,hk,hB,hnw,HR⟩:=hrel;obtain⟨-,⟨c0,c1,c2,c3,c4,c5,c6⟩,-,hmv,-⟩:=HXX.out _ hB;rw[HQA.out]at c4
  by_cases hlt:k<q.moves.length
  ·rw[HQA.out]at hmv
   obtain⟨mb,mo,hma,hmb,-⟩:=hmv (by omega);subst hma;have HSN:=lh (Oe h t q.moves hlt);have hf0:=HOK.out k hlt;have hf1:=(Jb hf0).1;have HTL:Hid ((Dq h t (q.moves.take k)).length=h.sets.length):=lh (by rw[Jc,HTLL.out]);obtain⟨x,hx⟩:=nm (mg q.moves k);have HMK:=lh hx;rw[hx]at HSN hf0 hf1;obtain⟨f,hf⟩:=nm (Cv h.sets x.name);have HF:=lh hf;rw[hf]at hf0 hf1 HSN;have hf2:f<(h.sets.length:Int):=by omega
   obtain⟨T,hT⟩:=nm (Dq h t (q.moves.take k));rw[hT]at HR HSN HTL;clear hx hf hmv hT
   have hvv:∃g cap,v1=.slice (some ⟨g,0,none⟩) h.sets.length cap∧n₀≤g:=by
    rcases HR.out.2 with ⟨_,e0⟩ | ⟨g,cap,cur,e,hb,_⟩
    ·omega
    ·exact⟨g,cap,e,hb⟩
   obtain⟨g,cap,hv1,hgn⟩:=hvv;subst hv1;have HSETC:=lh fun (w':World) (z:HouseIn0 w' h)=>Px h x.name w' z hl;have HRD:=lh (show wr.drew.ownsRow n₀ 3 1 (.slice (some ⟨g,0,none⟩) h.sets.length cap) h.sets.length (Ap T)from HR.out)
   go_upto_region 5 with (fail)
   clear c0 c1 c2 c3 c4 c5 c6;have x0:∀w',Cs n₀ W0 w'→w'.cell? ⟨B1,0,none⟩=some (.string h.name):=fun w' z=>(HXX.out w' z.old).1.1;have x1:∀w',Cs n₀ W0 w'→w'.cell? ⟨B1,1,none⟩=some (.int .i64 h.height):=fun w' z=>(HXX.out w' z.old).1.2.1;have x2:∀w',Cs n₀ W0 w'→w'.cell? ⟨B1,2,none⟩=some (.slice h.sa h.sets.length h.sc):=fun w' z=>(HXX.out w' z.old).1.2.2.1;have x3:∀w',Cs n₀ W0 w'→w'.cell? ⟨B1,3,none⟩=some (.slice h.ra h.roofs.length h.rc):=fun w' z=>(HXX.out w' z.old).1.2.2.2;have c4:∀w',Cs n₀ W0 w'→w'.cell? ⟨B2,4,none⟩=some (.slice (some ⟨mb,mo,none⟩) q.moves.length q.mc):=fun w' z=>by rw[←HQA.out];exact(HXX.out w' z.old).2.1.2.2.2.2.1
   have hmm:∀w',Cs n₀ W0 w'→w'.cell? ⟨mb,mo+k*5,none⟩=some (.string x.name)∧w'.cell? ⟨mb,mo+k*5+1,none⟩=some (.int .i64 x.to):=fun w' z=>by
    obtain⟨mb',mo',e,-,ex⟩:=(HXX.out w' z.old).2.2.2.1 (by omega);rw[HQA.out]at e
    cases e
    have:=ex k hlt;rw[HMK.out]at this;exact⟨this.1,this.2.1⟩
   have y0:=fun w' z=>(hmm w' z).1;have y1:=fun w' z=>(hmm w' z).2;clear hmm;have hH0:Cs n₀ W0 wr:=⟨hB,hnw⟩;refine wp_region_held_drew (S:=(Cs n₀ W0)) (by kernel_rfl) (hH0.next (br).drew) (fun hHeld=>?_);refine tk 0 ?_;refine tk 1 ?_;refine tk 2 ?_;refine tk 3 ?_;refine tk 4 ?_;refine tk 5 ?_;refine tk 6 ?_;refine tk 7 ?_;refine tk 9 ?_;refine tk 10 ?_;refine tk 11 ?_;refine tk 12 ?_;refine tk 13 ?_;refine tk 14 ?_;refine r1 8 (fun K hK=>?_)
   try simp only[Ba,Bc,Az]
   go_simp
   (go_at_call 50;go_split_ands;go_fit (HSETC.out _ (HXX.out _ hHeld.old).2.2.1);rintro e w6 ⟨rfl,hb6⟩;rw[HF.out];have HR6:=lh (Ac HRD.out hb6);have hH6:=hHeld.next hb6)
   go_wp2_with fail
   refine hK.out _ _ (hH6) (fun hHeld=>?_);clear hK K
   try simp only[Act.put,Co,Cp,Cn,Ba,Bc,Az]
   refine tk 15 ?_;have o2:w6.cell? ⟨g,f.toNat,none⟩=some (.int .i64 (ig T f.toNat)):=by rw[HR6.out.cellAt f.toNat (by omega),Eb _ _ (by rw[HTL.out];exact hf1)]
   have o3:=HR6.out.frozenAt f.toNat;have o4:g<w6.heap.size:=(HR6.out.lt _ rfl).2;refine r1 16 (fun K hK=>?_);rw[if_pos (by rfl)]
   try simp only[Ba,Bc,Az]
   go_wp2_with fail
   refine hK.out _ _ (hH6.put hgn _) (fun hHeld7=>?_);clear hK K
   try simp only[Act.put,Co,Cp,Cn,Ba,Bc,Az]
   refine wpAnyH_done (by kernel_rfl) ?_ _;have HST:=lh (show(w6.setCell ⟨g,f.toNat,none⟩ (.int .i64 x.to)).ownsRow n₀ 3 1 (.slice (some ⟨g,0,none⟩) h.sets.length cap) h.sets.length (Ap (Dq h t (q.moves.take (k+1))))by rw[HSN.out,Rh];exact(HR6.out.stored f.toNat _).1);have hB7:=hHeld7.old;have hs7:=hHeld7.lo
   go_wp2_with fail
   go_roundw
   case rel=>exact⟨k+1,by go_num,by omega,hB7,hs7,HST⟩
   case measure=>simp[intOf];omega
  ·obtain rfl:k=q.moves.length:=by omega
   rw[List.take_length]at HR;clear hmv
   go_wp2_with fail
   go_ret;exact⟨lh ⟨_,rfl,by rw[HML2.out,HTLL.out];exact Bn HR.out HSB.out⟩,HWW.out _ hB⟩
theorem AJs(h:Ae)(w:World)(hh:HouseIn0 w h)(hl:h.sets.length≤1000):
  Calls Tryz.prog 135 #[.agg #[.string h.name,.int .i64 h.height,.slice h.sa h.sets.length h.sc,.slice h.ra h.roofs.length h.rc]] w fun e w'=>Hid (∃v,e=.returned v∧w'.ownsRow w.heap.size 3 1 v (Ee h).length (Ap (Ee h)))∧Below w.heap.size w w':=by
 have hb0:Below w.heap.size w (w.alloc (Ex h)):=Aa w _;have HX:Hid (∀w',Below (w.alloc (Ex h)).heap.size (w.alloc (Ex h)) w'→Au w' w.heap.size h∧HouseIn0 w' h):=lh fun w' z=>⟨(Au.new w h _).carry z,(hh.grow hb0).grow z⟩;have HW:Hid (∀w',Below (w.alloc (Ex h)).heap.size (w.alloc (Ex h)) w'→Below w.heap.size w w'):=lh fun w' z=>hb0.trans (z.mono hb0.size);clear hh hb0
 go_enter Tryz.func135,Tryz.ntmps135
 go_upto_region 1 with (fail)
 obtain⟨W0,hW0⟩:=nm ((w.alloc (Ex h)):World);simp only[hW0]at HX HW⊢;clear hW0;obtain⟨B1,hB1⟩:=nm (w.heap.size);have HSB:Hid (w.heap.size≤W0.heap.size):=lh (HW.out _ br).size;rw[hB1]at HX⊢;clear hB1;obtain⟨n₀,hn0⟩:=nm (W0.heap.size);rw[hn0]at HX HW HSB;have hB0:Below n₀ W0 W0:=by rw[←hn0];exact br
 have hn:n₀≤W0.heap.size:=by omega
 obtain⟨sa,hsa⟩:=nm (h.sa);have HSA:=lh hsa;rw[hsa];clear hsa hn0
 go_upto_region 3 with (fail)
 go_loopw [3,4] (fun v iv wr=>∃k:Nat,iv=.int .i64 k∧k≤h.sets.length∧Below n₀ W0 wr∧n₀≤wr.heap.size∧Hid (wr.ownsRow n₀ 3 1 v k (Ap ((h.sets.take k).map (·.high))))) (fun _ iv _=>h.sets.length-(intOf iv).toNat)
 case atStart=>exact⟨0,rfl,nz,hB0,hn,lh (World.ownsRow_nil _ _ _ _)⟩
 case round=>
  clear hB0 hn;obtain⟨k,rfl,hk,hB,hnw,HR⟩:=hrel;obtain⟨⟨a0,a1,a2,a3⟩,hi⟩:=HX.out _ hB
  by_cases hlt:k<h.sets.length
  ·obtain⟨b,off,ha,hb,hc⟩:=hi.sets (by omega)
   rw[HSA.out]at ha a2;subst ha;obtain⟨-,-,-,d3,-⟩:=hc k hlt;have HHT:=lh (Yb h hlt);have HKL:Hid (((h.sets.take k).map (·.high)).length=k):=lh (by rw[List.length_map,List.length_take];omega);obtain⟨x,hx⟩:=nm ((hg h.sets k).high);rw[hx]at d3 HHT;obtain⟨T,hT⟩:=nm ((h.sets.take k).map (·.high));rw[hT]at HR HHT HKL;clear hx hc hT hi;have hbx:=Aa wr (.cells #[.int .i64 x] 3);have HO8:Hid ((wr.alloc (.cells #[.int .i64 x] 3)).ownsRow n₀ 3 1 u3 T.length (Ap T)):=lh (by rw[HKL.out];exact Ac HR.out hbx);have hB8:=hB.alloc hnw (.cells #[.int .i64 x] 3);have hn8:n₀≤(wr.alloc (.cells #[.int .i64 x] 3)).heap.size:=by simp;omega
   have hkl:T.length≤1000000:=by rw[HKL.out];omega
   have hc8:(wr.alloc (.cells #[.int .i64 x] 3)).cell? ⟨wr.heap.size,0,none⟩=some (.int .i64 x):=by simp
   clear hbx
   go_wp2_with (at_builtin;refine Fe rfl _ _ rfl n₀ _ T rfl HO8.out _ x rfl hc8 hkl hn8 ?_;intro v2 w8 hown8 hg8;have HO9:=lh hown8;have hB9:=hB8.grown hg8 (by omega) (fun j hj=>(HO8.out.lt _ hj).1);have hn9:=nt hn8 hg8.size;clear hown8 hg8)
   go_roundw
   case rel=>exact⟨k+1,by go_num,by omega,hB9,hn9,lh (by have:=HO9.out;rw[List.length_append,HKL.out]at this;rw[HHT.out];exact this)⟩
   case measure=>simp[intOf];omega
  ·obtain rfl:k=h.sets.length:=by omega
   rw[List.take_length]at HR;rw[HSA.out]at a2;have hhl:Hid ((Ee h).length=h.sets.length):=lh (by unfold Ee;rw[List.length_map]);clear hi
   go_wp2_with fail
   go_ret;exact⟨lh ⟨_,rfl,by rw[hhl.out];exact Bn HR.out HSB.out⟩,HW.out _ hB⟩
structure Hn(h:Ae)(C:List An)(P:List Ew)(n:Nat):Prop where
 len:P.length=n+1
 eq:∀i,i≤n→(lg P i).xs=Ez h C i
theorem Hn.snoc{h:Ae}{C:List An}{P:List Ew}{n:Nat}{y:Ew}(t:Hn h C P n)(hy:y.xs=Ez h C (n+1)):Hn h C (P++[y]) (n+1):=by
 refine⟨by rw[List.length_append,t.len];rfl,fun i hi=>?_⟩;rcases Nat.lt_or_ge i P.length with l | l
 ·rw[ANa P y i l];exact t.eq i (by have:=t.len;omega)
 ·obtain rfl:i=P.length:=by have:=t.len;omega
  rw[ABh,hy,t.len]
structure Fi(w:World)(a:Option Addr)(h:Ae)(C:List An)(P:List Ew):Prop where
 rows:Hn h C P C.length
 lies:Qe w.heap.size w a P
 each:∀i,i<P.length→Bl w.heap.size w (lg P i).a (lg P i).xs
 none:∀i,i<P.length→(lg P i).a=none→(lg P i).c=0
theorem Fi.grow{w w':World}{a:Option Addr}{h:Ae}{C:List An}{P:List Ew}(t:Fi w a h C P)(hb:Below w.heap.size w w'):Fi w' a h C P:=
 ⟨t.rows,t.lies.grow hb,fun i hi=>(t.each i hi).grow hb,t.none⟩
theorem ABy{w:World}{base base':Nat}{v:Value}{h:Ae}{C:List An}{P:List Ew}(hr:w.ownsRow base 30 1 v P.length (Hm P))(ho:Gd w base' P)(t:Hn h C P C.length):∃a c,v=.slice a P.length c∧Fi w a h C P:=by
 obtain⟨a,c,e,_,_,_,hl⟩:=AFc hr;refine⟨a,c,e,t,hl,fun i hi=>ho.nums hi,fun i hi=>?_⟩;obtain⟨a',c',e',_,_,hn,_⟩:=Be (ho i hi);unfold AKq at e'
 cases e'
 exact hn
theorem AMy(h:Ae)(s:Aq)(w:World)(hh:Ax w h)(hs:Bg w s)(hv:Fd h s=false):
  Calls Tryz.prog 19 #[.agg #[.string h.name,.int .i64 h.height,.slice h.sa h.sets.length h.sc,.slice h.ra h.roofs.length h.rc],.agg #[.slice s.ca s.cues.length s.cc,.slice s.pa s.pairs.length s.pc]] w fun e w'=>e=.returned (.tuple #[.slice none 0 0,.int .i64 1])∧Below w.heap.size w w':=by
 have hb0:Below w.heap.size w (Fo w h s):=(Aa w _).alloc (by simp) _;have hat:Au (Fo w h s) w.heap.size h:=(Au.new w h _).carry (Aa _ _);have sat:Bo (Fo w h s) (w.heap.size+1) s:=by unfold Bo;simp
 have HH:=lh (hh.grow hb0);have HS:=lh (hs.grow hb0);have HV:=lh hv;clear hh hs hv
 go_enter Tryz.func19,Tryz.ntmps19
 go_upto_region 1 with (fail)
 obtain⟨W0,hW0⟩:=nm ((Fo w h s):World);simp only[hW0]at hb0 hat sat HH HS⊢;clear hW0;obtain⟨a0,a1,a2,a3⟩:=hat;obtain⟨s0,s1⟩:=sat
 go_wp2_with (go_at_call 56;go_fit (Sn h s _ HH.out HS.out);rintro e w1 ⟨rfl,hb1⟩;rw[HV.out])
 go_ret2
 exact⟨rfl,hb0.trans (hb1.mono hb0.size)⟩
theorem AJw(h:Ae)(s:Aq)(w:World)(hh:Ax w h)(hs:Bg w s)(hv:Fd h s=true):
  Calls Tryz.prog 19 #[.agg #[.string h.name,.int .i64 h.height,.slice h.sa h.sets.length h.sc,.slice h.ra h.roofs.length h.rc],.agg #[.slice s.ca s.cues.length s.cc,.slice s.pa s.pairs.length s.pc]] w fun e w'=>Hid (∃a c P,e=.returned (.tuple #[.slice a (s.cues.length+1) c,.int .i64 0])∧Fi w' a h s.cues P)∧Below w.heap.size w w':=by
 obtain⟨hb0,HX,HW⟩:=o2 hh hs;have hsl:=hh.slen;have hcl:=hs.clen;have HML:=lh hs.mlen;have HV:=lh hv;have HOK:=lh (Em.1 hv);clear hh hs hb0 hv
 go_enter Tryz.func19,Tryz.ntmps19
 go_upto_region 1 with (fail)
 obtain⟨W0,hW0⟩:=nm ((Fo w h s):World);simp only[hW0]at HX HW⊢;clear hW0;obtain⟨B1,hB1⟩:=nm (w.heap.size);obtain⟨B2,hB2⟩:=nm (w.heap.size+1);rw[hB2]at HX⊢;rw[hB1]at HX⊢;clear hB1 hB2;obtain⟨⟨a0,a1,a2,a3⟩,⟨s0,s1⟩,hin,sin⟩:=HX.out _ br;obtain⟨sa,hsa⟩:=nm (h.sa);have HSA:=lh hsa;obtain⟨ca,hca⟩:=nm (s.ca);have HCA:=lh hca;have HCV:=lh (Sn h s _ hin sin);rw[hsa,hca]at HCV;rw[hsa]at a2⊢;rw[hca]at s0⊢;clear hsa hca hin sin;obtain⟨n₀,hn0⟩:=nm (W0.heap.size);have HXX:Hid (∀w',Below n₀ W0 w'→Au w' B1 h∧Bo w' B2 s∧Ax w' h∧Bg w' s):=lh fun w' z=>by rw[←hn0]at z;exact HX.out w' z
 have HWW:Hid (∀w',Below n₀ W0 w'→Below w.heap.size w w'):=lh fun w' z=>by rw[←hn0]at z;exact HW.out w' z
 go_upto_region 5 with (go_at_call 56;go_fit HCV.out;rintro e w1 ⟨rfl,hb1⟩;rw[HV.out];rw[hn0]at hb1;obtain⟨⟨u0,u1,u2,u3⟩,-,-,-⟩:=HXX.out _ hb1;rw[HSA.out]at u2)
 have hn1:n₀≤w1.heap.size:=by have:=hb1.size;omega
 clear a0 a1 a2 a3 s0 s1 u0 u1 u2 u3 HX HW HCV;obtain⟨N1,hN1⟩:=nm (w1.heap.size);have hb1':=hb1
 go_loopw [6,8,19] (fun v _ iv wr=>∃k:Nat,iv=.int .i64 k∧k≤h.sets.length∧Below n₀ W0 wr∧n₀≤wr.heap.size∧Hid (wr.ownsRow n₀ 3 1 v k (Ap ((h.sets.take k).map (·.high))))) (fun _ _ iv _=>h.sets.length-(intOf iv).toNat)
 case atStart=>exact⟨0,rfl,nz,hb1,hn1,lh (World.ownsRow_nil _ _ _ _)⟩
 case round=>
  clear hb1 hn1 hb1' hN1;obtain⟨k,rfl,hk,hB,hnw,HR⟩:=hrel
  by_cases hlt:k<h.sets.length
  ·obtain⟨b,off,ha,hb,hc⟩:=(HXX.out _ hB).2.2.1.sets (by omega)
   rw[HSA.out]at ha;subst ha;obtain⟨d0,d1,d2,d3,d4,d5,d6,d7,d8,d9,d10,d11,d12⟩:=hc k hlt;have HHT:=lh (Yb h hlt);have HKL:Hid (((h.sets.take k).map (·.high)).length=k):=lh (by rw[List.length_map,List.length_take];omega);obtain⟨x,hx⟩:=nm (hg h.sets k);rw[hx]at d0 d1 d2 d3 d4 d5 d6 d7 d8 d9 d10 d11 d12 HHT;obtain⟨T,hT⟩:=nm ((h.sets.take k).map (·.high));rw[hT]at HR HHT HKL;clear hx hc hT
   go_upto_region 7 with (fail)
   have hB3:=hB.alloc hnw (Ko x);have HR3:=lh (HR.out.alloc (Ko x));have hn3:n₀≤(wr.alloc (Ko x)).heap.size:=by simp;omega
   have hx3:(wr.alloc (Ko x)).cell? ⟨wr.heap.size,3,none⟩=some (.int .i64 x.high):=by simp
   have hl3:wr.heap.size<(wr.alloc (Ko x)).heap.size:=by simp
   clear d0 d1 d2 d3 d4 d5 d6 d7 d8 d9 d10 d11 d12 HR hB;generalize wr.alloc (Ko x)=W3 at *;have HR4:=lh (HR3.out.alloc (.cells #[.int .i64 x.high] 3));have hB4:=hB3.alloc hn3 (.cells #[.int .i64 x.high] 3);have hn4:n₀≤(W3.alloc (.cells #[.int .i64 x.high] 3)).heap.size:=by simp;omega
   have HKL2:=lh HKL.out.symm;rw[HKL2.out]at HR4
   go_wp2_with (at_builtin;refine Fe rfl _ _ rfl n₀ _ T rfl HR4.out _ x.high rfl (by simp) (by rw[HKL.out];omega) hn4 ?_;intro v2 w2 hown2 hg2;have hB2:=Hb HR4.out hg2 hB4 hn4 nr;rw[←HHT.out]at hown2;have HO2:=lh hown2;have hs2:=nt hn4 hg2.size;clear hown2 hg2)
   go_roundw
   case rel=>exact⟨k+1,by go_num,by omega,hB2,hs2,lh (by have:=HO2.out;rw[show((h.sets.take (k+1)).map (·.high)).length=k+1 by rw[List.length_map,List.length_take];omega]at this;exact this)⟩
   case measure=>simp[intOf];omega
  ·obtain rfl:k=h.sets.length:=by omega
   rw[List.take_length]at HR;clear hlt hk;have hhl:(Ee h).length=h.sets.length:=by unfold Ee;rw[List.length_map]
   have hr0:wr.ownsRow n₀ 3 1 u6 (Ee h).length (Ap (Ee h)):=by rw[hhl];exact HR.out
   obtain⟨ya,yc,hy,-,-,yn,-⟩:=Be hr0;subst hy;obtain⟨y,hy⟩:∃y:Ew,y=⟨ya,Ee h,yc⟩:=⟨_,rfl⟩;have HYX:Hid (y.xs=Ez h s.cues 0):=lh (by rw[hy];rfl);have HYN:Hid (y.a=none→y.c=0):=lh (by rw[hy];exact yn);have HY0:Hid (wr.ownsRow n₀ 3 1 (.slice y.a y.xs.length y.c) y.xs.length (Ap y.xs)):=lh (by rw[hy];exact hr0);rw[show(Value.slice ya (Ee h).length yc)=.slice y.a y.xs.length y.c by rw[hy]];have hlx:wr.heap.size<(wr.alloc (.cells #[.slice y.a y.xs.length y.c] 30)).heap.size:=by simp
   have HO0:Hid ((wr.alloc (.cells #[.slice y.a y.xs.length y.c] 30)).ownsRow n₀ 30 1 (.slice (some ⟨wr.heap.size,0,none⟩) 1 1) 1 (Hm [y])):=lh (World.ownsRow_lit wr #[.slice y.a y.xs.length y.c] 1 hnw (by unfold maxLen;omega) rfl)
   have HL0:Hid (Gd (wr.alloc (.cells #[.slice y.a y.xs.length y.c] 30)) n₀ [y]):=lh fun i hi=>by
    obtain rfl:i=0:=(by simp at hi;exact hi);exact HY0.out.alloc _
   have HT0:Hid (Hn h s.cues [y] 0):=lh ⟨rfl,fun i hi=>by
    obtain rfl:i=0:=(by omega);exact HYX.out⟩
   have hB0:=hB.alloc hnw (.cells #[.slice y.a y.xs.length y.c] 30);obtain⟨-,⟨s0,s1⟩,-,-⟩:=HXX.out _ hB;rw[HCA.out]at s0;have hb2l:B2<wr.heap.size:=wl s0;clear hy yn hr0 HR hhl hB
   go_upto_region 11 with (fail)
   clear s0 s1 hb2l;generalize wr.alloc (.cells #[.slice y.a y.xs.length y.c] 30)=W5 at *;obtain⟨wo,rfl⟩:∃wo:World,wo=wr:=⟨_,rfl⟩;obtain⟨bo,hbo⟩:=nm (wo.heap.size);rw[hbo]at HO0 hnw hlx⊢;clear hbo HY0
   go_loopw [6,9,11,34] (fun v6 v9 _ iv wr=>∃(k:Nat) (y:Ew) (P:List Ew),v6=.slice y.a y.xs.length y.c∧iv=.int .i64 k∧k≤s.cues.length∧Below n₀ W0 wr∧n₀≤wr.heap.size∧Hid (wr.ownsRow n₀ 30 1 v9 (k+1) (Hm P)∧Gd wr n₀ P∧Hn h s.cues P k∧lg P k=y∧(y.a=none→y.c=0))) (fun _ _ _ iv _=>s.cues.length-(intOf iv).toNat)
   case atStart=>exact⟨0,y,[y],rfl,rfl,nz,hB0,by omega,lh ⟨HO0.out,HL0.out,HT0.out,rfl,HYN.out⟩⟩
   case round=>
    clear HO0 HL0 HT0 hB0 hlx hnw HYX HYN;obtain⟨k,y,P,rfl,rfl,hk,hB,hnw,HR⟩:=hrel
    by_cases hlt:k<s.cues.length
    ·obtain⟨b,off,ha,hb,hc⟩:=(HXX.out _ hB).2.2.2.lies (by omega)
     rw[HCA.out]at ha;subst ha;obtain⟨d0,d1,d2,d3,d4,d5,d6⟩:=hc k hlt;obtain⟨⟨a0,a1,a2,a3⟩,-,-,-⟩:=HXX.out _ hB;rw[HSA.out]at a2;have hb1l:B1<wr.heap.size:=wl a0;have HMK:=lh (HML.out k hlt);have HRG:=lh (HOK.out.each k hlt).1.2;have HYT:=lh (HR.out.2.2.1.eq k nr);rw[HR.out.2.2.2.1]at HYT;have HYL:Hid (y.xs.length=h.sets.length):=lh (by rw[HYT.out,Me]);obtain⟨q,hq⟩:=nm (cg s.cues k);have HQ:=lh hq;rw[hq]at d0 d1 d2 d3 d4 d5 d6 HMK HRG;clear hq hc;have hB3:=hB.alloc hnw (Eu q);have hbn:=Aa wr (Eu q);have hn3:n₀≤(wr.alloc (Eu q)).heap.size:=by simp;omega
     have HR3:Hid ((wr.alloc (Eu q)).ownsRow n₀ 30 1 u9 (k+1) (Hm P)∧Gd (wr.alloc (Eu q)) n₀ P∧Hn h s.cues P k∧lg P k=y∧(y.a=none→y.c=0)):=lh ⟨Ac HR.out.1 hbn,HR.out.2.1.below hbn,HR.out.2.2⟩;have HMO:Hid (Calls Tryz.prog 57 _ (wr.alloc (Eu q)) _):=lh (AKn h q y.a y.xs y.c _ (HXX.out _ hB3).2.2.1.toHouseIn0 hsl (by have:=(HXX.out _ hB3).2.2.2.each k hlt;rw[HQ.out]at this;exact this) HMK.out (by have:=HR3.out.2.1.nums (i:=k) (by rw[HR3.out.2.2.1.len];omega);rw[HR3.out.2.2.2.1]at this;exact this) HYL.out HR3.out.2.2.2.2 (fun i hi=>(HRG.out i hi).2.1));rw[HSA.out]at HMO;have HNX:Hid (Dq h y.xs q.moves=Ez h s.cues (k+1)):=lh (by rw[HYT.out,←HQ.out];rfl);clear HR hbn hB
     go_upto_region 14 with (go_at_call 57;go_fit HMO.out;rintro e w4 ⟨hx4,hb4⟩;obtain⟨v4,rfl,hr4⟩:=hx4.out;obtain⟨a4,c4,rfl,-,-,n4,-⟩:=Be hr4;have HR4:=lh hr4;have HN4:=lh n4;clear hx4 hr4 n4)
     have hB4:=hB3.trans (hb4.mono hn3);have hn4:=nt hn3 hb4.size;obtain⟨z,hz⟩:∃z:Ew,z=⟨a4,Dq h y.xs q.moves,c4⟩:=⟨_,rfl⟩;rw[show(Value.slice a4 (Dq h y.xs q.moves).length c4)=.slice z.a z.xs.length z.c by rw[hz]];have HZX:Hid (z.xs=Ez h s.cues (k+1)):=lh (by rw[hz];exact HNX.out);have HZN:Hid (z.a=none→z.c=0):=lh (by rw[hz];exact HN4.out);have HZO:Hid (w4.ownsRow n₀ 3 1 (AKq z) z.xs.length (Ap z.xs)):=lh (by rw[hz];exact Bn HR4.out hn3);have HR5:Hid (w4.ownsRow n₀ 30 1 u9 (k+1) (Hm P)∧Gd w4 n₀ P):=lh ⟨Ac HR3.out.1 hb4,HR3.out.2.1.below hb4⟩;have HTR:=lh HR3.out.2.2.1;clear hz HR4 HN4 HR3 hb4 d0 d1 d2 d3 d4 d5 d6 a0 a1 a2 a3;have hbx:=Aa w4 (.cells #[.slice z.a z.xs.length z.c] 30);have HRX:Hid ((w4.alloc (.cells #[.slice z.a z.xs.length z.c] 30)).ownsRow n₀ 30 1 u9 P.length (Hm P)):=lh (by rw[HTR.out.len];exact Ac HR5.out.1 hbx);have HLX:Hid (Gd (w4.alloc (.cells #[.slice z.a z.xs.length z.c] 30)) n₀ (P++[z])):=lh ((HR5.out.2.snoc HZO.out).below hbx);have hBx:=hB4.alloc hn4 (.cells #[.slice z.a z.xs.length z.c] 30);have hnx:n₀≤(w4.alloc (.cells #[.slice z.a z.xs.length z.c] 30)).heap.size:=by simp;omega
     have hPl:P.length≤1000000:=by have:=HTR.out.len;omega
     clear hbx
     go_wp2_with (at_builtin;refine AGl rfl _ _ rfl n₀ _ P rfl HRX.out _ z rfl (by simp) hPl hnx ?_;intro v6 w6 hown6 hg6;have hB6:=Hb HRX.out hg6 hBx hnx nr;have HO6:=lh hown6;have HL6:=lh (HLX.out.kept HRX.out hg6);have hs6:=nt hnx hg6.size;clear hown6 hg6)
     go_roundw
     case rel=>exact⟨k+1,z,P++[z],rfl,by go_num,by omega,hB6,hs6,lh ⟨by have:=HO6.out;rw[List.length_append,HTR.out.len]at this;exact this,HL6.out,HTR.out.snoc HZX.out,by rw[←HTR.out.len,ABh],HZN.out⟩⟩
     case measure=>simp[intOf];omega
    ·obtain rfl:k=s.cues.length:=by omega
     go_wp2_with fail
     go_ret2
     obtain⟨a,c,e1,ht⟩:=ABy (P:=P) (by rw[HR.out.2.2.1.len];exact HR.out.1) HR.out.2.1 HR.out.2.2.1;rw[HR.out.2.2.1.len]at e1;exact⟨lh ⟨a,c,P,by rw[←e1];rfl,ht⟩,HWW.out _ hB⟩
theorem AMu{w:World}{n₀ n:Nat}{t:TypeId}{m:Nat}{v:Value}{X:List Value}(h:w.ownsRow n₀ t m v (n+1) X):∃g cap,v=.slice (some ⟨g,0,none⟩) (n+1) cap∧n₀≤g:=by
 rcases h.2 with ⟨_,e0⟩ | ⟨g,cap,cur,e,hb,_⟩
 ·omega
 ·exact⟨g,cap,e,hb⟩
theorem ACi(W:World)(v:Value)(t:TypeId):∀j u,[v][j]? =some u→(W.alloc (.cells #[v] t)).cell? ((⟨W.heap.size,0,none⟩:Addr).add j)=some u:=by
 intro j u hj
 match j with
 | 0=>cases hj;rw[Go.WideShapes.add_plain];simp
 | j+1=>simp at hj
theorem AGs(h:Ae)(s:Aq)(w:World)(hh:Ax w h)(hs:Bg w s)(hv:Fd h s=true):
  Calls Tryz.prog 85 #[.agg #[.string h.name,.int .i64 h.height,.slice h.sa h.sets.length h.sc,.slice h.ra h.roofs.length h.rc],.agg #[.slice s.ca s.cues.length s.cc,.slice s.pa s.pairs.length s.pc]] w fun e w'=>Hid (∃a c P,e=.returned (.slice a (s.cues.length+1) c)∧Fi w' a h s.cues P)∧Below w.heap.size w w':=by
 obtain⟨hb0,HX,HW⟩:=o2 hh hs;have hsl:=hh.slen;have hcl:=hs.clen;have HML:=lh hs.mlen;have HOK:=lh (Em.1 hv);clear hh hs hb0 hv;obtain⟨i0,hi0,hi1,hi2,hi3⟩:=info_parts AEq;have HI:=lh (And.intro hi0 (And.intro hi1 (And.intro hi2 hi3)));clear hi0 hi1 hi2 hi3
 go_enter Tryz.func85,Tryz.ntmps85
 go_upto_region 1 with (fail)
 obtain⟨W0,hW0⟩:=nm ((Fo w h s):World);simp only[hW0]at HX HW⊢;clear hW0;obtain⟨B1,hB1⟩:=nm (w.heap.size);obtain⟨B2,hB2⟩:=nm (w.heap.size+1);rw[hB2]at HX⊢;rw[hB1]at HX⊢;clear hB1 hB2;obtain⟨n₀,hn0⟩:=nm (W0.heap.size);have HXX:Hid (∀w',Below n₀ W0 w'→Au w' B1 h∧Bo w' B2 s∧Ax w' h∧Bg w' s):=lh fun w' z=>by rw[←hn0]at z;exact HX.out w' z
 have HWW:Hid (∀w',Below n₀ W0 w'→Below w.heap.size w w'):=lh fun w' z=>by rw[←hn0]at z;exact HW.out w' z
 obtain⟨sa,hsa⟩:=nm (h.sa);have HSA:=lh hsa;obtain⟨ca,hca⟩:=nm (s.ca);have HCA:=lh hca;obtain⟨⟨a0,a1,a2,a3⟩,-,hin,-⟩:=HX.out _ br;have HHI:=lh (AJs h W0 hin.toHouseIn0 hsl);rw[hsa]at a2 HHI;rw[hsa,hca];have hhl:(Ee h).length=h.sets.length:=by unfold Ee;rw[List.length_map]
 have HHL:=lh hhl;clear hsa hca hin hhl HX HW
 go_upto_region 2 with (go_at_call 135;go_fit HHI.out;rintro e w1 ⟨hx1,hb1⟩;obtain⟨v1,rfl,hr1⟩:=hx1.out;obtain⟨ya,yc,rfl,-,-,yn,-⟩:=Be hr1;have HR1:=lh hr1;have HYN0:=lh yn;clear hx1 hr1 yn)
 obtain⟨y,hy⟩:∃y:Ew,y=⟨ya,Ee h,yc⟩:=⟨_,rfl⟩;have HYX:Hid (y.xs=Ez h s.cues 0):=lh (by rw[hy];rfl);have HYN:Hid (y.a=none→y.c=0):=lh (by rw[hy];exact HYN0.out);have HY0:Hid (w1.ownsRow n₀ 3 1 (.slice y.a y.xs.length y.c) y.xs.length (Ap y.xs)):=lh (by rw[hy,←hn0];exact HR1.out);rw[show(Value.slice ya (Ee h).length yc)=.slice y.a y.xs.length y.c by rw[hy]];rw[hn0]at hb1;have hn1:n₀≤w1.heap.size:=by have:=hb1.size;omega
 have HO0:Hid ((w1.alloc (.cells #[.slice y.a y.xs.length y.c] 30)).ownsRow n₀ 30 1 (.slice (some ⟨w1.heap.size,0,none⟩) 1 1) 1 (Hm [y])):=lh (World.ownsRow_lit w1 #[.slice y.a y.xs.length y.c] 1 hn1 (by unfold maxLen;omega) rfl)
 have HL0:Hid (Gd (w1.alloc (.cells #[.slice y.a y.xs.length y.c] 30)) n₀ [y]):=lh fun i hi=>by
  obtain rfl:i=0:=(by simp at hi;exact hi);exact HY0.out.alloc _
 have HT0:Hid (Hn h s.cues [y] 0):=lh ⟨rfl,fun i hi=>by
  obtain rfl:i=0:=(by omega);exact HYX.out⟩
 have hB0:=hb1.alloc hn1 (.cells #[.slice y.a y.xs.length y.c] 30);have hs0:n₀≤(w1.alloc (.cells #[.slice y.a y.xs.length y.c] 30)).heap.size:=by simp;omega
 clear a0 a1 a2 a3 hy HY0 HR1 HYN0 HYX hb1 HHI hn0;generalize w1.alloc (.cells #[.slice y.a y.xs.length y.c] 30)=W2 at *;obtain⟨b1,hb1⟩:=nm (w1.heap.size);rw[hb1]at HO0 hn1⊢;clear hb1
 go_upto_region 3 with (fail)
 go_loopw [5,6] (fun v5 iv wr=>∃(k:Nat) (y:Ew) (P:List Ew),iv=.int .i64 k∧k≤s.cues.length∧Below n₀ W0 wr∧n₀≤wr.heap.size∧Hid (wr.ownsRow n₀ 30 1 v5 (k+1) (Hm P)∧Gd wr n₀ P∧Hn h s.cues P k∧lg P k=y∧(y.a=none→y.c=0))) (fun _ iv _=>s.cues.length-(intOf iv).toNat)
 case atStart=>exact⟨0,y,[y],rfl,nz,hB0,hs0,lh ⟨HO0.out,HL0.out,HT0.out,rfl,HYN.out⟩⟩
 case round=>
  clear HO0 HL0 HT0 hB0 hs0 HYN;obtain⟨k,y,P,rfl,hk,hB,hnw,HR⟩:=hrel;obtain⟨-,⟨s0,s1⟩,-,-⟩:=HXX.out _ hB;rw[HCA.out]at s0
  by_cases hlt:k<s.cues.length
  ·obtain⟨cb,co,ha,hcb,-⟩:=(HXX.out _ hB).2.2.2.lies (by omega)
   rw[HCA.out]at ha;subst ha;have HMK:=lh (HML.out k hlt);have HRG:=lh (HOK.out.each k hlt).1.2;have HYT:=lh (HR.out.2.2.1.eq k nr);rw[HR.out.2.2.2.1]at HYT;have HYL:Hid (y.xs.length=h.sets.length):=lh (by rw[HYT.out,Me])
   have HCC:Hid (∀w',Below n₀ W0 w'→∀i,i<s.cues.length→w'.cell? ⟨cb,co+i*7,none⟩=some (.string (cg s.cues i).name)∧w'.cell? ⟨cb,co+i*7+1,none⟩=some (.string (cg s.cues i).after)∧w'.cell? ⟨cb,co+i*7+2,none⟩=some (.int .i64 (cg s.cues i).link)∧w'.cell? ⟨cb,co+i*7+3,none⟩=some (.int .i64 (cg s.cues i).delay)∧w'.cell? ⟨cb,co+i*7+4,none⟩=some (.slice (cg s.cues i).ma (cg s.cues i).moves.length (cg s.cues i).mc)∧w'.cell? ⟨cb,co+i*7+5,none⟩=some (.int .i64 (cg s.cues i).crew)∧w'.cell? ⟨cb,co+i*7+6,none⟩=some (.int .i64 (cg s.cues i).power)):=lh fun w' z i hi=>by
    obtain⟨cb',co',e,-,ex⟩:=(HXX.out w' z).2.2.2.lies (by omega);rw[HCA.out]at e
    cases e
    exact ex i hi
   obtain⟨q,hq⟩:=nm (cg s.cues k);have HQ:=lh hq;rw[hq]at HMK HRG;have HMVS:Hid (∀w',Below n₀ W0 w'→Ei w'.heap.size w' q.ma q.moves):=lh fun w' z=>by have:=(HXX.out w' z).2.2.2.each k hlt;rw[HQ.out]at this;exact this
   have HNX:Hid (Dq h y.xs q.moves=Ez h s.cues (k+1)):=lh (by rw[HYT.out,←HQ.out];rfl);obtain⟨g,cap,hv5,hgn⟩:=AMu HR.out.1;subst hv5;have HTR:=lh HR.out.2.2.1;have hkP:k<P.length:=by rw[HTR.out.len];omega
   have HCELL:Hid (wr.drew.cell? ⟨g,k,none⟩=some (.slice y.a y.xs.length y.c)):=lh (by
    have:=HR.out.1.cellAt k (by omega);rw[AEs P k hkP,HR.out.2.2.2.1]at this;exact this)
   have HROW:=lh (show wr.drew.ownsRow n₀ 30 1 (.slice (some ⟨g,0,none⟩) (k+1) cap) (k+1) (Hm P)from HR.out.1);have HLS:=lh (show Gd wr.drew n₀ P from fun i hi=>HR.out.2.1 i hi);have HYG:=lh HR.out.2.2.2.1;have HYZ:=lh HR.out.2.2.2.2
   go_upto_region 5 with (fail)
   clear s0 s1 hq HR;have x0:∀w',Cs n₀ W0 w'→w'.cell? ⟨B1,0,none⟩=some (.string h.name):=fun w' z=>(HXX.out w' z.old).1.1;have x1:∀w',Cs n₀ W0 w'→w'.cell? ⟨B1,1,none⟩=some (.int .i64 h.height):=fun w' z=>(HXX.out w' z.old).1.2.1;have x2:∀w',Cs n₀ W0 w'→w'.cell? ⟨B1,2,none⟩=some (.slice sa h.sets.length h.sc):=fun w' z=>by rw[←HSA.out];exact(HXX.out w' z.old).1.2.2.1
   have x3:∀w',Cs n₀ W0 w'→w'.cell? ⟨B1,3,none⟩=some (.slice h.ra h.roofs.length h.rc):=fun w' z=>(HXX.out w' z.old).1.2.2.2;have xs:∀w',Cs n₀ W0 w'→w'.cell? ⟨B2,0,none⟩=some (.slice (some ⟨cb,co,none⟩) s.cues.length s.cc):=fun w' z=>by rw[←HCA.out];exact(HXX.out w' z.old).2.1.1
   have hcq:∀w',Cs n₀ W0 w'→w'.cell? ⟨cb,co+k*7,none⟩=some (.string q.name)∧w'.cell? ⟨cb,co+k*7+1,none⟩=some (.string q.after)∧w'.cell? ⟨cb,co+k*7+2,none⟩=some (.int .i64 q.link)∧w'.cell? ⟨cb,co+k*7+3,none⟩=some (.int .i64 q.delay)∧w'.cell? ⟨cb,co+k*7+4,none⟩=some (.slice q.ma q.moves.length q.mc)∧w'.cell? ⟨cb,co+k*7+5,none⟩=some (.int .i64 q.crew)∧w'.cell? ⟨cb,co+k*7+6,none⟩=some (.int .i64 q.power):=fun w' z=>by have:=HCC.out w' z.old k hlt;rw[HQ.out]at this;exact this
   have y0:=fun w' z=>(hcq w' z).1;have y1:=fun w' z=>(hcq w' z).2.1;have y2:=fun w' z=>(hcq w' z).2.2.1;have y3:=fun w' z=>(hcq w' z).2.2.2.1;have y4:=fun w' z=>(hcq w' z).2.2.2.2.1;have y5:=fun w' z=>(hcq w' z).2.2.2.2.2.1;have y6:=fun w' z=>(hcq w' z).2.2.2.2.2.2;clear hcq;have hH0:Cs n₀ W0 wr:=⟨hB,hnw⟩;have j0:(0:Int)≤(k:Int):=by omega
   have j1:(k:Int)<(k:Int)+1:=by omega
   have j2:(k:Int)<(s.cues.length:Int):=by omega
   refine wp_region_held_drew (S:=(Cs n₀ W0)) (by kernel_rfl) (hH0.next (br).drew) (fun hHeld=>?_);obtain⟨W5,hW5⟩:=nm (wr.drew);simp only[hW5]at hHeld HCELL HROW HLS⊢;clear hW5;refine tk 0 ?_;refine tk 1 ?_;refine tk 2 ?_;refine tk 3 ?_;refine tk 4 ?_;refine tk 6 ?_;refine tk 7 ?_;refine tk 8 ?_;refine tk 9 ?_;refine tk 10 ?_;clear x0 x1 x2 x3 xs y0 y1 y2 y3 y4 y5 y6;refine r1 5 (fun K hK=>?_)
   try simp only[Ba,Bc,Az]
   have hcell:=HCELL.out
   go_wp2_with fail
   refine hK.out _ _ hHeld (fun hHeld=>?_);clear hK K hcell
   try simp only[Act.put,Co,Cp,Cn,Ba,Bc,Az]
   have hlo5:n₀≤W5.heap.size:=hHeld.lo;have HAF:Hid (Calls Tryz.prog 136 _ W5 _):=lh (AGk h q y.a y.xs y.c W5 (HXX.out _ hHeld.old).2.2.1.toHouseIn0 hsl (HMVS.out _ hHeld.old) HMK.out (by have:=HLS.out.nums hkP;rw[HYG.out]at this;exact this) HYL.out HYZ.out (fun i hi=>(HRG.out i hi).2.1));rw[HSA.out]at HAF;refine r1 11 (fun K hK=>?_)
   try simp only[Ba,Bc,Az]
   go_simp
   (go_at_call 136;go_fit HAF.out;rintro e w6 ⟨hx6,hb6⟩;obtain⟨v6,rfl,hr6⟩:=hx6.out;obtain⟨a6,c6,rfl,-,-,n6,-⟩:=Be hr6;have HR6:=lh hr6;have HN6:=lh n6;clear hx6 hr6 n6)
   go_wp2_with fail
   have hH6:=hHeld.next hb6;refine hK.out _ _ hH6 (fun hHeld=>?_);clear hK K
   try simp only[Act.put,Co,Cp,Cn,Ba,Bc,Az]
   obtain⟨z,hz⟩:∃z:Ew,z=⟨a6,Dq h y.xs q.moves,c6⟩:=⟨_,rfl⟩;rw[show(Value.slice a6 (Dq h y.xs q.moves).length c6)=.slice z.a z.xs.length z.c by rw[hz]];have HZX:Hid (z.xs=Ez h s.cues (k+1)):=lh (by rw[hz];exact HNX.out);have HZN:Hid (z.a=none→z.c=0):=lh (by rw[hz];exact HN6.out);have HZO:Hid (w6.ownsRow n₀ 3 1 (AKq z) z.xs.length (Ap z.xs)):=lh (by rw[hz];exact Bn HR6.out hlo5);have HROW6:=lh (Ac HROW.out hb6);have HLS6:=lh (HLS.out.below hb6);clear hz HR6 HN6 hb6 HAF HROW HLS HCELL;refine r1 12 (fun K hK=>?_);rw[if_pos (by rfl)]
   go_wp2_with fail
   have hbx:=Aa w6 (.cells #[.slice z.a z.xs.length z.c] 30);have HRX:Hid ((w6.alloc (.cells #[.slice z.a z.xs.length z.c] 30)).ownsRow n₀ 30 1 (.slice (some ⟨g,0,none⟩) (k+1) cap) (k+1) (Hm P)):=lh (Ac HROW6.out hbx);have HLX:Hid (Gd (w6.alloc (.cells #[.slice z.a z.xs.length z.c] 30)) n₀ (P++[z])):=lh ((HLS6.out.snoc HZO.out).below hbx);have hHN:=hHeld.next hbx;refine hK.out _ _ hHN (fun hHeld=>?_);clear hK K hbx
   try simp only[Act.put,Co,Cp,Cn,Ba,Bc,Az]
   refine r1 13 (fun K hK=>?_);refine step_append_lies _ rfl (.tmp 17) (.tmp 29) 53 rfl n₀ 30 i0 _ 1 24 Tryz.underlying53 HI.out.1 HI.out.2.1 HI.out.2.2.1 HI.out.2.2.2 rfl (by decide) (.slice (some ⟨g,0,none⟩) (k+1) cap) (k+1) (Hm P) ?_ HRX.out ⟨w6.heap.size,0,none⟩ 1 1 [.slice z.a z.xs.length z.c] ?_ rfl (ACi w6 _ _) ?_ (by omega) ?_ ?_ ?_ _ rfl ?_
   ·simp[Act.eval]
   ·simp[Act.eval]
   ·simp[Value.oneCell']
   ·unfold maxLen;omega
   ·have:=hHN.lo;omega
   ·have:=hHN.lo;omega
   intro g7 cap7 w7 hown7 hgr7 hat7 hg7;clear hat7;have hS7:Cs n₀ W0 w7:=⟨hHN.old.grown hgr7 (by have:=hHN.lo;omega) (fun j hj=>(HRX.out.lt _ hj).1),nt hHN.lo hgr7.size⟩;have HO7:=lh hown7;have HL7:=lh (HLX.out.kept HRX.out hgr7);clear hown7 hgr7 hg7;refine hK.out _ _ hS7 (fun hHeld=>?_);clear hK K
   try simp only[Act.put,Co,Cp,Cn,Ba,Bc,Az]
   refine tk 14 ?_;refine wpAnyH_done (by kernel_rfl) ?_ _
   go_wp2_with fail
   go_roundw
   case rel=>exact⟨k+1,z,P++[z],by go_num,by omega,hS7.old,hS7.lo,lh ⟨by have:=HO7.out;rw[Vu];exact this,HL7.out,HTR.out.snoc HZX.out,by rw[←HTR.out.len,ABh],HZN.out⟩⟩
   case measure=>simp[intOf];omega
  ·obtain rfl:k=s.cues.length:=by omega
   go_wp2_with fail
   go_ret;obtain⟨a,c,e1,ht⟩:=ABy (P:=P) (by rw[HR.out.2.2.1.len];exact HR.out.1) HR.out.2.1 HR.out.2.2.1;rw[HR.out.2.2.1.len]at e1;exact⟨lh ⟨a,c,P,by rw[←e1];rfl,ht⟩,HWW.out _ hB⟩
theorem ALe(h:Ae)(x:Mv)(ta:Option Addr)(t:List Int)(tc:Nat)(w:World)(hh:HouseIn0 w h)(hl:h.sets.length≤1000)(ht:Bl w.heap.size w ta t)(htl:t.length=h.sets.length)(hf0:0≤Cv h.sets x.name)
  (hw:0≤x.to∧x.to≤1048576∧0≤ig t (Cv h.sets x.name).toNat∧ig t (Cv h.sets x.name).toNat≤1048576):
  Calls Tryz.prog 87 #[.agg #[.string h.name,.int .i64 h.height,.slice h.sa h.sets.length h.sc,.slice h.ra h.roofs.length h.rc],.slice ta t.length tc,.agg #[.string x.name,.int .i64 x.to,.int .i64 x.spd,.int .i64 x.rise,.int .i64 x.fall]] w fun e w'=>e=.returned (.int .i64 (Lo h t x))∧Below w.heap.size w w':=by
 have hb0:Below w.heap.size w ((w.alloc (Ex h)).alloc (.cells #[.string x.name,.int .i64 x.to,.int .i64 x.spd,.int .i64 x.rise,.int .i64 x.fall] 94)):=(Aa w _).alloc (by simp) _;have HX:Hid (∀w',Below ((w.alloc (Ex h)).alloc (.cells #[.string x.name,.int .i64 x.to,.int .i64 x.spd,.int .i64 x.rise,.int .i64 x.fall] 94)).heap.size ((w.alloc (Ex h)).alloc (.cells #[.string x.name,.int .i64 x.to,.int .i64 x.spd,.int .i64 x.rise,.int .i64 x.fall] 94)) w'→Au w' w.heap.size h∧HouseIn0 w' h∧Bl w'.heap.size w' ta t):=lh fun w' z=>⟨((Au.new w h _).carry (Aa _ _)).carry z,(hh.grow hb0).grow z,(ht.grow hb0).grow z⟩;have HW:Hid (∀w',Below ((w.alloc (Ex h)).alloc (.cells #[.string x.name,.int .i64 x.to,.int .i64 x.spd,.int .i64 x.rise,.int .i64 x.fall] 94)).heap.size ((w.alloc (Ex h)).alloc (.cells #[.string x.name,.int .i64 x.to,.int .i64 x.spd,.int .i64 x.rise,.int .i64 x.fall] 94)) w'→Below w.heap.size w w'):=lh fun w' z=>hb0.trans (z.mono hb0.size)
 have HM:Hid (Jx ((w.alloc (Ex h)).alloc (.cells #[.string x.name,.int .i64 x.to,.int .i64 x.spd,.int .i64 x.rise,.int .i64 x.fall] 94)) (w.heap.size+1) x):=lh (by
  have e:=Jx.new (w.alloc (Ex h)) x 94;rw[show(w.alloc (Ex h)).heap.size=w.heap.size+1 by simp]at e;exact e)
 have hf1:=(Jb hf0).1;have hft:(Cv h.sets x.name).toNat<t.length:=by omega
 have HSETC:=lh fun (w':World) (z:HouseIn0 w' h)=>Px h x.name w' z hl;clear hh ht hb0
 go_enter Tryz.func87,Tryz.ntmps87
 go_upto_region 1 with (fail)
 obtain⟨W0,hW0⟩:=nm (((w.alloc (Ex h)).alloc (.cells #[.string x.name,.int .i64 x.to,.int .i64 x.spd,.int .i64 x.rise,.int .i64 x.fall] 94)):World);simp only[hW0]at HX HW HM⊢;clear hW0;obtain⟨B1,hB1⟩:=nm (w.heap.size);obtain⟨B4,hB4⟩:=nm (w.heap.size+1);rw[hB4]at HM⊢;rw[hB1]at HX⊢;clear hB1 hB4;obtain⟨f,hf⟩:=nm (Cv h.sets x.name);have HFN:=lh hf;rw[hf]at hf0 hf1 hft hw;obtain⟨v,hv⟩:=nm (ig t f.toNat);have HDV:Hid (Lo h t x=if x.to-v<0 then 0-(x.to-v)else x.to-v):=lh (by unfold Lo;rw[hf,hv]);rw[hv]at hw;obtain⟨D,hD⟩:=nm (x.to-v);rw[hD]at HDV;have hsub:IntKind.i64.wrap (x.to-v)=D:=by rw[←hD];simp only[IntKind.wrap_i64];omega
 have hsub2:IntKind.i64.wrap (0-D)=0-D:=by simp only[IntKind.wrap_i64];omega
 have hsub3:IntKind.i64.wrap (-D)=-D:=by simp only[IntKind.wrap_i64];omega
 have hf2:f<(t.length:Int):=by omega
 have HVV:=lh hv;clear hf hD hw hv htl;obtain⟨-,-,hnm⟩:=HX.out _ br;obtain⟨tb,tf,hta,htb,-⟩:=hnm (by omega);subst hta;clear hnm;obtain⟨n₀,hn0⟩:=nm (W0.heap.size);have HXX:Hid (∀w',Below n₀ W0 w'→Au w' B1 h∧HouseIn0 w' h∧Bl w'.heap.size w' (some ⟨tb,tf,none⟩) t):=lh fun w' z=>by rw[←hn0]at z;exact HX.out w' z
 have HWW:Hid (∀w',Below n₀ W0 w'→Below w.heap.size w w'):=lh fun w' z=>by rw[←hn0]at z;exact HW.out w' z
 have HBB:Hid (Below n₀ W0 W0):=lh (by rw[←hn0];exact br);have hn6:n₀≤W0.drew.heap.size:=by show n₀≤W0.heap.size;omega
 have HAX:=HM;clear HX HW hn0 htb;have x0:∀w',Gq n₀ W0 B4 x w'→w'.cell? ⟨B1,0,none⟩=some (.string h.name):=fun w' z=>(HXX.out w' z.old).1.1;have x1:∀w',Gq n₀ W0 B4 x w'→w'.cell? ⟨B1,1,none⟩=some (.int .i64 h.height):=fun w' z=>(HXX.out w' z.old).1.2.1;have x2:∀w',Gq n₀ W0 B4 x w'→w'.cell? ⟨B1,2,none⟩=some (.slice h.sa h.sets.length h.sc):=fun w' z=>(HXX.out w' z.old).1.2.2.1;have x3:∀w',Gq n₀ W0 B4 x w'→w'.cell? ⟨B1,3,none⟩=some (.slice h.ra h.roofs.length h.rc):=fun w' z=>(HXX.out w' z.old).1.2.2.2;have y0:∀w',Gq n₀ W0 B4 x w'→w'.cell? ⟨B4,0,none⟩=some (.string x.name):=fun w' z=>z.mv.1;have y1:∀w',Gq n₀ W0 B4 x w'→w'.cell? ⟨B4,1,none⟩=some (.int .i64 x.to):=fun w' z=>z.mv.2.1
 have z0:∀w',Gq n₀ W0 B4 x w'→w'.cell? ⟨tb,tf+f.toNat,none⟩=some (.int .i64 v):=fun w' z=>by
  obtain⟨tb',tf',e,_,ex⟩:=(HXX.out w' z.old).2.2 (by omega)
  cases e
  rw[←HVV.out];exact ex _ hft
 refine wp_region_held_drew (S:=(Gq n₀ W0 B4 x)) (by kernel_rfl) (⟨HBB.out.drew,HAX.out.carry (br).drew⟩) (fun hHeld=>?_);refine tk 0 ?_;refine tk 1 ?_;refine tk 2 ?_;refine tk 3 ?_;refine tk 4 ?_;refine tk 5 ?_;refine r1 6 (fun K hK=>?_)
 try simp only[Ba,Bc,Az]
 go_simp
 (go_at_call 50;go_split_ands;go_fit (HSETC.out _ (HXX.out _ hHeld.old).2.1);rintro e w6 ⟨rfl,hb6⟩;rw[HFN.out];have how:n₀≤w6.heap.size:=nt hn6 hb6.size;have hHeld6:=hHeld.old.trans (hb6.mono hn6);have hMv6:=hHeld.mv.carry hb6)
 go_wp2_with fail
 refine hK.out _ _ (⟨hHeld6,hMv6⟩) (fun hHeld=>?_);clear hK K
 try simp only[Act.put,Co,Cp,Cn,Ba,Bc,Az]
 refine tk 7 ?_;refine tk 8 ?_;refine tk 9 ?_;refine tk 10 ?_;refine wpAnyH_done (by kernel_rfl) ?_ _;clear x0 x1 x2 x3 y0 y1 z0 hHeld hsub
 by_cases c:D<0
 ·have g:=dT c
  have HC:=lh c;clear c
  go_wp2_with fail
  go_ret;exact⟨Cu (by rw[HDV.out,if_pos HC.out];try omega),HWW.out _ hHeld6⟩
 ·have g:=dF c
  have HC:=lh c;clear c
  go_wp2_with fail
  go_ret;exact⟨Cu (by rw[HDV.out,if_neg (by have:=HC.out;omega)]),HWW.out _ hHeld6⟩
end
end Go.Proofs.YtebofaenlhhkaaaGreat
