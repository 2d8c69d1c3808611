import Derived.Test.YtebofaenlhhkaaaGreatY3
namespace Go.Proofs.YtebofaenlhhkaaaGreat
set_option maxRecDepth 100000
set_option maxHeartbeats 80000000
section
open Go.RowKit Go.Shelf
attribute [local go_sem] Oper.semAt_some
theorem ABo(r:Ds)(w:World)(hs:Ls w r):
  Calls Tryz.prog 145 #[.agg #[.string r.name,.int .i64 r.depth,.int .i64 r.low,.int .i64 r.high,.int .i64 r.length,.slice r.la r.lines.length r.lc,.int .i64 r.pipe,.int .i64 r.arbor,.int .i64 r.purchase,.int .i64 r.most,.int .i64 r.brake,.slice r.ia r.items.length r.ic,.slice r.ba r.bricks.length r.bc]] w fun e w'=>e=.returned (.bool (setB r))∧Below w.heap.size w w':=by
 have hb0:=Aa w (Ko r);have HX:Hid (∀wx,Below (w.alloc (Ko r)).heap.size (w.alloc (Ko r)) wx→Below w.heap.size w wx):=lh fun wx h=>Dh _ h;have HS:Hid (∀wx,Below (w.alloc (Ko r)).heap.size (w.alloc (Ko r)) wx→Ls wx r):=lh fun wx h=>(hs.grow hb0).grow h;have HAT:Hid (∀wx,Below (w.alloc (Ko r)).heap.size (w.alloc (Ko r)) wx→Ke wx w.heap.size r):=lh fun wx h=>(Ke.new w r 59).below h (by simp);clear hb0 hs
 go_enter Tryz.func145,Tryz.ntmps145
 go_wp2_with fail
 generalize (w.alloc (Ko r))=W0 at *;have hB1:=Below.refl W0.heap.size W0;obtain⟨x0,x1,x2,x3,x4,x5,x6,x7,x8,x9,x10,x11,x12⟩:=Od HAT
 cases h0:Ao r.name
 ·have HR:Hid (setB r=false):=lh (by simp only[setB,h0,Bool.false_and])
  have H0:=lh h0;clear h0
  go_wp2_with (first
   | (go_at_call 143;go_fit (Ah r.name _);rintro e w1 ⟨rfl,rfl⟩;rw[H0.out]))
  go_ret;exact⟨Ab HR.out.symm,HX.out _ hB1⟩
 cases h1:Ai r.depth 0 1048576
 ·have HR:Hid (setB r=false):=lh (by simp only[setB,h0,h1,Bool.true_and,Bool.false_and])
  have H0:=lh h0;have H1:=lh h1;clear h0 h1
  go_wp2_with (first
   | (go_at_call 143;go_fit (Ah r.name _);rintro e w1 ⟨rfl,rfl⟩;rw[H0.out])
   | (go_at_call 180;go_fit (Bh r.depth 0 1048576 _);rintro e w1 ⟨rfl,rfl⟩;rw[H1.out]))
  go_ret;exact⟨Ab HR.out.symm,HX.out _ hB1⟩
 cases h2:decide (0≤r.low)
 ·have HR:Hid (setB r=false):=lh (by simp only[setB,h0,h1,h2,Bool.true_and,Bool.false_and])
  have H0:=lh h0;have H1:=lh h1;clear h0 h1
  go_wp2_with (first
   | (go_at_call 143;go_fit (Ah r.name _);rintro e w1 ⟨rfl,rfl⟩;rw[H0.out])
   | (go_at_call 180;go_fit (Bh r.depth 0 1048576 _);rintro e w1 ⟨rfl,rfl⟩;rw[H1.out]))
  go_ret;exact⟨Ab HR.out.symm,HX.out _ hB1⟩
 cases h3:decide (r.low≤r.high)
 ·have HR:Hid (setB r=false):=lh (by simp only[setB,h0,h1,h2,h3,Bool.true_and,Bool.false_and])
  have H0:=lh h0;have H1:=lh h1;clear h0 h1
  go_wp2_with (first
   | (go_at_call 143;go_fit (Ah r.name _);rintro e w1 ⟨rfl,rfl⟩;rw[H0.out])
   | (go_at_call 180;go_fit (Bh r.depth 0 1048576 _);rintro e w1 ⟨rfl,rfl⟩;rw[H1.out]))
  go_ret;exact⟨Ab HR.out.symm,HX.out _ hB1⟩
 cases h4:decide (r.high≤1048576)
 ·have HR:Hid (setB r=false):=lh (by simp only[setB,h0,h1,h2,h3,h4,Bool.true_and,Bool.false_and])
  have H0:=lh h0;have H1:=lh h1;clear h0 h1
  go_wp2_with (first
   | (go_at_call 143;go_fit (Ah r.name _);rintro e w1 ⟨rfl,rfl⟩;rw[H0.out])
   | (go_at_call 180;go_fit (Bh r.depth 0 1048576 _);rintro e w1 ⟨rfl,rfl⟩;rw[H1.out]))
  go_ret;exact⟨Ab HR.out.symm,HX.out _ hB1⟩
 cases h5:Ai r.length 1000 1048576
 ·have HR:Hid (setB r=false):=lh (by simp only[setB,h0,h1,h2,h3,h4,h5,Bool.true_and,Bool.false_and])
  have H0:=lh h0;have H1:=lh h1;have H5:=lh h5;clear h0 h1 h5
  go_wp2_with (first
   | (go_at_call 143;go_fit (Ah r.name _);rintro e w1 ⟨rfl,rfl⟩;rw[H0.out])
   | (go_at_call 180;go_fit (Bh _ _ _ _);rintro e w1 ⟨rfl,rfl⟩;simp only[H1.out,H5.out]))
  go_ret;exact⟨Ab HR.out.symm,HX.out _ hB1⟩
 have hlen:=Am.1 h5;have hln2:0≤r.length∧r.length≤1048576:=by omega
 cases h6:(r.length%1000==0)
 ·have HR:Hid (setB r=false):=lh (by simp only[setB,h0,h1,h2,h3,h4,h5,h6,Bool.true_and,Bool.false_and])
  have H0:=lh h0;have H1:=lh h1;have H5:=lh h5;clear h0 h1 h5
  go_wp2_with (first
   | (go_at_call 143;go_fit (Ah r.name _);rintro e w1 ⟨rfl,rfl⟩;rw[H0.out])
   | (go_at_call 180;go_fit (Bh _ _ _ _);rintro e w1 ⟨rfl,rfl⟩;simp only[H1.out,H5.out]))
  go_ret;exact⟨Ab HR.out.symm,HX.out _ hB1⟩
 cases h7:Nb r.lines r.length
 ·have HR:Hid (setB r=false):=lh (by simp only[setB,h0,h1,h2,h3,h4,h5,h6,h7,Bool.true_and,Bool.false_and])
  have H0:=lh h0;have H1:=lh h1;have H5:=lh h5;have H7:=lh h7;clear h0 h1 h5 h7
  go_wp2_with (first
   | (go_at_call 143;go_fit (Ah r.name _);rintro e w1 ⟨rfl,rfl⟩;rw[H0.out])
   | (go_at_call 180;go_fit (Bh _ _ _ _);rintro e w1 ⟨rfl,rfl⟩;simp only[H1.out,H5.out])
   | (go_at_call 181;go_fit (Ha _ r.lines _ r.length _ (HS.out _ hB1).lines);rintro e w2 ⟨rfl,hb⟩;rw[H7.out];have hB2:=hB1.trans (hb.mono hB1.size);clear hb))
  go_ret;exact⟨Ab HR.out.symm,HX.out _ hB2⟩
 cases h8:Ai r.pipe 0 1048576
 ·have HR:Hid (setB r=false):=lh (by simp only[setB,h0,h1,h2,h3,h4,h5,h6,h7,h8,Bool.true_and,Bool.false_and])
  have H0:=lh h0;have H1:=lh h1;have H5:=lh h5;have H7:=lh h7;have H8:=lh h8;clear h0 h1 h5 h7 h8
  go_wp2_with (first
   | (go_at_call 143;go_fit (Ah r.name _);rintro e w1 ⟨rfl,rfl⟩;rw[H0.out])
   | (go_at_call 180;go_fit (Bh _ _ _ _);rintro e w1 ⟨rfl,rfl⟩;simp only[H1.out,H5.out,H8.out])
   | (go_at_call 181;go_fit (Ha _ r.lines _ r.length _ (HS.out _ hB1).lines);rintro e w2 ⟨rfl,hb⟩;rw[H7.out];have hB2:=hB1.trans (hb.mono hB1.size);clear hb))
  go_ret;exact⟨Ab HR.out.symm,HX.out _ hB2⟩
 cases h9:Ai r.arbor 0 1048576
 ·have HR:Hid (setB r=false):=lh (by simp only[setB,h0,h1,h2,h3,h4,h5,h6,h7,h8,h9,Bool.true_and,Bool.false_and])
  have H0:=lh h0;have H1:=lh h1;have H5:=lh h5;have H7:=lh h7;have H8:=lh h8;have H9:=lh h9;clear h0 h1 h5 h7 h8 h9
  go_wp2_with (first
   | (go_at_call 143;go_fit (Ah r.name _);rintro e w1 ⟨rfl,rfl⟩;rw[H0.out])
   | (go_at_call 180;go_fit (Bh _ _ _ _);rintro e w1 ⟨rfl,rfl⟩;simp only[H1.out,H5.out,H8.out,H9.out])
   | (go_at_call 181;go_fit (Ha _ r.lines _ r.length _ (HS.out _ hB1).lines);rintro e w2 ⟨rfl,hb⟩;rw[H7.out];have hB2:=hB1.trans (hb.mono hB1.size);clear hb))
  go_ret;exact⟨Ab HR.out.symm,HX.out _ hB2⟩
 cases h10:Ai r.purchase 1 2
 ·have HR:Hid (setB r=false):=lh (by simp only[setB,h0,h1,h2,h3,h4,h5,h6,h7,h8,h9,h10,Bool.true_and,Bool.false_and])
  have H0:=lh h0;have H1:=lh h1;have H5:=lh h5;have H7:=lh h7;have H8:=lh h8;have H9:=lh h9;have H10:=lh h10;clear h0 h1 h5 h7 h8 h9 h10
  go_wp2_with (first
   | (go_at_call 143;go_fit (Ah r.name _);rintro e w1 ⟨rfl,rfl⟩;rw[H0.out])
   | (go_at_call 180;go_fit (Bh _ _ _ _);rintro e w1 ⟨rfl,rfl⟩;simp only[H1.out,H5.out,H8.out,H9.out,H10.out])
   | (go_at_call 181;go_fit (Ha _ r.lines _ r.length _ (HS.out _ hB1).lines);rintro e w2 ⟨rfl,hb⟩;rw[H7.out];have hB2:=hB1.trans (hb.mono hB1.size);clear hb))
  go_ret;exact⟨Ab HR.out.symm,HX.out _ hB2⟩
 cases h11:Ai r.most 1 67108864
 ·have HR:Hid (setB r=false):=lh (by simp only[setB,h0,h1,h2,h3,h4,h5,h6,h7,h8,h9,h10,h11,Bool.true_and,Bool.false_and])
  have H0:=lh h0;have H1:=lh h1;have H5:=lh h5;have H7:=lh h7;have H8:=lh h8;have H9:=lh h9;have H10:=lh h10;have H11:=lh h11;clear h0 h1 h5 h7 h8 h9 h10 h11
  go_wp2_with (first
   | (go_at_call 143;go_fit (Ah r.name _);rintro e w1 ⟨rfl,rfl⟩;rw[H0.out])
   | (go_at_call 180;go_fit (Bh _ _ _ _);rintro e w1 ⟨rfl,rfl⟩;simp only[H1.out,H5.out,H8.out,H9.out,H10.out,H11.out])
   | (go_at_call 181;go_fit (Ha _ r.lines _ r.length _ (HS.out _ hB1).lines);rintro e w2 ⟨rfl,hb⟩;rw[H7.out];have hB2:=hB1.trans (hb.mono hB1.size);clear hb))
  go_ret;exact⟨Ab HR.out.symm,HX.out _ hB2⟩
 cases h12:Ai r.brake 0 67108864
 ·have HR:Hid (setB r=false):=lh (by simp only[setB,h0,h1,h2,h3,h4,h5,h6,h7,h8,h9,h10,h11,h12,Bool.true_and,Bool.false_and])
  have H0:=lh h0;have H1:=lh h1;have H5:=lh h5;have H7:=lh h7;have H8:=lh h8;have H9:=lh h9;have H10:=lh h10;have H11:=lh h11;have H12:=lh h12;clear h0 h1 h5 h7 h8 h9 h10 h11 h12
  go_wp2_with (first
   | (go_at_call 143;go_fit (Ah r.name _);rintro e w1 ⟨rfl,rfl⟩;rw[H0.out])
   | (go_at_call 180;go_fit (Bh _ _ _ _);rintro e w1 ⟨rfl,rfl⟩;simp only[H1.out,H5.out,H8.out,H9.out,H10.out,H11.out,H12.out])
   | (go_at_call 181;go_fit (Ha _ r.lines _ r.length _ (HS.out _ hB1).lines);rintro e w2 ⟨rfl,hb⟩;rw[H7.out];have hB2:=hB1.trans (hb.mono hB1.size);clear hb))
  go_ret;exact⟨Ab HR.out.symm,HX.out _ hB2⟩
 cases h13:Iw r.items r.length
 ·have HR:Hid (setB r=false):=lh (by simp only[setB,h0,h1,h2,h3,h4,h5,h6,h7,h8,h9,h10,h11,h12,h13,Bool.true_and,Bool.false_and])
  have H0:=lh h0;have H1:=lh h1;have H5:=lh h5;have H7:=lh h7;have H8:=lh h8;have H9:=lh h9;have H10:=lh h10;have H11:=lh h11;have H12:=lh h12;have H13:=lh h13;clear h0 h1 h5 h7 h8 h9 h10 h11 h12 h13
  go_wp2_with (first
   | (go_at_call 143;go_fit (Ah r.name _);rintro e w1 ⟨rfl,rfl⟩;rw[H0.out])
   | (go_at_call 180;go_fit (Bh _ _ _ _);rintro e w1 ⟨rfl,rfl⟩;simp only[H1.out,H5.out,H8.out,H9.out,H10.out,H11.out,H12.out])
   | (go_at_call 181;go_fit (Ha _ r.lines _ r.length _ (HS.out _ hB1).lines);rintro e w2 ⟨rfl,hb⟩;rw[H7.out];have hB2:=hB1.trans (hb.mono hB1.size);clear hb)
   | (go_at_call 182;go_fit (Tb _ r.items _ r.length _ hln2 (HS.out _ hB2).icap (HS.out _ hB2).inames (HS.out _ hB2).items);rintro e w3 ⟨rfl,hb⟩;rw[H13.out];have hB3:=hB2.trans (hb.mono hB2.size);clear hb))
  go_ret;exact⟨Ab HR.out.symm,HX.out _ hB3⟩
 cases h14:Hg r.bricks
 ·have HR:Hid (setB r=false):=lh (by simp only[setB,h0,h1,h2,h3,h4,h5,h6,h7,h8,h9,h10,h11,h12,h13,h14,Bool.true_and])
  have H0:=lh h0;have H1:=lh h1;have H5:=lh h5;have H7:=lh h7;have H8:=lh h8;have H9:=lh h9;have H10:=lh h10;have H11:=lh h11;have H12:=lh h12;have H13:=lh h13;have H14:=lh h14;clear h0 h1 h5 h7 h8 h9 h10 h11 h12 h13 h14
  go_wp2_with (first
   | (go_at_call 143;go_fit (Ah r.name _);rintro e w1 ⟨rfl,rfl⟩;rw[H0.out])
   | (go_at_call 180;go_fit (Bh _ _ _ _);rintro e w1 ⟨rfl,rfl⟩;simp only[H1.out,H5.out,H8.out,H9.out,H10.out,H11.out,H12.out])
   | (go_at_call 181;go_fit (Ha _ r.lines _ r.length _ (HS.out _ hB1).lines);rintro e w2 ⟨rfl,hb⟩;rw[H7.out];have hB2:=hB1.trans (hb.mono hB1.size);clear hb)
   | (go_at_call 182;go_fit (Tb _ r.items _ r.length _ hln2 (HS.out _ hB2).icap (HS.out _ hB2).inames (HS.out _ hB2).items);rintro e w3 ⟨rfl,hb⟩;rw[H13.out];have hB3:=hB2.trans (hb.mono hB2.size);clear hb)
   | (go_at_call 183;go_fit (Xy _ r.bricks _ _ (HS.out _ hB3).bnames (HS.out _ hB3).bricks);rintro e w4 ⟨rfl,hb⟩;rw[H14.out];have hB4:=hB3.trans (hb.mono hB3.size);clear hb))
  go_ret;exact⟨Ab HR.out.symm,HX.out _ hB4⟩
 have HR:Hid (setB r=true):=lh (by simp only[setB,h0,h1,h2,h3,h4,h5,h6,h7,h8,h9,h10,h11,h12,h13,h14,Bool.and_self]);have H0:=lh h0;have H1:=lh h1;have H5:=lh h5;have H7:=lh h7;have H8:=lh h8;have H9:=lh h9;have H10:=lh h10;have H11:=lh h11;have H12:=lh h12;have H13:=lh h13;have H14:=lh h14;clear h0 h1 h5 h7 h8 h9 h10 h11 h12 h13 h14
 go_wp2_with (first
  | (go_at_call 143;go_fit (Ah r.name _);rintro e w1 ⟨rfl,rfl⟩;rw[H0.out])
  | (go_at_call 180;go_fit (Bh r.depth 0 1048576 _);rintro e w1 ⟨rfl,rfl⟩;rw[H1.out])
  | (go_at_call 180;go_fit (Bh r.length 1000 1048576 _);rintro e w1 ⟨rfl,rfl⟩;rw[H5.out])
  | (go_at_call 181;go_fit (Ha _ r.lines _ r.length _ (HS.out _ hB1).lines);rintro e w2 ⟨rfl,hb⟩;rw[H7.out];have hB2:=hB1.trans (hb.mono hB1.size);clear hb)
  | (go_at_call 180;go_fit (Bh r.pipe 0 1048576 _);rintro e w1 ⟨rfl,rfl⟩;rw[H8.out])
  | (go_at_call 180;go_fit (Bh r.arbor 0 1048576 _);rintro e w1 ⟨rfl,rfl⟩;rw[H9.out])
  | (go_at_call 180;go_fit (Bh r.purchase 1 2 _);rintro e w1 ⟨rfl,rfl⟩;rw[H10.out])
  | (go_at_call 180;go_fit (Bh r.most 1 67108864 _);rintro e w1 ⟨rfl,rfl⟩;rw[H11.out])
  | (go_at_call 180;go_fit (Bh r.brake 0 67108864 _);rintro e w1 ⟨rfl,rfl⟩;rw[H12.out])
  | (go_at_call 182;go_fit (Tb _ r.items _ r.length _ hln2 (HS.out _ hB2).icap (HS.out _ hB2).inames (HS.out _ hB2).items);rintro e w3 ⟨rfl,hb⟩;rw[H13.out];have hB3:=hB2.trans (hb.mono hB2.size);clear hb)
  | (go_at_call 183;go_fit (Xy _ r.bricks _ _ (HS.out _ hB3).bnames (HS.out _ hB3).bricks);rintro e w4 ⟨rfl,hb⟩;rw[H14.out];have hB4:=hB3.trans (hb.mono hB3.size);clear hb))
 go_ret;exact⟨Ab HR.out.symm,HX.out _ hB4⟩
end
end Go.Proofs.YtebofaenlhhkaaaGreat
