/-
  THE WALK of ratio.Sub in general.
-/
import Derived.Test.YtebofaenlhhkaaaGreatU15
import Derived.Test.YtebofaenlhhkaaaGreatU26
namespace Go.Proofs.YtebofaenlhhkaaaGreat
set_option maxRecDepth 100000
set_option maxHeartbeats 80000000
set_option linter.unusedSimpArgs false
section
open Go.RowKit Go.Shelf
theorem sub_all(an ad bn bd:Int)(va:validF an ad=true)(vb:validF bn bd=true)(w:World):
  Calls Tryz.prog 102 #[.agg #[.int .i64 an,.int .i64 ad],.agg #[.int .i64 bn,.int .i64 bd]] w fun e w'=>e=.returned (.tuple #[.agg #[.int .i64 (addP an ad (-bn) bd).1,.int .i64 (addP an ad (-bn) bd).2.1],.int .i64 (addP an ad (-bn) bd).2.2])∧Below w.heap.size w w':=by
 obtain⟨P,hP⟩:=nm (addP an ad (-bn) bd);have HPP:=lh hP;rw[hP];clear hP;obtain⟨b1,b2,b3,b4,b5⟩:=(validF_iff _ _).1 vb;have wn:IntKind.i64.wrap (-bn)=-bn:=IntWalk.i64_in _ (by omega);have HVA:=lh va;have HVB:=lh vb;have HC:=lh (add_all an ad (-bn) bd va (valid_neg vb));clear va vb b5
 go_enter Tryz.func102,Tryz.ntmps102
 go_wp2_with (first
  | (go_at_call 68;(with_reducible refine(valid_any an ad _).mono ?_);rintro e w1 ⟨rfl,hb1⟩;rw[HVA.out];have z0:w1.cell? ⟨w.heap.size,0,none⟩=some (.int .i64 an):=(hb1.cell (p:=⟨w.heap.size,0,none⟩) (by simp<;>omega)).trans (by simp[go_sem,World.cell?_alloc_past]);have z1:w1.cell? ⟨w.heap.size,1,none⟩=some (.int .i64 ad):=(hb1.cell (p:=⟨w.heap.size,1,none⟩) (by simp<;>omega)).trans (by simp[go_sem,World.cell?_alloc_past]);have z2:w1.cell? ⟨w.heap.size+1,0,none⟩=some (.int .i64 bn):=(hb1.cell (p:=⟨w.heap.size+1,0,none⟩) (by simp<;>omega)).trans (by simp[go_sem,World.cell?_alloc_past]);have z3:w1.cell? ⟨w.heap.size+1,1,none⟩=some (.int .i64 bd):=(hb1.cell (p:=⟨w.heap.size+1,1,none⟩) (by simp<;>omega)).trans (by simp[go_sem,World.cell?_alloc_past]))
  | (go_at_call 68;(with_reducible refine(valid_any bn bd _).mono ?_);rintro e w2 ⟨rfl,hb2⟩;rw[HVB.out];have z4:w2.cell? ⟨w.heap.size,0,none⟩=some (.int .i64 an):=(hb2.cell (p:=⟨w.heap.size,0,none⟩) (wl z0)).trans z0;have z5:w2.cell? ⟨w.heap.size,1,none⟩=some (.int .i64 ad):=(hb2.cell (p:=⟨w.heap.size,1,none⟩) (wl z1)).trans z1;have z6:w2.cell? ⟨w.heap.size+1,0,none⟩=some (.int .i64 bn):=(hb2.cell (p:=⟨w.heap.size+1,0,none⟩) (wl z2)).trans z2;have z7:w2.cell? ⟨w.heap.size+1,1,none⟩=some (.int .i64 bd):=(hb2.cell (p:=⟨w.heap.size+1,1,none⟩) (wl z3)).trans z3)
  | (go_at_call 124;(with_reducible refine(HC.out _).mono ?_);rintro e w3 ⟨rfl,hb3⟩;rw[HPP.out];have hb4:=hb1.trans ((hb2.trans (hb3.mono hb2.size)).mono hb1.size);have l4:w3.cell? ⟨w.heap.size+1+1,0,none⟩=some (.int .i64 0):=(hb4.cell (p:=⟨w.heap.size+1+1,0,none⟩) (by simp<;>omega)).trans (by simp[go_sem]);have l5:w3.cell? ⟨w.heap.size+1+1,1,none⟩=some (.int .i64 0):=(hb4.cell (p:=⟨w.heap.size+1+1,1,none⟩) (by simp<;>omega)).trans (by simp[go_sem]);have l6:w3.frozen? ⟨w.heap.size+1+1,0,none⟩=false:=(hb4.frozen (p:=⟨w.heap.size+1+1,0,none⟩) (by simp<;>omega)).trans (by simp[go_sem]);have l7:w3.frozen? ⟨w.heap.size+1+1,1,none⟩=false:=(hb4.frozen (p:=⟨w.heap.size+1+1,1,none⟩) (by simp<;>omega)).trans (by simp[go_sem])))
 have s2:=(two_cells (v0:=.int .i64 P.1) (v1:=.int .i64 P.2.1) l4 l5).1;have s3:=(two_cells (v0:=.int .i64 P.1) (v1:=.int .i64 P.2.1) l4 l5).2;refine bodyPost_ret (v:=.tuple #[.agg #[.int .i64 P.1,.int .i64 P.2.1],.int .i64 P.2.2]) (by simp[results,Tryz.results102,go_sem,s2,s3]) rfl ⟨rfl,?_⟩;have hBW:=(((below_new w (.cells #[.int .i64 an,.int .i64 ad] 49)).alloc (by simp) (.cells #[.int .i64 bn,.int .i64 bd] 49)).alloc (by simp<;>omega) (.cells #[.int .i64 0,.int .i64 0] 49)).trans (hb4.mono (by simp<;>omega));exact(hBW.setCell (p:=⟨w.heap.size+1+1,0,none⟩) (by simp<;>omega) _).setCell (p:=⟨w.heap.size+1+1,1,none⟩) (by simp<;>omega) _
theorem qzero_any(w:World):Calls Tryz.prog 61 #[] w fun e w'=>e=.returned (.agg #[.int .i64 0,.int .i64 1])∧Below w.heap.size w w':=by
 go_enter Tryz.func61,Tryz.ntmps61
 go_wp2_with fail
 refine bodyPost_ret (v:=.agg #[.int .i64 0,.int .i64 1]) (by simp[results,Tryz.results61,go_sem]) rfl ⟨rfl,?_⟩;exact below_new _ _
theorem qkeep_any(b:Nat)(e n d er:Int)(w:World)(hc:w.cell? ⟨b,0,none⟩=some (.int .i64 e))(hf:w.frozen? ⟨b,0,none⟩=false):
  Calls Tryz.prog 101 #[.pointer (some ⟨b,0,none⟩),.agg #[.int .i64 n,.int .i64 d],.int .i64 er] w fun x w'=>x=.returned (.agg #[.int .i64 (kp e (n,d,er)).1.1,.int .i64 (kp e (n,d,er)).1.2])∧Sm b (kp e (n,d,er)).2 w w':=by
 have hb:b<w.heap.size:=wl hc;have hsz:(w.alloc (.cells #[.int .i64 n,.int .i64 d] 49)).heap.size=w.heap.size+1:=by simp
 by_cases z:er=0
 ·have HR:Hid (kp e (n,d,er)=((n,d),e)):=lh (by unfold kp;rw[if_pos z])
  rw[HR.out];subst z
  go_enter Tryz.func101,Tryz.ntmps101
  go_wp2_with fail
  refine bodyPost_ret (v:=.agg #[.int .i64 n,.int .i64 d]) (by simp[results,Tryz.results101,go_sem]) rfl ⟨rfl,?_⟩;exact Sm.of ((below_new w _).alloc (by simp) _) hc hf
 ·have z1:(er==0)=false:=beq_eq_false_iff_ne.2 z
  have z2:(er !=0)=true:=by simpa using z
  by_cases y:e=0
  ·have HR:Hid (kp e (n,d,er)=((0,1),er)):=lh (by unfold kp;rw[if_neg z,if_pos y])
   rw[HR.out];subst y;clear z
   go_enter Tryz.func101,Tryz.ntmps101
   go_wp2_with (go_at_call 61;(with_reducible refine(qzero_any _).mono ?_);rintro x w1 ⟨rfl,hb1⟩;have c0:w1.cell? ⟨w.heap.size+1,0,none⟩=some (.int .i64 0):=(hb1.cell (p:=⟨w.heap.size+1,0,none⟩) (by simp<;>omega)).trans (by simp[go_sem]);have c1:w1.cell? ⟨w.heap.size+1,1,none⟩=some (.int .i64 0):=(hb1.cell (p:=⟨w.heap.size+1,1,none⟩) (by simp<;>omega)).trans (by simp[go_sem]);have c2:w1.frozen? ⟨w.heap.size+1,0,none⟩=false:=(hb1.frozen (p:=⟨w.heap.size+1,0,none⟩) (by simp<;>omega)).trans (by simp[go_sem]);have c3:w1.frozen? ⟨w.heap.size+1,1,none⟩=false:=(hb1.frozen (p:=⟨w.heap.size+1,1,none⟩) (by simp<;>omega)).trans (by simp[go_sem]))
   have l0:=(two_cells (v0:=.int .i64 0) (v1:=.int .i64 1) c0 c1).1;have l1:=(two_cells (v0:=.int .i64 0) (v1:=.int .i64 1) c0 c1).2;refine bodyPost_ret (v:=.agg #[.int .i64 0,.int .i64 1]) (by simp[results,Tryz.results101,go_sem,l0,l1]) rfl ⟨rfl,?_⟩;have k1:=(((Sm.set er hc hf).alloc (.cells #[.int .i64 n,.int .i64 d] 49)).alloc (.cells #[.int .i64 0,.int .i64 0] 49)).then hb1
   exact(k1.setCell (p:=⟨w.heap.size+1,0,none⟩) (Nat.le_succ _) hb _).setCell (p:=⟨w.heap.size+1,1,none⟩) (Nat.le_succ _) hb _
  ·have y1:(e==0)=false:=beq_eq_false_iff_ne.2 y
   have HR:Hid (kp e (n,d,er)=((0,1),e)):=lh (by unfold kp;rw[if_neg z,if_neg y]);rw[HR.out];clear y z
   go_enter Tryz.func101,Tryz.ntmps101
   go_wp2_with (go_at_call 61;(with_reducible refine(qzero_any _).mono ?_);rintro x w1 ⟨rfl,hb1⟩;have c0:w1.cell? ⟨w.heap.size+1,0,none⟩=some (.int .i64 0):=(hb1.cell (p:=⟨w.heap.size+1,0,none⟩) (by simp<;>omega)).trans (by simp[go_sem]);have c1:w1.cell? ⟨w.heap.size+1,1,none⟩=some (.int .i64 0):=(hb1.cell (p:=⟨w.heap.size+1,1,none⟩) (by simp<;>omega)).trans (by simp[go_sem]);have c2:w1.frozen? ⟨w.heap.size+1,0,none⟩=false:=(hb1.frozen (p:=⟨w.heap.size+1,0,none⟩) (by simp<;>omega)).trans (by simp[go_sem]);have c3:w1.frozen? ⟨w.heap.size+1,1,none⟩=false:=(hb1.frozen (p:=⟨w.heap.size+1,1,none⟩) (by simp<;>omega)).trans (by simp[go_sem]))
   have l0:=(two_cells (v0:=.int .i64 0) (v1:=.int .i64 1) c0 c1).1;have l1:=(two_cells (v0:=.int .i64 0) (v1:=.int .i64 1) c0 c1).2;refine bodyPost_ret (v:=.agg #[.int .i64 0,.int .i64 1]) (by simp[results,Tryz.results101,go_sem,l0,l1]) rfl ⟨rfl,?_⟩;have k0:Below w.heap.size w ((w.alloc (.cells #[.int .i64 n,.int .i64 d] 49)).alloc (.cells #[.int .i64 0,.int .i64 0] 49)):=(below_new _ _).alloc (by simp) _;have k1:=k0.trans (hb1.mono k0.size);exact Sm.of ((k1.setCell (p:=⟨w.heap.size+1,0,none⟩) (Nat.le_succ _) _).setCell (p:=⟨w.heap.size+1,1,none⟩) (Nat.le_succ _) _) hc hf
theorem kadd_any(b:Nat)(e:Int)(x y:Int×Int)(hx:vF x=true)(hy:vF y=true)(w:World)(hc:w.cell? ⟨b,0,none⟩=some (.int .i64 e))(hf:w.frozen? ⟨b,0,none⟩=false):
  Calls Tryz.prog 103 #[.pointer (some ⟨b,0,none⟩),.agg #[.int .i64 x.1,.int .i64 x.2],.agg #[.int .i64 y.1,.int .i64 y.2]] w fun z w'=>z=.returned (.agg #[.int .i64 (kAdd e x y).1.1,.int .i64 (kAdd e x y).1.2])∧Sm b (kAdd e x y).2 w w':=by
 obtain⟨an,ad⟩:=x;obtain⟨bn,bd⟩:=y;have hb:b<w.heap.size:=wl hc;obtain⟨P,hP⟩:=nm (addP an ad bn bd)
 have HC:Hid (∀w:World,Calls Tryz.prog 124 #[.agg #[.int .i64 an,.int .i64 ad],.agg #[.int .i64 bn,.int .i64 bd]] w fun e w'=>e=.returned (.tuple #[.agg #[.int .i64 P.1,.int .i64 P.2.1],.int .i64 P.2.2])∧Below w.heap.size w w'):=lh fun w=>by
  have:=add_all an ad bn bd hx hy w
  rwa [hP]at this
 have HR:Hid (kAdd e (an,ad) (bn,bd)=kp e (P.1,P.2.1,P.2.2)):=lh (by unfold kAdd;rw[hP]);rw[HR.out];clear hP hx hy;generalize hK:kp e (P.1,P.2.1,P.2.2)=K;have HK:=lh hK;clear hK
 go_enter Tryz.func103,Tryz.ntmps103
 go_wp2_with (first
  | (go_at_call 124;(with_reducible refine(HC.out _).mono ?_);rintro x w1 ⟨rfl,hb1⟩;have k0:Below w.heap.size w w1:=(((below_new w (.cells #[.int .i64 an,.int .i64 ad] 49)).alloc (by simp) (.cells #[.int .i64 bn,.int .i64 bd] 49)).alloc (by simp<;>omega) (.cells #[.int .i64 0,.int .i64 0] 49)).trans (hb1.mono (by simp<;>omega));have q0:w1.cell? ⟨w.heap.size+1+1,0,none⟩=some (.int .i64 0):=(hb1.cell (p:=⟨w.heap.size+1+1,0,none⟩) (by simp<;>omega)).trans (by simp[go_sem]);have q1:w1.cell? ⟨w.heap.size+1+1,1,none⟩=some (.int .i64 0):=(hb1.cell (p:=⟨w.heap.size+1+1,1,none⟩) (by simp<;>omega)).trans (by simp[go_sem]);have q2:w1.frozen? ⟨w.heap.size+1+1,0,none⟩=false:=(hb1.frozen (p:=⟨w.heap.size+1+1,0,none⟩) (by simp<;>omega)).trans (by simp[go_sem]);have q3:w1.frozen? ⟨w.heap.size+1+1,1,none⟩=false:=(hb1.frozen (p:=⟨w.heap.size+1+1,1,none⟩) (by simp<;>omega)).trans (by simp[go_sem]);have q4:w.heap.size+1+1<w1.heap.size:=wl q0)
  | (go_at_call 101;(with_reducible refine(qkeep_any b e P.1 P.2.1 P.2.2 _ ((k0.cell (p:=⟨b,0,none⟩) hb).trans hc) ((k0.frozen (p:=⟨b,0,none⟩) hb).trans hf)).mono ?_);rintro x w2 ⟨rfl,hs2⟩;rw[HK.out]at hs2⊢;have r0:=(hs2.other (p:=⟨w.heap.size+1+1,0,none⟩) q4 (by simp<;>omega)).trans q0;have r1:=(hs2.other (p:=⟨w.heap.size+1+1,1,none⟩) q4 (by simp<;>omega)).trans q1;have r2:=(hs2.otherF (p:=⟨w.heap.size+1+1,0,none⟩) q4 (by simp<;>omega)).trans q2;have r3:=(hs2.otherF (p:=⟨w.heap.size+1+1,1,none⟩) q4 (by simp<;>omega)).trans q3))
 have l0:=(two_cells (v0:=.int .i64 K.1.1) (v1:=.int .i64 K.1.2) r0 r1).1;have l1:=(two_cells (v0:=.int .i64 K.1.1) (v1:=.int .i64 K.1.2) r0 r1).2;refine bodyPost_ret (v:=.agg #[.int .i64 K.1.1,.int .i64 K.1.2]) (by simp[results,Tryz.results103,go_sem,l0,l1]) rfl ⟨rfl,?_⟩;exact((Sm.from k0 hb hs2).setCell (p:=⟨w.heap.size+1+1,0,none⟩) (by simp<;>omega) hb _).setCell (p:=⟨w.heap.size+1+1,1,none⟩) (by simp<;>omega) hb _
theorem ksub_any(b:Nat)(e:Int)(x y:Int×Int)(hx:vF x=true)(hy:vF y=true)(w:World)(hc:w.cell? ⟨b,0,none⟩=some (.int .i64 e))(hf:w.frozen? ⟨b,0,none⟩=false):
  Calls Tryz.prog 62 #[.pointer (some ⟨b,0,none⟩),.agg #[.int .i64 x.1,.int .i64 x.2],.agg #[.int .i64 y.1,.int .i64 y.2]] w fun z w'=>z=.returned (.agg #[.int .i64 (kSub e x y).1.1,.int .i64 (kSub e x y).1.2])∧Sm b (kSub e x y).2 w w':=by
 obtain⟨an,ad⟩:=x;obtain⟨bn,bd⟩:=y;have hb:b<w.heap.size:=wl hc;obtain⟨P,hP⟩:=nm (addP an ad (-bn) bd)
 have HC:Hid (∀w:World,Calls Tryz.prog 102 #[.agg #[.int .i64 an,.int .i64 ad],.agg #[.int .i64 bn,.int .i64 bd]] w fun e w'=>e=.returned (.tuple #[.agg #[.int .i64 P.1,.int .i64 P.2.1],.int .i64 P.2.2])∧Below w.heap.size w w'):=lh fun w=>by
  have:=sub_all an ad bn bd hx hy w
  rwa [hP]at this
 have HR:Hid (kSub e (an,ad) (bn,bd)=kp e (P.1,P.2.1,P.2.2)):=lh (by unfold kSub;rw[hP]);rw[HR.out];clear hP hx hy;generalize hK:kp e (P.1,P.2.1,P.2.2)=K;have HK:=lh hK;clear hK
 go_enter Tryz.func62,Tryz.ntmps62
 go_wp2_with (first
  | (go_at_call 102;(with_reducible refine(HC.out _).mono ?_);rintro x w1 ⟨rfl,hb1⟩;have k0:Below w.heap.size w w1:=(((below_new w (.cells #[.int .i64 an,.int .i64 ad] 49)).alloc (by simp) (.cells #[.int .i64 bn,.int .i64 bd] 49)).alloc (by simp<;>omega) (.cells #[.int .i64 0,.int .i64 0] 49)).trans (hb1.mono (by simp<;>omega));have q0:w1.cell? ⟨w.heap.size+1+1,0,none⟩=some (.int .i64 0):=(hb1.cell (p:=⟨w.heap.size+1+1,0,none⟩) (by simp<;>omega)).trans (by simp[go_sem]);have q1:w1.cell? ⟨w.heap.size+1+1,1,none⟩=some (.int .i64 0):=(hb1.cell (p:=⟨w.heap.size+1+1,1,none⟩) (by simp<;>omega)).trans (by simp[go_sem]);have q2:w1.frozen? ⟨w.heap.size+1+1,0,none⟩=false:=(hb1.frozen (p:=⟨w.heap.size+1+1,0,none⟩) (by simp<;>omega)).trans (by simp[go_sem]);have q3:w1.frozen? ⟨w.heap.size+1+1,1,none⟩=false:=(hb1.frozen (p:=⟨w.heap.size+1+1,1,none⟩) (by simp<;>omega)).trans (by simp[go_sem]);have q4:w.heap.size+1+1<w1.heap.size:=wl q0)
  | (go_at_call 101;(with_reducible refine(qkeep_any b e P.1 P.2.1 P.2.2 _ ((k0.cell (p:=⟨b,0,none⟩) hb).trans hc) ((k0.frozen (p:=⟨b,0,none⟩) hb).trans hf)).mono ?_);rintro x w2 ⟨rfl,hs2⟩;rw[HK.out]at hs2⊢;have r0:=(hs2.other (p:=⟨w.heap.size+1+1,0,none⟩) q4 (by simp<;>omega)).trans q0;have r1:=(hs2.other (p:=⟨w.heap.size+1+1,1,none⟩) q4 (by simp<;>omega)).trans q1;have r2:=(hs2.otherF (p:=⟨w.heap.size+1+1,0,none⟩) q4 (by simp<;>omega)).trans q2;have r3:=(hs2.otherF (p:=⟨w.heap.size+1+1,1,none⟩) q4 (by simp<;>omega)).trans q3))
 have l0:=(two_cells (v0:=.int .i64 K.1.1) (v1:=.int .i64 K.1.2) r0 r1).1;have l1:=(two_cells (v0:=.int .i64 K.1.1) (v1:=.int .i64 K.1.2) r0 r1).2;refine bodyPost_ret (v:=.agg #[.int .i64 K.1.1,.int .i64 K.1.2]) (by simp[results,Tryz.results62,go_sem,l0,l1]) rfl ⟨rfl,?_⟩;exact((Sm.from k0 hb hs2).setCell (p:=⟨w.heap.size+1+1,0,none⟩) (by simp<;>omega) hb _).setCell (p:=⟨w.heap.size+1+1,1,none⟩) (by simp<;>omega) hb _
theorem kmul_any(b:Nat)(e:Int)(x y:Int×Int)(hx:vF x=true)(hy:vF y=true)(w:World)(hc:w.cell? ⟨b,0,none⟩=some (.int .i64 e))(hf:w.frozen? ⟨b,0,none⟩=false):
  Calls Tryz.prog 104 #[.pointer (some ⟨b,0,none⟩),.agg #[.int .i64 x.1,.int .i64 x.2],.agg #[.int .i64 y.1,.int .i64 y.2]] w fun z w'=>z=.returned (.agg #[.int .i64 (kMul e x y).1.1,.int .i64 (kMul e x y).1.2])∧Sm b (kMul e x y).2 w w':=by
 obtain⟨an,ad⟩:=x;obtain⟨bn,bd⟩:=y;have hb:b<w.heap.size:=wl hc;obtain⟨P,hP⟩:=nm (mulP an ad bn bd)
 have HC:Hid (∀w:World,Calls Tryz.prog 75 #[.agg #[.int .i64 an,.int .i64 ad],.agg #[.int .i64 bn,.int .i64 bd]] w fun e w'=>e=.returned (.tuple #[.agg #[.int .i64 P.1,.int .i64 P.2.1],.int .i64 P.2.2])∧Below w.heap.size w w'):=lh fun w=>by
  have:=mul_any an ad bn bd hx hy w
  rwa [hP]at this
 have HR:Hid (kMul e (an,ad) (bn,bd)=kp e (P.1,P.2.1,P.2.2)):=lh (by unfold kMul;rw[hP]);rw[HR.out];clear hP hx hy;generalize hK:kp e (P.1,P.2.1,P.2.2)=K;have HK:=lh hK;clear hK
 go_enter Tryz.func104,Tryz.ntmps104
 go_wp2_with (first
  | (go_at_call 75;(with_reducible refine(HC.out _).mono ?_);rintro x w1 ⟨rfl,hb1⟩;have k0:Below w.heap.size w w1:=(((below_new w (.cells #[.int .i64 an,.int .i64 ad] 49)).alloc (by simp) (.cells #[.int .i64 bn,.int .i64 bd] 49)).alloc (by simp<;>omega) (.cells #[.int .i64 0,.int .i64 0] 49)).trans (hb1.mono (by simp<;>omega));have q0:w1.cell? ⟨w.heap.size+1+1,0,none⟩=some (.int .i64 0):=(hb1.cell (p:=⟨w.heap.size+1+1,0,none⟩) (by simp<;>omega)).trans (by simp[go_sem]);have q1:w1.cell? ⟨w.heap.size+1+1,1,none⟩=some (.int .i64 0):=(hb1.cell (p:=⟨w.heap.size+1+1,1,none⟩) (by simp<;>omega)).trans (by simp[go_sem]);have q2:w1.frozen? ⟨w.heap.size+1+1,0,none⟩=false:=(hb1.frozen (p:=⟨w.heap.size+1+1,0,none⟩) (by simp<;>omega)).trans (by simp[go_sem]);have q3:w1.frozen? ⟨w.heap.size+1+1,1,none⟩=false:=(hb1.frozen (p:=⟨w.heap.size+1+1,1,none⟩) (by simp<;>omega)).trans (by simp[go_sem]);have q4:w.heap.size+1+1<w1.heap.size:=wl q0)
  | (go_at_call 101;(with_reducible refine(qkeep_any b e P.1 P.2.1 P.2.2 _ ((k0.cell (p:=⟨b,0,none⟩) hb).trans hc) ((k0.frozen (p:=⟨b,0,none⟩) hb).trans hf)).mono ?_);rintro x w2 ⟨rfl,hs2⟩;rw[HK.out]at hs2⊢;have r0:=(hs2.other (p:=⟨w.heap.size+1+1,0,none⟩) q4 (by simp<;>omega)).trans q0;have r1:=(hs2.other (p:=⟨w.heap.size+1+1,1,none⟩) q4 (by simp<;>omega)).trans q1;have r2:=(hs2.otherF (p:=⟨w.heap.size+1+1,0,none⟩) q4 (by simp<;>omega)).trans q2;have r3:=(hs2.otherF (p:=⟨w.heap.size+1+1,1,none⟩) q4 (by simp<;>omega)).trans q3))
 have l0:=(two_cells (v0:=.int .i64 K.1.1) (v1:=.int .i64 K.1.2) r0 r1).1;have l1:=(two_cells (v0:=.int .i64 K.1.1) (v1:=.int .i64 K.1.2) r0 r1).2;refine bodyPost_ret (v:=.agg #[.int .i64 K.1.1,.int .i64 K.1.2]) (by simp[results,Tryz.results104,go_sem,l0,l1]) rfl ⟨rfl,?_⟩;exact((Sm.from k0 hb hs2).setCell (p:=⟨w.heap.size+1+1,0,none⟩) (by simp<;>omega) hb _).setCell (p:=⟨w.heap.size+1+1,1,none⟩) (by simp<;>omega) hb _
theorem qvalue_any(b:Nat)(e:Int)(F A B C u:Int×Int)(vA:vF A=true)(vB:vF B=true)(vC:vF C=true)(vu:vF u=true)(w:World)(hc:w.cell? ⟨b,0,none⟩=some (.int .i64 e))(hf:w.frozen? ⟨b,0,none⟩=false):
  Calls Tryz.prog 63 #[.pointer (some ⟨b,0,none⟩),.agg #[.int .i64 F.1,.int .i64 F.2,.int .i64 A.1,.int .i64 A.2,.int .i64 B.1,.int .i64 B.2,.int .i64 C.1,.int .i64 C.2],.agg #[.int .i64 u.1,.int .i64 u.2]] w fun z w'=>z=.returned (.agg #[.int .i64 (kVal e A B C u).1.1,.int .i64 (kVal e A B C u).1.2])∧Sm b (kVal e A B C u).2 w w':=by
 have hb:b<w.heap.size:=wl hc;obtain⟨K1,hK1⟩:=nm (kMul e C u);have vK1:vF K1.1=true:=by rw[←hK1];exact kMul_valid vC vu
 have HK1:Hid (∀w:World,w.cell? ⟨b,0,none⟩=some (.int .i64 e)→w.frozen? ⟨b,0,none⟩=false→Calls Tryz.prog 104 #[.pointer (some ⟨b,0,none⟩),.agg #[.int .i64 C.1,.int .i64 C.2],.agg #[.int .i64 u.1,.int .i64 u.2]] w fun z w'=>z=.returned (.agg #[.int .i64 K1.1.1,.int .i64 K1.1.2])∧Sm b K1.2 w w'):=lh fun w h0 h1=>by
  have:=kmul_any b e C u vC vu w h0 h1
  rwa [hK1]at this
 obtain⟨K2,hK2⟩:=nm (kAdd K1.2 B K1.1);have vK2:vF K2.1=true:=by rw[←hK2];exact kAdd_valid vB vK1
 have HK2:Hid (∀w:World,w.cell? ⟨b,0,none⟩=some (.int .i64 K1.2)→w.frozen? ⟨b,0,none⟩=false→Calls Tryz.prog 103 #[.pointer (some ⟨b,0,none⟩),.agg #[.int .i64 B.1,.int .i64 B.2],.agg #[.int .i64 K1.1.1,.int .i64 K1.1.2]] w fun z w'=>z=.returned (.agg #[.int .i64 K2.1.1,.int .i64 K2.1.2])∧Sm b K2.2 w w'):=lh fun w h0 h1=>by
  have:=kadd_any b K1.2 B K1.1 vB vK1 w h0 h1
  rwa [hK2]at this
 obtain⟨K3,hK3⟩:=nm (kMul K2.2 K2.1 u);have vK3:vF K3.1=true:=by rw[←hK3];exact kMul_valid vK2 vu
 have HK3:Hid (∀w:World,w.cell? ⟨b,0,none⟩=some (.int .i64 K2.2)→w.frozen? ⟨b,0,none⟩=false→Calls Tryz.prog 104 #[.pointer (some ⟨b,0,none⟩),.agg #[.int .i64 K2.1.1,.int .i64 K2.1.2],.agg #[.int .i64 u.1,.int .i64 u.2]] w fun z w'=>z=.returned (.agg #[.int .i64 K3.1.1,.int .i64 K3.1.2])∧Sm b K3.2 w w'):=lh fun w h0 h1=>by
  have:=kmul_any b K2.2 K2.1 u vK2 vu w h0 h1
  rwa [hK3]at this
 obtain⟨K4,hK4⟩:=nm (kAdd K3.2 A K3.1);have vK4:vF K4.1=true:=by rw[←hK4];exact kAdd_valid vA vK3
 have HK4:Hid (∀w:World,w.cell? ⟨b,0,none⟩=some (.int .i64 K3.2)→w.frozen? ⟨b,0,none⟩=false→Calls Tryz.prog 103 #[.pointer (some ⟨b,0,none⟩),.agg #[.int .i64 A.1,.int .i64 A.2],.agg #[.int .i64 K3.1.1,.int .i64 K3.1.2]] w fun z w'=>z=.returned (.agg #[.int .i64 K4.1.1,.int .i64 K4.1.2])∧Sm b K4.2 w w'):=lh fun w h0 h1=>by
  have:=kadd_any b K3.2 A K3.1 vA vK3 w h0 h1
  rwa [hK4]at this
 have HR:Hid (kVal e A B C u=K4):=lh (by
  unfold kVal;simp only[hK1,hK2,hK3,hK4])
 rw[HR.out];clear hK1 vK1 hK2 vK2 hK3 vK3 hK4 vK4 vB vC vu vA
 go_enter Tryz.func63,Tryz.ntmps63
 go_upto_region 1 with (fail)
 have hW0:Below w.heap.size w (((w.alloc (.cells #[.int .i64 F.1,.int .i64 F.2,.int .i64 A.1,.int .i64 A.2,.int .i64 B.1,.int .i64 B.2,.int .i64 C.1,.int .i64 C.2] 122)).alloc (.cells #[.int .i64 u.1,.int .i64 u.2] 49)).alloc (.cells #[.int .i64 0,.int .i64 0] 49)):=((below_new _ _).alloc (by simp) _).alloc (by simp<;>omega) _;have hz:w.heap.size+1+1<(((w.alloc (.cells #[.int .i64 F.1,.int .i64 F.2,.int .i64 A.1,.int .i64 A.2,.int .i64 B.1,.int .i64 B.2,.int .i64 C.1,.int .i64 C.2] 122)).alloc (.cells #[.int .i64 u.1,.int .i64 u.2] 49)).alloc (.cells #[.int .i64 0,.int .i64 0] 49)).heap.size:=by simp
 have k0:(((w.alloc (.cells #[.int .i64 F.1,.int .i64 F.2,.int .i64 A.1,.int .i64 A.2,.int .i64 B.1,.int .i64 B.2,.int .i64 C.1,.int .i64 C.2] 122)).alloc (.cells #[.int .i64 u.1,.int .i64 u.2] 49)).alloc (.cells #[.int .i64 0,.int .i64 0] 49)).cell? ⟨w.heap.size,2,none⟩=some (.int .i64 A.1):=by simp[go_sem,World.cell?_alloc_past]
 have k1:(((w.alloc (.cells #[.int .i64 F.1,.int .i64 F.2,.int .i64 A.1,.int .i64 A.2,.int .i64 B.1,.int .i64 B.2,.int .i64 C.1,.int .i64 C.2] 122)).alloc (.cells #[.int .i64 u.1,.int .i64 u.2] 49)).alloc (.cells #[.int .i64 0,.int .i64 0] 49)).cell? ⟨w.heap.size,3,none⟩=some (.int .i64 A.2):=by simp[go_sem,World.cell?_alloc_past]
 have k2:(((w.alloc (.cells #[.int .i64 F.1,.int .i64 F.2,.int .i64 A.1,.int .i64 A.2,.int .i64 B.1,.int .i64 B.2,.int .i64 C.1,.int .i64 C.2] 122)).alloc (.cells #[.int .i64 u.1,.int .i64 u.2] 49)).alloc (.cells #[.int .i64 0,.int .i64 0] 49)).cell? ⟨w.heap.size,4,none⟩=some (.int .i64 B.1):=by simp[go_sem,World.cell?_alloc_past]
 have k3:(((w.alloc (.cells #[.int .i64 F.1,.int .i64 F.2,.int .i64 A.1,.int .i64 A.2,.int .i64 B.1,.int .i64 B.2,.int .i64 C.1,.int .i64 C.2] 122)).alloc (.cells #[.int .i64 u.1,.int .i64 u.2] 49)).alloc (.cells #[.int .i64 0,.int .i64 0] 49)).cell? ⟨w.heap.size,5,none⟩=some (.int .i64 B.2):=by simp[go_sem,World.cell?_alloc_past]
 have k4:(((w.alloc (.cells #[.int .i64 F.1,.int .i64 F.2,.int .i64 A.1,.int .i64 A.2,.int .i64 B.1,.int .i64 B.2,.int .i64 C.1,.int .i64 C.2] 122)).alloc (.cells #[.int .i64 u.1,.int .i64 u.2] 49)).alloc (.cells #[.int .i64 0,.int .i64 0] 49)).cell? ⟨w.heap.size,6,none⟩=some (.int .i64 C.1):=by simp[go_sem,World.cell?_alloc_past]
 have k5:(((w.alloc (.cells #[.int .i64 F.1,.int .i64 F.2,.int .i64 A.1,.int .i64 A.2,.int .i64 B.1,.int .i64 B.2,.int .i64 C.1,.int .i64 C.2] 122)).alloc (.cells #[.int .i64 u.1,.int .i64 u.2] 49)).alloc (.cells #[.int .i64 0,.int .i64 0] 49)).cell? ⟨w.heap.size,7,none⟩=some (.int .i64 C.2):=by simp[go_sem,World.cell?_alloc_past]
 have k6:(((w.alloc (.cells #[.int .i64 F.1,.int .i64 F.2,.int .i64 A.1,.int .i64 A.2,.int .i64 B.1,.int .i64 B.2,.int .i64 C.1,.int .i64 C.2] 122)).alloc (.cells #[.int .i64 u.1,.int .i64 u.2] 49)).alloc (.cells #[.int .i64 0,.int .i64 0] 49)).cell? ⟨w.heap.size+1,0,none⟩=some (.int .i64 u.1):=by simp[go_sem]
 have k7:(((w.alloc (.cells #[.int .i64 F.1,.int .i64 F.2,.int .i64 A.1,.int .i64 A.2,.int .i64 B.1,.int .i64 B.2,.int .i64 C.1,.int .i64 C.2] 122)).alloc (.cells #[.int .i64 u.1,.int .i64 u.2] 49)).alloc (.cells #[.int .i64 0,.int .i64 0] 49)).cell? ⟨w.heap.size+1,1,none⟩=some (.int .i64 u.2):=by simp[go_sem]
 have k8:(((w.alloc (.cells #[.int .i64 F.1,.int .i64 F.2,.int .i64 A.1,.int .i64 A.2,.int .i64 B.1,.int .i64 B.2,.int .i64 C.1,.int .i64 C.2] 122)).alloc (.cells #[.int .i64 u.1,.int .i64 u.2] 49)).alloc (.cells #[.int .i64 0,.int .i64 0] 49)).cell? ⟨w.heap.size+1+1,0,none⟩=some (.int .i64 0):=by simp[go_sem]
 have k9:(((w.alloc (.cells #[.int .i64 F.1,.int .i64 F.2,.int .i64 A.1,.int .i64 A.2,.int .i64 B.1,.int .i64 B.2,.int .i64 C.1,.int .i64 C.2] 122)).alloc (.cells #[.int .i64 u.1,.int .i64 u.2] 49)).alloc (.cells #[.int .i64 0,.int .i64 0] 49)).cell? ⟨w.heap.size+1+1,1,none⟩=some (.int .i64 0):=by simp[go_sem]
 have f0:(((w.alloc (.cells #[.int .i64 F.1,.int .i64 F.2,.int .i64 A.1,.int .i64 A.2,.int .i64 B.1,.int .i64 B.2,.int .i64 C.1,.int .i64 C.2] 122)).alloc (.cells #[.int .i64 u.1,.int .i64 u.2] 49)).alloc (.cells #[.int .i64 0,.int .i64 0] 49)).frozen? ⟨w.heap.size+1+1,0,none⟩=false:=by simp[go_sem]
 have f1:(((w.alloc (.cells #[.int .i64 F.1,.int .i64 F.2,.int .i64 A.1,.int .i64 A.2,.int .i64 B.1,.int .i64 B.2,.int .i64 C.1,.int .i64 C.2] 122)).alloc (.cells #[.int .i64 u.1,.int .i64 u.2] 49)).alloc (.cells #[.int .i64 0,.int .i64 0] 49)).frozen? ⟨w.heap.size+1+1,1,none⟩=false:=by simp[go_sem]
 have hs0:=Sm.of hW0 hc hf;have hc0:=hs0.cell;have hf0:=hs0.free;generalize (((w.alloc (.cells #[.int .i64 F.1,.int .i64 F.2,.int .i64 A.1,.int .i64 A.2,.int .i64 B.1,.int .i64 B.2,.int .i64 C.1,.int .i64 C.2] 122)).alloc (.cells #[.int .i64 u.1,.int .i64 u.2] 49)).alloc (.cells #[.int .i64 0,.int .i64 0] 49))=W0 at *
 have HX:Hid (∀x w',Sm b x W0 w'→w.heap.size≤w'.heap.size∧w'.cell? ⟨w.heap.size,2,none⟩=some (.int .i64 A.1)∧w'.cell? ⟨w.heap.size,3,none⟩=some (.int .i64 A.2)∧w'.cell? ⟨w.heap.size,4,none⟩=some (.int .i64 B.1)∧w'.cell? ⟨w.heap.size,5,none⟩=some (.int .i64 B.2)∧w'.cell? ⟨w.heap.size,6,none⟩=some (.int .i64 C.1)∧w'.cell? ⟨w.heap.size,7,none⟩=some (.int .i64 C.2)∧w'.cell? ⟨w.heap.size+1,0,none⟩=some (.int .i64 u.1)∧w'.cell? ⟨w.heap.size+1,1,none⟩=some (.int .i64 u.2)):=lh fun x w' h=>
  ⟨Nat.le_trans hW0.size h.size,(h.other (p:=⟨w.heap.size,2,none⟩) (by simp<;>omega) (by simp<;>omega)).trans k0,(h.other (p:=⟨w.heap.size,3,none⟩) (by simp<;>omega) (by simp<;>omega)).trans k1,(h.other (p:=⟨w.heap.size,4,none⟩) (by simp<;>omega) (by simp<;>omega)).trans k2,(h.other (p:=⟨w.heap.size,5,none⟩) (by simp<;>omega) (by simp<;>omega)).trans k3,(h.other (p:=⟨w.heap.size,6,none⟩) (by simp<;>omega) (by simp<;>omega)).trans k4,(h.other (p:=⟨w.heap.size,7,none⟩) (by simp<;>omega) (by simp<;>omega)).trans k5,(h.other (p:=⟨w.heap.size+1,0,none⟩) (by simp<;>omega) (by simp<;>omega)).trans k6,(h.other (p:=⟨w.heap.size+1,1,none⟩) (by simp<;>omega) (by simp<;>omega)).trans k7⟩
 have HY:Hid (∀x w',Sm b x W0 w'→w'.cell? ⟨w.heap.size+1+1,0,none⟩=some (.int .i64 0)∧w'.cell? ⟨w.heap.size+1+1,1,none⟩=some (.int .i64 0)∧w'.frozen? ⟨w.heap.size+1+1,0,none⟩=false∧w'.frozen? ⟨w.heap.size+1+1,1,none⟩=false):=lh fun x w' h=>
  ⟨(h.other (p:=⟨w.heap.size+1+1,0,none⟩) (by simp<;>omega) (by simp<;>omega)).trans k8,(h.other (p:=⟨w.heap.size+1+1,1,none⟩) (by simp<;>omega) (by simp<;>omega)).trans k9,(h.otherF (p:=⟨w.heap.size+1+1,0,none⟩) (by simp<;>omega) (by simp<;>omega)).trans f0,(h.otherF (p:=⟨w.heap.size+1+1,1,none⟩) (by simp<;>omega) (by simp<;>omega)).trans f1⟩
 have hbz:b<W0.heap.size:=by omega
 have HZ:Hid (∀x w',Sm b x W0 w'→∀v0 v1,(fun w'=>w.heap.size≤w'.heap.size∧w'.cell? ⟨w.heap.size,2,none⟩=some (.int .i64 A.1)∧w'.cell? ⟨w.heap.size,3,none⟩=some (.int .i64 A.2)∧w'.cell? ⟨w.heap.size,4,none⟩=some (.int .i64 B.1)∧w'.cell? ⟨w.heap.size,5,none⟩=some (.int .i64 B.2)∧w'.cell? ⟨w.heap.size,6,none⟩=some (.int .i64 C.1)∧w'.cell? ⟨w.heap.size,7,none⟩=some (.int .i64 C.2)∧w'.cell? ⟨w.heap.size+1,0,none⟩=some (.int .i64 u.1)∧w'.cell? ⟨w.heap.size+1,1,none⟩=some (.int .i64 u.2)) ((w'.setCell ⟨w.heap.size+1+1,0,none⟩ v0).setCell ⟨w.heap.size+1+1,1,none⟩ v1)):=lh fun x w' h v0 v1=>by
  obtain⟨h0,h1,h2,h3,h4,h5,h6,h7,h8⟩:=HX.out x w' h;refine⟨by simpa using h0,?_,?_,?_,?_,?_,?_,?_,?_⟩
  all_goals (refine(two_other (by omega) _ _ _).trans ?_;assumption)
 have hsd:Sm b e W0 W0.drew:=(Sm.refl hc0 hf0).drew;clear hc hf hc0 hf0 hs0 f0 f1 k0 k1 k2 k3 k4 k5 k6 k7 k8 k9;refine wp_region_held_drew (S:=(fun w'=>w.heap.size≤w'.heap.size∧w'.cell? ⟨w.heap.size,2,none⟩=some (.int .i64 A.1)∧w'.cell? ⟨w.heap.size,3,none⟩=some (.int .i64 A.2)∧w'.cell? ⟨w.heap.size,4,none⟩=some (.int .i64 B.1)∧w'.cell? ⟨w.heap.size,5,none⟩=some (.int .i64 B.2)∧w'.cell? ⟨w.heap.size,6,none⟩=some (.int .i64 C.1)∧w'.cell? ⟨w.heap.size,7,none⟩=some (.int .i64 C.2)∧w'.cell? ⟨w.heap.size+1,0,none⟩=some (.int .i64 u.1)∧w'.cell? ⟨w.heap.size+1,1,none⟩=some (.int .i64 u.2))) (by kernel_rfl) (HX.out _ _ hsd) (fun hHeld=>?_);refine tkB 0 ?_;simp only[Act.put,s_1,s_2,s_3,s_4,s_6];refine tkB 1 ?_;simp only[Act.put,s_1,s_2,s_3,s_4,s_5,s_6];refine tkB 2 ?_;simp only[Act.put,s_1,s_2,s_3,s_4,s_5,s_6];refine tkB 3 ?_;simp only[Act.put,s_1,s_2,s_3,s_4,s_5,s_6];refine tkB 4 ?_;simp only[Act.put,s_1,s_2,s_3,s_4,s_5,s_6];refine tkB 5 ?_;simp only[Act.put,s_1,s_2,s_3,s_4,s_5,s_6];refine tkB 6 ?_;simp only[Act.put,s_1,s_2,s_3,s_4,s_5,s_6];refine tkB 7 ?_;simp only[Act.put,s_1,s_2,s_3,s_4,s_5,s_6];refine tkB 8 ?_;simp only[Act.put,s_1,s_2,s_3,s_4,s_5,s_6];refine tkB 9 ?_;simp only[Act.put,s_1,s_2,s_3,s_4,s_5,s_6];refine tkB 10 ?_;simp only[Act.put,s_1,s_2,s_3,s_4,s_5,s_6];refine tkB 13 ?_;simp only[Act.put,s_1,s_2,s_3,s_4,s_5,s_6];refine r1 11 (fun K hK=>?_)
 try simp only[s_4,s_5,s_6]
 go_simp
 (go_at_call 104;go_split_ands;(with_reducible refine(HK1.out _ hsd.cell hsd.free).mono ?_);rintro z w1 ⟨rfl,ht1⟩;have hs1:=hsd.trans ht1)
 go_wp2_with fail
 refine hK.out _ _ (HX.out _ _ hs1) (fun hHeld=>?_);clear hK K
 try simp only[Act.put,s_1,s_2,s_3,s_4,s_5,s_6]
 refine r1 12 (fun K hK=>?_)
 try simp only[s_4,s_5,s_6]
 go_simp
 (go_at_call 103;go_split_ands;(with_reducible refine(HK2.out _ hs1.cell hs1.free).mono ?_);rintro z w2 ⟨rfl,ht2⟩;have hs2:=hs1.trans ht2)
 go_wp2_with fail
 refine hK.out _ _ (HX.out _ _ hs2) (fun hHeld=>?_);clear hK K
 try simp only[Act.put,s_1,s_2,s_3,s_4,s_5,s_6]
 refine r1 14 (fun K hK=>?_)
 try simp only[s_4,s_5,s_6]
 go_simp
 (go_at_call 104;go_split_ands;(with_reducible refine(HK3.out _ hs2.cell hs2.free).mono ?_);rintro z w3 ⟨rfl,ht3⟩;have hs3:=hs2.trans ht3)
 go_wp2_with fail
 refine hK.out _ _ (HX.out _ _ hs3) (fun hHeld=>?_);clear hK K
 try simp only[Act.put,s_1,s_2,s_3,s_4,s_5,s_6]
 refine r1 15 (fun K hK=>?_)
 try simp only[s_4,s_5,s_6]
 go_simp
 (go_at_call 103;go_split_ands;(with_reducible refine(HK4.out _ hs3.cell hs3.free).mono ?_);rintro z w4 ⟨rfl,ht4⟩;have hs4:=hs3.trans ht4)
 go_wp2_with fail
 refine hK.out _ _ (HX.out _ _ hs4) (fun hHeld=>?_);clear hK K
 try simp only[Act.put,s_1,s_2,s_3,s_4,s_5,s_6]
 refine r1 16 (fun K hK=>?_);go_split_ands;obtain⟨g0,g1,g2,g3⟩:=HY.out _ _ hs4
 try simp only[s_4,s_5,s_6]
 go_wp2_with fail
 skip
 refine hK.out _ _ (HZ.out _ _ hs4 _ _) (fun hHeld=>?_);clear hK K
 try simp only[Act.put,s_1,s_2,s_3,s_4,s_5,s_6]
 refine wpAnyH_done (by kernel_rfl) ?_ _
 go_wp2_with fail
 have l0:=(two_cells (v0:=.int .i64 K4.1.1) (v1:=.int .i64 K4.1.2) g0 g1).1;have l1:=(two_cells (v0:=.int .i64 K4.1.1) (v1:=.int .i64 K4.1.2) g0 g1).2;refine bodyPost_ret (v:=.agg #[.int .i64 K4.1.1,.int .i64 K4.1.2]) (by simp[results,Tryz.results63,go_sem,l0,l1]) rfl ⟨rfl,?_⟩;exact((Sm.from hW0 hb hs4).setCell (p:=⟨w.heap.size+1+1,0,none⟩) (by simp<;>omega) hb _).setCell (p:=⟨w.heap.size+1+1,1,none⟩) (by simp<;>omega) hb _
theorem qslope_any(b:Nat)(e:Int)(F A B C u:Int×Int)(vB:vF B=true)(vC:vF C=true)(vu:vF u=true)(w:World)(hc:w.cell? ⟨b,0,none⟩=some (.int .i64 e))(hf:w.frozen? ⟨b,0,none⟩=false):
  Calls Tryz.prog 64 #[.pointer (some ⟨b,0,none⟩),.agg #[.int .i64 F.1,.int .i64 F.2,.int .i64 A.1,.int .i64 A.2,.int .i64 B.1,.int .i64 B.2,.int .i64 C.1,.int .i64 C.2],.agg #[.int .i64 u.1,.int .i64 u.2]] w fun z w'=>z=.returned (.agg #[.int .i64 (kSlope e B C u).1.1,.int .i64 (kSlope e B C u).1.2])∧Sm b (kSlope e B C u).2 w w':=by
 have hb:b<w.heap.size:=wl hc;obtain⟨K1,hK1⟩:=nm (kMul e C u);have vK1:vF K1.1=true:=by rw[←hK1];exact kMul_valid vC vu
 have HK1:Hid (∀w:World,w.cell? ⟨b,0,none⟩=some (.int .i64 e)→w.frozen? ⟨b,0,none⟩=false→Calls Tryz.prog 104 #[.pointer (some ⟨b,0,none⟩),.agg #[.int .i64 C.1,.int .i64 C.2],.agg #[.int .i64 u.1,.int .i64 u.2]] w fun z w'=>z=.returned (.agg #[.int .i64 K1.1.1,.int .i64 K1.1.2])∧Sm b K1.2 w w'):=lh fun w h0 h1=>by
  have:=kmul_any b e C u vC vu w h0 h1
  rwa [hK1]at this
 obtain⟨K2,hK2⟩:=nm (kMul K1.2 (2,1) K1.1);have vK2:vF K2.1=true:=by rw[←hK2];exact kMul_valid vF_two vK1
 have HK2:Hid (∀w:World,w.cell? ⟨b,0,none⟩=some (.int .i64 K1.2)→w.frozen? ⟨b,0,none⟩=false→Calls Tryz.prog 104 #[.pointer (some ⟨b,0,none⟩),.agg #[.int .i64 (2,1).1,.int .i64 (2,1).2],.agg #[.int .i64 K1.1.1,.int .i64 K1.1.2]] w fun z w'=>z=.returned (.agg #[.int .i64 K2.1.1,.int .i64 K2.1.2])∧Sm b K2.2 w w'):=lh fun w h0 h1=>by
  have:=kmul_any b K1.2 (2,1) K1.1 vF_two vK1 w h0 h1
  rwa [hK2]at this
 obtain⟨K3,hK3⟩:=nm (kAdd K2.2 B K2.1);have vK3:vF K3.1=true:=by rw[←hK3];exact kAdd_valid vB vK2
 have HK3:Hid (∀w:World,w.cell? ⟨b,0,none⟩=some (.int .i64 K2.2)→w.frozen? ⟨b,0,none⟩=false→Calls Tryz.prog 103 #[.pointer (some ⟨b,0,none⟩),.agg #[.int .i64 B.1,.int .i64 B.2],.agg #[.int .i64 K2.1.1,.int .i64 K2.1.2]] w fun z w'=>z=.returned (.agg #[.int .i64 K3.1.1,.int .i64 K3.1.2])∧Sm b K3.2 w w'):=lh fun w h0 h1=>by
  have:=kadd_any b K2.2 B K2.1 vB vK2 w h0 h1
  rwa [hK3]at this
 have HR:Hid (kSlope e B C u=K3):=lh (by
  unfold kSlope;simp only[hK1,hK2,hK3])
 rw[HR.out];clear hK1 vK1 hK2 vK2 hK3 vK3 vB vC vu
 go_enter Tryz.func64,Tryz.ntmps64
 go_upto_region 1 with (fail)
 have hW0:Below w.heap.size w (((w.alloc (.cells #[.int .i64 F.1,.int .i64 F.2,.int .i64 A.1,.int .i64 A.2,.int .i64 B.1,.int .i64 B.2,.int .i64 C.1,.int .i64 C.2] 122)).alloc (.cells #[.int .i64 u.1,.int .i64 u.2] 49)).alloc (.cells #[.int .i64 0,.int .i64 0] 49)):=((below_new _ _).alloc (by simp) _).alloc (by simp<;>omega) _;have hz:w.heap.size+1+1<(((w.alloc (.cells #[.int .i64 F.1,.int .i64 F.2,.int .i64 A.1,.int .i64 A.2,.int .i64 B.1,.int .i64 B.2,.int .i64 C.1,.int .i64 C.2] 122)).alloc (.cells #[.int .i64 u.1,.int .i64 u.2] 49)).alloc (.cells #[.int .i64 0,.int .i64 0] 49)).heap.size:=by simp
 have k0:(((w.alloc (.cells #[.int .i64 F.1,.int .i64 F.2,.int .i64 A.1,.int .i64 A.2,.int .i64 B.1,.int .i64 B.2,.int .i64 C.1,.int .i64 C.2] 122)).alloc (.cells #[.int .i64 u.1,.int .i64 u.2] 49)).alloc (.cells #[.int .i64 0,.int .i64 0] 49)).cell? ⟨w.heap.size,2,none⟩=some (.int .i64 A.1):=by simp[go_sem,World.cell?_alloc_past]
 have k1:(((w.alloc (.cells #[.int .i64 F.1,.int .i64 F.2,.int .i64 A.1,.int .i64 A.2,.int .i64 B.1,.int .i64 B.2,.int .i64 C.1,.int .i64 C.2] 122)).alloc (.cells #[.int .i64 u.1,.int .i64 u.2] 49)).alloc (.cells #[.int .i64 0,.int .i64 0] 49)).cell? ⟨w.heap.size,3,none⟩=some (.int .i64 A.2):=by simp[go_sem,World.cell?_alloc_past]
 have k2:(((w.alloc (.cells #[.int .i64 F.1,.int .i64 F.2,.int .i64 A.1,.int .i64 A.2,.int .i64 B.1,.int .i64 B.2,.int .i64 C.1,.int .i64 C.2] 122)).alloc (.cells #[.int .i64 u.1,.int .i64 u.2] 49)).alloc (.cells #[.int .i64 0,.int .i64 0] 49)).cell? ⟨w.heap.size,4,none⟩=some (.int .i64 B.1):=by simp[go_sem,World.cell?_alloc_past]
 have k3:(((w.alloc (.cells #[.int .i64 F.1,.int .i64 F.2,.int .i64 A.1,.int .i64 A.2,.int .i64 B.1,.int .i64 B.2,.int .i64 C.1,.int .i64 C.2] 122)).alloc (.cells #[.int .i64 u.1,.int .i64 u.2] 49)).alloc (.cells #[.int .i64 0,.int .i64 0] 49)).cell? ⟨w.heap.size,5,none⟩=some (.int .i64 B.2):=by simp[go_sem,World.cell?_alloc_past]
 have k4:(((w.alloc (.cells #[.int .i64 F.1,.int .i64 F.2,.int .i64 A.1,.int .i64 A.2,.int .i64 B.1,.int .i64 B.2,.int .i64 C.1,.int .i64 C.2] 122)).alloc (.cells #[.int .i64 u.1,.int .i64 u.2] 49)).alloc (.cells #[.int .i64 0,.int .i64 0] 49)).cell? ⟨w.heap.size,6,none⟩=some (.int .i64 C.1):=by simp[go_sem,World.cell?_alloc_past]
 have k5:(((w.alloc (.cells #[.int .i64 F.1,.int .i64 F.2,.int .i64 A.1,.int .i64 A.2,.int .i64 B.1,.int .i64 B.2,.int .i64 C.1,.int .i64 C.2] 122)).alloc (.cells #[.int .i64 u.1,.int .i64 u.2] 49)).alloc (.cells #[.int .i64 0,.int .i64 0] 49)).cell? ⟨w.heap.size,7,none⟩=some (.int .i64 C.2):=by simp[go_sem,World.cell?_alloc_past]
 have k6:(((w.alloc (.cells #[.int .i64 F.1,.int .i64 F.2,.int .i64 A.1,.int .i64 A.2,.int .i64 B.1,.int .i64 B.2,.int .i64 C.1,.int .i64 C.2] 122)).alloc (.cells #[.int .i64 u.1,.int .i64 u.2] 49)).alloc (.cells #[.int .i64 0,.int .i64 0] 49)).cell? ⟨w.heap.size+1,0,none⟩=some (.int .i64 u.1):=by simp[go_sem]
 have k7:(((w.alloc (.cells #[.int .i64 F.1,.int .i64 F.2,.int .i64 A.1,.int .i64 A.2,.int .i64 B.1,.int .i64 B.2,.int .i64 C.1,.int .i64 C.2] 122)).alloc (.cells #[.int .i64 u.1,.int .i64 u.2] 49)).alloc (.cells #[.int .i64 0,.int .i64 0] 49)).cell? ⟨w.heap.size+1,1,none⟩=some (.int .i64 u.2):=by simp[go_sem]
 have k8:(((w.alloc (.cells #[.int .i64 F.1,.int .i64 F.2,.int .i64 A.1,.int .i64 A.2,.int .i64 B.1,.int .i64 B.2,.int .i64 C.1,.int .i64 C.2] 122)).alloc (.cells #[.int .i64 u.1,.int .i64 u.2] 49)).alloc (.cells #[.int .i64 0,.int .i64 0] 49)).cell? ⟨w.heap.size+1+1,0,none⟩=some (.int .i64 0):=by simp[go_sem]
 have k9:(((w.alloc (.cells #[.int .i64 F.1,.int .i64 F.2,.int .i64 A.1,.int .i64 A.2,.int .i64 B.1,.int .i64 B.2,.int .i64 C.1,.int .i64 C.2] 122)).alloc (.cells #[.int .i64 u.1,.int .i64 u.2] 49)).alloc (.cells #[.int .i64 0,.int .i64 0] 49)).cell? ⟨w.heap.size+1+1,1,none⟩=some (.int .i64 0):=by simp[go_sem]
 have f0:(((w.alloc (.cells #[.int .i64 F.1,.int .i64 F.2,.int .i64 A.1,.int .i64 A.2,.int .i64 B.1,.int .i64 B.2,.int .i64 C.1,.int .i64 C.2] 122)).alloc (.cells #[.int .i64 u.1,.int .i64 u.2] 49)).alloc (.cells #[.int .i64 0,.int .i64 0] 49)).frozen? ⟨w.heap.size+1+1,0,none⟩=false:=by simp[go_sem]
 have f1:(((w.alloc (.cells #[.int .i64 F.1,.int .i64 F.2,.int .i64 A.1,.int .i64 A.2,.int .i64 B.1,.int .i64 B.2,.int .i64 C.1,.int .i64 C.2] 122)).alloc (.cells #[.int .i64 u.1,.int .i64 u.2] 49)).alloc (.cells #[.int .i64 0,.int .i64 0] 49)).frozen? ⟨w.heap.size+1+1,1,none⟩=false:=by simp[go_sem]
 have hs0:=Sm.of hW0 hc hf;have hc0:=hs0.cell;have hf0:=hs0.free;generalize (((w.alloc (.cells #[.int .i64 F.1,.int .i64 F.2,.int .i64 A.1,.int .i64 A.2,.int .i64 B.1,.int .i64 B.2,.int .i64 C.1,.int .i64 C.2] 122)).alloc (.cells #[.int .i64 u.1,.int .i64 u.2] 49)).alloc (.cells #[.int .i64 0,.int .i64 0] 49))=W0 at *
 have HX:Hid (∀x w',Sm b x W0 w'→w.heap.size≤w'.heap.size∧w'.cell? ⟨w.heap.size,2,none⟩=some (.int .i64 A.1)∧w'.cell? ⟨w.heap.size,3,none⟩=some (.int .i64 A.2)∧w'.cell? ⟨w.heap.size,4,none⟩=some (.int .i64 B.1)∧w'.cell? ⟨w.heap.size,5,none⟩=some (.int .i64 B.2)∧w'.cell? ⟨w.heap.size,6,none⟩=some (.int .i64 C.1)∧w'.cell? ⟨w.heap.size,7,none⟩=some (.int .i64 C.2)∧w'.cell? ⟨w.heap.size+1,0,none⟩=some (.int .i64 u.1)∧w'.cell? ⟨w.heap.size+1,1,none⟩=some (.int .i64 u.2)):=lh fun x w' h=>
  ⟨Nat.le_trans hW0.size h.size,(h.other (p:=⟨w.heap.size,2,none⟩) (by simp<;>omega) (by simp<;>omega)).trans k0,(h.other (p:=⟨w.heap.size,3,none⟩) (by simp<;>omega) (by simp<;>omega)).trans k1,(h.other (p:=⟨w.heap.size,4,none⟩) (by simp<;>omega) (by simp<;>omega)).trans k2,(h.other (p:=⟨w.heap.size,5,none⟩) (by simp<;>omega) (by simp<;>omega)).trans k3,(h.other (p:=⟨w.heap.size,6,none⟩) (by simp<;>omega) (by simp<;>omega)).trans k4,(h.other (p:=⟨w.heap.size,7,none⟩) (by simp<;>omega) (by simp<;>omega)).trans k5,(h.other (p:=⟨w.heap.size+1,0,none⟩) (by simp<;>omega) (by simp<;>omega)).trans k6,(h.other (p:=⟨w.heap.size+1,1,none⟩) (by simp<;>omega) (by simp<;>omega)).trans k7⟩
 have HY:Hid (∀x w',Sm b x W0 w'→w'.cell? ⟨w.heap.size+1+1,0,none⟩=some (.int .i64 0)∧w'.cell? ⟨w.heap.size+1+1,1,none⟩=some (.int .i64 0)∧w'.frozen? ⟨w.heap.size+1+1,0,none⟩=false∧w'.frozen? ⟨w.heap.size+1+1,1,none⟩=false):=lh fun x w' h=>
  ⟨(h.other (p:=⟨w.heap.size+1+1,0,none⟩) (by simp<;>omega) (by simp<;>omega)).trans k8,(h.other (p:=⟨w.heap.size+1+1,1,none⟩) (by simp<;>omega) (by simp<;>omega)).trans k9,(h.otherF (p:=⟨w.heap.size+1+1,0,none⟩) (by simp<;>omega) (by simp<;>omega)).trans f0,(h.otherF (p:=⟨w.heap.size+1+1,1,none⟩) (by simp<;>omega) (by simp<;>omega)).trans f1⟩
 have hbz:b<W0.heap.size:=by omega
 have HZ:Hid (∀x w',Sm b x W0 w'→∀v0 v1,(fun w'=>w.heap.size≤w'.heap.size∧w'.cell? ⟨w.heap.size,2,none⟩=some (.int .i64 A.1)∧w'.cell? ⟨w.heap.size,3,none⟩=some (.int .i64 A.2)∧w'.cell? ⟨w.heap.size,4,none⟩=some (.int .i64 B.1)∧w'.cell? ⟨w.heap.size,5,none⟩=some (.int .i64 B.2)∧w'.cell? ⟨w.heap.size,6,none⟩=some (.int .i64 C.1)∧w'.cell? ⟨w.heap.size,7,none⟩=some (.int .i64 C.2)∧w'.cell? ⟨w.heap.size+1,0,none⟩=some (.int .i64 u.1)∧w'.cell? ⟨w.heap.size+1,1,none⟩=some (.int .i64 u.2)) ((w'.setCell ⟨w.heap.size+1+1,0,none⟩ v0).setCell ⟨w.heap.size+1+1,1,none⟩ v1)):=lh fun x w' h v0 v1=>by
  obtain⟨h0,h1,h2,h3,h4,h5,h6,h7,h8⟩:=HX.out x w' h;refine⟨by simpa using h0,?_,?_,?_,?_,?_,?_,?_,?_⟩
  all_goals (refine(two_other (by omega) _ _ _).trans ?_;assumption)
 have hsd:Sm b e W0 W0.drew:=(Sm.refl hc0 hf0).drew;clear hc hf hc0 hf0 hs0 f0 f1 k0 k1 k2 k3 k4 k5 k6 k7 k8 k9;refine wp_region_held_drew (S:=(fun w'=>w.heap.size≤w'.heap.size∧w'.cell? ⟨w.heap.size,2,none⟩=some (.int .i64 A.1)∧w'.cell? ⟨w.heap.size,3,none⟩=some (.int .i64 A.2)∧w'.cell? ⟨w.heap.size,4,none⟩=some (.int .i64 B.1)∧w'.cell? ⟨w.heap.size,5,none⟩=some (.int .i64 B.2)∧w'.cell? ⟨w.heap.size,6,none⟩=some (.int .i64 C.1)∧w'.cell? ⟨w.heap.size,7,none⟩=some (.int .i64 C.2)∧w'.cell? ⟨w.heap.size+1,0,none⟩=some (.int .i64 u.1)∧w'.cell? ⟨w.heap.size+1,1,none⟩=some (.int .i64 u.2))) (by kernel_rfl) (HX.out _ _ hsd) (fun hHeld=>?_);refine tkB 0 ?_;simp only[Act.put,s_1,s_2,s_3,s_4,s_6];refine tkB 1 ?_;simp only[Act.put,s_1,s_2,s_3,s_4,s_5,s_6];refine tkB 2 ?_;simp only[Act.put,s_1,s_2,s_3,s_4,s_5,s_6];refine tkB 3 ?_;simp only[Act.put,s_1,s_2,s_3,s_4,s_5,s_6];refine tkB 4 ?_;simp only[Act.put,s_1,s_2,s_3,s_4,s_5,s_6];refine tkB 5 ?_;simp only[Act.put,s_1,s_2,s_3,s_4,s_5,s_6];refine tkB 6 ?_;simp only[Act.put,s_1,s_2,s_3,s_4,s_5,s_6];refine tkB 7 ?_;simp only[Act.put,s_1,s_2,s_3,s_4,s_5,s_6];refine tkB 8 ?_;simp only[Act.put,s_1,s_2,s_3,s_4,s_5,s_6];refine r1 9 (fun K hK=>?_)
 try simp only[s_4,s_5,s_6]
 go_simp
 (go_at_call 104;go_split_ands;(with_reducible refine(HK1.out _ hsd.cell hsd.free).mono ?_);rintro z w1 ⟨rfl,ht1⟩;have hs1:=hsd.trans ht1)
 go_wp2_with fail
 refine hK.out _ _ (HX.out _ _ hs1) (fun hHeld=>?_);clear hK K
 try simp only[Act.put,s_1,s_2,s_3,s_4,s_5,s_6]
 refine r1 10 (fun K hK=>?_)
 try simp only[s_4,s_5,s_6]
 go_simp
 (go_at_call 104;go_split_ands;(with_reducible refine(HK2.out _ hs1.cell hs1.free).mono ?_);rintro z w2 ⟨rfl,ht2⟩;have hs2:=hs1.trans ht2)
 go_wp2_with fail
 refine hK.out _ _ (HX.out _ _ hs2) (fun hHeld=>?_);clear hK K
 try simp only[Act.put,s_1,s_2,s_3,s_4,s_5,s_6]
 refine r1 11 (fun K hK=>?_)
 try simp only[s_4,s_5,s_6]
 go_simp
 (go_at_call 103;go_split_ands;(with_reducible refine(HK3.out _ hs2.cell hs2.free).mono ?_);rintro z w3 ⟨rfl,ht3⟩;have hs3:=hs2.trans ht3)
 go_wp2_with fail
 refine hK.out _ _ (HX.out _ _ hs3) (fun hHeld=>?_);clear hK K
 try simp only[Act.put,s_1,s_2,s_3,s_4,s_5,s_6]
 refine r1 12 (fun K hK=>?_);go_split_ands;obtain⟨g0,g1,g2,g3⟩:=HY.out _ _ hs3
 try simp only[s_4,s_5,s_6]
 go_wp2_with fail
 skip
 refine hK.out _ _ (HZ.out _ _ hs3 _ _) (fun hHeld=>?_);clear hK K
 try simp only[Act.put,s_1,s_2,s_3,s_4,s_5,s_6]
 refine wpAnyH_done (by kernel_rfl) ?_ _
 go_wp2_with fail
 have l0:=(two_cells (v0:=.int .i64 K3.1.1) (v1:=.int .i64 K3.1.2) g0 g1).1;have l1:=(two_cells (v0:=.int .i64 K3.1.1) (v1:=.int .i64 K3.1.2) g0 g1).2;refine bodyPost_ret (v:=.agg #[.int .i64 K3.1.1,.int .i64 K3.1.2]) (by simp[results,Tryz.results64,go_sem,l0,l1]) rfl ⟨rfl,?_⟩;exact((Sm.from hW0 hb hs3).setCell (p:=⟨w.heap.size+1+1,0,none⟩) (by simp<;>omega) hb _).setCell (p:=⟨w.heap.size+1+1,1,none⟩) (by simp<;>omega) hb _
theorem qresult_any(b:Nat)(e:Int)(x:Int×Int)(w:World)(hc:w.cell? ⟨b,0,none⟩=some (.int .i64 e)):
  Calls Tryz.prog 70 #[.pointer (some ⟨b,0,none⟩),.agg #[.int .i64 x.1,.int .i64 x.2]] w fun z w'=>z=.returned (.tuple #[.agg #[.int .i64 (if e=0 then x.1 else 0),.int .i64 (if e=0 then x.2 else 0)],.int .i64 e])∧Below w.heap.size w w':=by
 have hb:b<w.heap.size:=wl hc
 by_cases z:e=0
 ·rw[if_pos z,if_pos z]
  subst z
  go_enter Tryz.func70,Tryz.ntmps70
  go_wp2_with fail
  refine bodyPost_ret (v:=.tuple #[.agg #[.int .i64 x.1,.int .i64 x.2],.int .i64 0]) (by simp[results,Tryz.results70,go_sem]) rfl ⟨rfl,?_⟩;exact(below_new _ _).alloc (by simp) _
 ·rw[if_neg z,if_neg z]
  have z1:(e==0)=false:=beq_eq_false_iff_ne.2 z;have z2:(e !=0)=true:=by simpa using z
  clear z
  go_enter Tryz.func70,Tryz.ntmps70
  go_upto_region 2 with (fail)
  go_region
  all_goals go_wp2_with fail
  all_goals refine bodyPost_ret (v:=.tuple #[.agg #[.int .i64 0,.int .i64 0],.int .i64 e]) (by simp[results,Tryz.results70,go_sem]) rfl ⟨rfl,?_⟩
  all_goals exact((below_new _ _).alloc (by simp) _).drew
structure PcOK(p:Pc):Prop where
 f:validF p.f0 p.f1=true
 a:validF p.a0 p.a1=true
 b:validF p.b0 p.b1=true
 c:validF p.c0 p.c1=true
structure CurveOK(L:List Pc):Prop where
 pos:1≤L.length
 len:L.length≤200
 val:∀i,i<L.length→PcOK (pcg L i)
 asc:∀i,i+1<L.length→(pcg L i).f0*(pcg L (i+1)).f1<(pcg L (i+1)).f0*(pcg L i).f1
theorem cmpP_lt{x y:Int}(h:x<y):cmpP x y=-1:=by unfold cmpP;rw[if_neg (by omega),if_pos h]
theorem cmpP_le{x y:Int}:cmpP x y≤0↔x≤y:=by unfold cmpP;split<;>(try split)<;>omega
theorem compare_any(an ad bn bd:Int)(va:validF an ad=true)(vb:validF bn bd=true)(w:World):
  Calls Tryz.prog 100 #[.agg #[.int .i64 an,.int .i64 ad],.agg #[.int .i64 bn,.int .i64 bd]] w fun e w'=>e=.returned (.int .i64 (cmpP (an*bd) (bn*ad)))∧Below w.heap.size w w':=by
 have HC:=lh (cmp_all an ad bn bd va vb);generalize cmpP (an*bd) (bn*ad)=C at *;clear va vb
 go_enter Tryz.func100,Tryz.ntmps100
 go_wp2_with (go_at_call 109;(with_reducible refine(HC.out _).mono ?_);rintro e w1 ⟨rfl,hb1⟩)
 go_ret;exact⟨rfl,((below_new _ _).alloc (by simp) _).trans (hb1.mono (by simp<;>omega))⟩
theorem qvalid_yes(L:List Pc)(ok:CurveOK L)(a:Option Addr)(c:Nat)(w:World)(hL:Pcs w.heap.size w a L):
  Calls Tryz.prog 60 #[.slice a L.length c] w fun e w'=>e=.returned (.bool true)∧Below w.heap.size w w':=by
 have hl1:=ok.pos;have hl2:=ok.len;have HOK:=lh ok;have g1:decide ((L.length:Int)<1)=false:=dF (by omega);have g2:decide (200<(L.length:Int))=false:=dF (by omega);have g3:decide (200<L.length)=false:=dF (by omega);obtain⟨b,off,rfl,hb,hc⟩:=hL (by omega);have HC:=lh hc;clear ok hc hL
 go_enter Tryz.func60,Tryz.ntmps60
 go_wp2_with fail
 clear g1 g2 g3
 go_loopw [15] (fun i wr=>∃k:Nat,k≤L.length∧i=.int .i64 k∧Below w.heap.size w wr) (fun i _=>L.length-(intOf i).toNat)
 case atStart=>exact⟨0,Nat.zero_le _,rfl,br⟩
 case round=>
  obtain⟨k,hk,rfl,hB⟩:=hrel;have hbs:=hB.size
  by_cases hlt:k<L.length
  ·obtain⟨c0,c1,c2,c3,c4,c5,c6,c7⟩:=HC.out k hlt
   have d0:=(hB.cell (p:=⟨b,off+k*8,none⟩) hb).trans c0;have d1:=(hB.cell (p:=⟨b,off+k*8+1,none⟩) hb).trans c1;have d2:=(hB.cell (p:=⟨b,off+k*8+2,none⟩) hb).trans c2;have d3:=(hB.cell (p:=⟨b,off+k*8+3,none⟩) hb).trans c3;have d4:=(hB.cell (p:=⟨b,off+k*8+4,none⟩) hb).trans c4;have d5:=(hB.cell (p:=⟨b,off+k*8+5,none⟩) hb).trans c5;have d6:=(hB.cell (p:=⟨b,off+k*8+6,none⟩) hb).trans c6;have d7:=(hB.cell (p:=⟨b,off+k*8+7,none⟩) hb).trans c7;have hok:=HOK.out.val k hlt;have HVf:=lh hok.f;have HVa:=lh hok.a;have HVb:=lh hok.b;have HVc:=lh hok.c;have i0:0≤(k:Int):=by omega
   have i1:(k:Int)<(L.length:Int):=by omega
   have s1:IntKind.i64.wrap ((k:Int)+1)=(k:Int)+1:=IntWalk.i64_in _ (by omega);clear c0 c1 c2 c3 c4 c5 c6 c7 hok;have hn0:wr.heap.size<(wr.alloc (.cells #[.int .i64 (pcg L k).f0,.int .i64 (pcg L k).f1,.int .i64 (pcg L k).a0,.int .i64 (pcg L k).a1,.int .i64 (pcg L k).b0,.int .i64 (pcg L k).b1,.int .i64 (pcg L k).c0,.int .i64 (pcg L k).c1] 122)).heap.size:=by simp
   have z0_0:(wr.alloc (.cells #[.int .i64 (pcg L k).f0,.int .i64 (pcg L k).f1,.int .i64 (pcg L k).a0,.int .i64 (pcg L k).a1,.int .i64 (pcg L k).b0,.int .i64 (pcg L k).b1,.int .i64 (pcg L k).c0,.int .i64 (pcg L k).c1] 122)).cell? ⟨wr.heap.size,0,none⟩=some (.int .i64 (pcg L k).f0):=by simp
   have z0_1:(wr.alloc (.cells #[.int .i64 (pcg L k).f0,.int .i64 (pcg L k).f1,.int .i64 (pcg L k).a0,.int .i64 (pcg L k).a1,.int .i64 (pcg L k).b0,.int .i64 (pcg L k).b1,.int .i64 (pcg L k).c0,.int .i64 (pcg L k).c1] 122)).cell? ⟨wr.heap.size,1,none⟩=some (.int .i64 (pcg L k).f1):=by simp
   have z0_2:(wr.alloc (.cells #[.int .i64 (pcg L k).f0,.int .i64 (pcg L k).f1,.int .i64 (pcg L k).a0,.int .i64 (pcg L k).a1,.int .i64 (pcg L k).b0,.int .i64 (pcg L k).b1,.int .i64 (pcg L k).c0,.int .i64 (pcg L k).c1] 122)).cell? ⟨wr.heap.size,2,none⟩=some (.int .i64 (pcg L k).a0):=by simp
   have z0_3:(wr.alloc (.cells #[.int .i64 (pcg L k).f0,.int .i64 (pcg L k).f1,.int .i64 (pcg L k).a0,.int .i64 (pcg L k).a1,.int .i64 (pcg L k).b0,.int .i64 (pcg L k).b1,.int .i64 (pcg L k).c0,.int .i64 (pcg L k).c1] 122)).cell? ⟨wr.heap.size,3,none⟩=some (.int .i64 (pcg L k).a1):=by simp
   have z0_4:(wr.alloc (.cells #[.int .i64 (pcg L k).f0,.int .i64 (pcg L k).f1,.int .i64 (pcg L k).a0,.int .i64 (pcg L k).a1,.int .i64 (pcg L k).b0,.int .i64 (pcg L k).b1,.int .i64 (pcg L k).c0,.int .i64 (pcg L k).c1] 122)).cell? ⟨wr.heap.size,4,none⟩=some (.int .i64 (pcg L k).b0):=by simp
   have z0_5:(wr.alloc (.cells #[.int .i64 (pcg L k).f0,.int .i64 (pcg L k).f1,.int .i64 (pcg L k).a0,.int .i64 (pcg L k).a1,.int .i64 (pcg L k).b0,.int .i64 (pcg L k).b1,.int .i64 (pcg L k).c0,.int .i64 (pcg L k).c1] 122)).cell? ⟨wr.heap.size,5,none⟩=some (.int .i64 (pcg L k).b1):=by simp
   have z0_6:(wr.alloc (.cells #[.int .i64 (pcg L k).f0,.int .i64 (pcg L k).f1,.int .i64 (pcg L k).a0,.int .i64 (pcg L k).a1,.int .i64 (pcg L k).b0,.int .i64 (pcg L k).b1,.int .i64 (pcg L k).c0,.int .i64 (pcg L k).c1] 122)).cell? ⟨wr.heap.size,6,none⟩=some (.int .i64 (pcg L k).c0):=by simp
   have z0_7:(wr.alloc (.cells #[.int .i64 (pcg L k).f0,.int .i64 (pcg L k).f1,.int .i64 (pcg L k).a0,.int .i64 (pcg L k).a1,.int .i64 (pcg L k).b0,.int .i64 (pcg L k).b1,.int .i64 (pcg L k).c0,.int .i64 (pcg L k).c1] 122)).cell? ⟨wr.heap.size,7,none⟩=some (.int .i64 (pcg L k).c1):=by simp
   go_upto_region 8 with (first
    | (go_at_call 68;(with_reducible refine(valid_any (pcg L k).f0 (pcg L k).f1 _).mono ?_);rintro e w1 ⟨rfl,hv1⟩;rw[HVf.out];have z1_0:w1.cell? ⟨wr.heap.size,0,none⟩=some (.int .i64 (pcg L k).f0):=(hv1.cell (p:=⟨wr.heap.size,0,none⟩) hn0).trans z0_0;have z1_1:w1.cell? ⟨wr.heap.size,1,none⟩=some (.int .i64 (pcg L k).f1):=(hv1.cell (p:=⟨wr.heap.size,1,none⟩) hn0).trans z0_1;have z1_2:w1.cell? ⟨wr.heap.size,2,none⟩=some (.int .i64 (pcg L k).a0):=(hv1.cell (p:=⟨wr.heap.size,2,none⟩) hn0).trans z0_2;have z1_3:w1.cell? ⟨wr.heap.size,3,none⟩=some (.int .i64 (pcg L k).a1):=(hv1.cell (p:=⟨wr.heap.size,3,none⟩) hn0).trans z0_3;have z1_4:w1.cell? ⟨wr.heap.size,4,none⟩=some (.int .i64 (pcg L k).b0):=(hv1.cell (p:=⟨wr.heap.size,4,none⟩) hn0).trans z0_4;have z1_5:w1.cell? ⟨wr.heap.size,5,none⟩=some (.int .i64 (pcg L k).b1):=(hv1.cell (p:=⟨wr.heap.size,5,none⟩) hn0).trans z0_5;have z1_6:w1.cell? ⟨wr.heap.size,6,none⟩=some (.int .i64 (pcg L k).c0):=(hv1.cell (p:=⟨wr.heap.size,6,none⟩) hn0).trans z0_6;have z1_7:w1.cell? ⟨wr.heap.size,7,none⟩=some (.int .i64 (pcg L k).c1):=(hv1.cell (p:=⟨wr.heap.size,7,none⟩) hn0).trans z0_7;have hn1:wr.heap.size<w1.heap.size:=wl z1_0)
    | (go_at_call 68;(with_reducible refine(valid_any (pcg L k).a0 (pcg L k).a1 _).mono ?_);rintro e w2 ⟨rfl,hv2⟩;rw[HVa.out];have z2_0:w2.cell? ⟨wr.heap.size,0,none⟩=some (.int .i64 (pcg L k).f0):=(hv2.cell (p:=⟨wr.heap.size,0,none⟩) hn1).trans z1_0;have z2_1:w2.cell? ⟨wr.heap.size,1,none⟩=some (.int .i64 (pcg L k).f1):=(hv2.cell (p:=⟨wr.heap.size,1,none⟩) hn1).trans z1_1;have z2_2:w2.cell? ⟨wr.heap.size,2,none⟩=some (.int .i64 (pcg L k).a0):=(hv2.cell (p:=⟨wr.heap.size,2,none⟩) hn1).trans z1_2;have z2_3:w2.cell? ⟨wr.heap.size,3,none⟩=some (.int .i64 (pcg L k).a1):=(hv2.cell (p:=⟨wr.heap.size,3,none⟩) hn1).trans z1_3;have z2_4:w2.cell? ⟨wr.heap.size,4,none⟩=some (.int .i64 (pcg L k).b0):=(hv2.cell (p:=⟨wr.heap.size,4,none⟩) hn1).trans z1_4;have z2_5:w2.cell? ⟨wr.heap.size,5,none⟩=some (.int .i64 (pcg L k).b1):=(hv2.cell (p:=⟨wr.heap.size,5,none⟩) hn1).trans z1_5;have z2_6:w2.cell? ⟨wr.heap.size,6,none⟩=some (.int .i64 (pcg L k).c0):=(hv2.cell (p:=⟨wr.heap.size,6,none⟩) hn1).trans z1_6;have z2_7:w2.cell? ⟨wr.heap.size,7,none⟩=some (.int .i64 (pcg L k).c1):=(hv2.cell (p:=⟨wr.heap.size,7,none⟩) hn1).trans z1_7;have hn2:wr.heap.size<w2.heap.size:=wl z2_0)
    | (go_at_call 68;(with_reducible refine(valid_any (pcg L k).b0 (pcg L k).b1 _).mono ?_);rintro e w3 ⟨rfl,hv3⟩;rw[HVb.out];have z3_0:w3.cell? ⟨wr.heap.size,0,none⟩=some (.int .i64 (pcg L k).f0):=(hv3.cell (p:=⟨wr.heap.size,0,none⟩) hn2).trans z2_0;have z3_1:w3.cell? ⟨wr.heap.size,1,none⟩=some (.int .i64 (pcg L k).f1):=(hv3.cell (p:=⟨wr.heap.size,1,none⟩) hn2).trans z2_1;have z3_2:w3.cell? ⟨wr.heap.size,2,none⟩=some (.int .i64 (pcg L k).a0):=(hv3.cell (p:=⟨wr.heap.size,2,none⟩) hn2).trans z2_2;have z3_3:w3.cell? ⟨wr.heap.size,3,none⟩=some (.int .i64 (pcg L k).a1):=(hv3.cell (p:=⟨wr.heap.size,3,none⟩) hn2).trans z2_3;have z3_4:w3.cell? ⟨wr.heap.size,4,none⟩=some (.int .i64 (pcg L k).b0):=(hv3.cell (p:=⟨wr.heap.size,4,none⟩) hn2).trans z2_4;have z3_5:w3.cell? ⟨wr.heap.size,5,none⟩=some (.int .i64 (pcg L k).b1):=(hv3.cell (p:=⟨wr.heap.size,5,none⟩) hn2).trans z2_5;have z3_6:w3.cell? ⟨wr.heap.size,6,none⟩=some (.int .i64 (pcg L k).c0):=(hv3.cell (p:=⟨wr.heap.size,6,none⟩) hn2).trans z2_6;have z3_7:w3.cell? ⟨wr.heap.size,7,none⟩=some (.int .i64 (pcg L k).c1):=(hv3.cell (p:=⟨wr.heap.size,7,none⟩) hn2).trans z2_7;have hn3:wr.heap.size<w3.heap.size:=wl z3_0)
    | (go_at_call 68;(with_reducible refine(valid_any (pcg L k).c0 (pcg L k).c1 _).mono ?_);rintro e w4 ⟨rfl,hv4⟩;rw[HVc.out];have z4_0:w4.cell? ⟨wr.heap.size,0,none⟩=some (.int .i64 (pcg L k).f0):=(hv4.cell (p:=⟨wr.heap.size,0,none⟩) hn3).trans z3_0;have z4_1:w4.cell? ⟨wr.heap.size,1,none⟩=some (.int .i64 (pcg L k).f1):=(hv4.cell (p:=⟨wr.heap.size,1,none⟩) hn3).trans z3_1;have z4_2:w4.cell? ⟨wr.heap.size,2,none⟩=some (.int .i64 (pcg L k).a0):=(hv4.cell (p:=⟨wr.heap.size,2,none⟩) hn3).trans z3_2;have z4_3:w4.cell? ⟨wr.heap.size,3,none⟩=some (.int .i64 (pcg L k).a1):=(hv4.cell (p:=⟨wr.heap.size,3,none⟩) hn3).trans z3_3;have z4_4:w4.cell? ⟨wr.heap.size,4,none⟩=some (.int .i64 (pcg L k).b0):=(hv4.cell (p:=⟨wr.heap.size,4,none⟩) hn3).trans z3_4;have z4_5:w4.cell? ⟨wr.heap.size,5,none⟩=some (.int .i64 (pcg L k).b1):=(hv4.cell (p:=⟨wr.heap.size,5,none⟩) hn3).trans z3_5;have z4_6:w4.cell? ⟨wr.heap.size,6,none⟩=some (.int .i64 (pcg L k).c0):=(hv4.cell (p:=⟨wr.heap.size,6,none⟩) hn3).trans z3_6;have z4_7:w4.cell? ⟨wr.heap.size,7,none⟩=some (.int .i64 (pcg L k).c1):=(hv4.cell (p:=⟨wr.heap.size,7,none⟩) hn3).trans z3_7;have hn4:wr.heap.size<w4.heap.size:=wl z4_0))
   have hB4:Below w.heap.size w w4:=((((hB.alloc hbs _).trans (hv1.mono (by simp;omega))).trans (hv2.mono (by have:=hv1.size;simp at this;omega))).trans (hv3.mono (by omega))).trans (hv4.mono (by omega));have hw4:Below wr.heap.size wr w4:=((((below_new wr _).trans (hv1.mono (by simp))).trans (hv2.mono (by omega))).trans (hv3.mono (by omega))).trans (hv4.mono (by omega));clear hv1 hv2 hv3 hv4 hn0 hn1 hn2 hn3 z0_0 z0_1 z0_2 z0_3 z0_4 z0_5 z0_6 z0_7 z1_0 z1_1 z1_2 z1_3 z1_4 z1_5 z1_6 z1_7 z2_0 z2_1 z2_2 z2_3 z2_4 z2_5 z2_6 z2_7 z3_0 z3_1 z3_2 z3_3 z3_4 z3_5 z3_6 z3_7 d0 d1 d2 d3 d4 d5 d6 d7 z4_2 z4_3 z4_4 z4_5 z4_6 z4_7;have hbx:=hB4.size;rcases(show k=0∨∃m,k=m+1 by cases k with | zero=>exact .inl rfl | succ m=>exact .inr ⟨m,rfl⟩)with rfl | ⟨m,rfl⟩
   ·go_quiet (fail)
    go_wp2_with fail
    go_roundw
    case rel=>exact⟨1,by omega,by go_num,by first | exact below_drewN hB4 _ | exact hB4.drew⟩
    case measure=>simp[intOf];omega
   ·obtain⟨c0,c1,c2,c3,c4,c5,c6,c7⟩:=HC.out m (by omega)
    have q0:=(hB4.cell (p:=⟨b,off+m*8,none⟩) hb).trans c0;have q1:=(hB4.cell (p:=⟨b,off+m*8+1,none⟩) hb).trans c1;have HV1:=lh (HOK.out.val m (by omega)).f;have HA:=lh (cmpP_lt (HOK.out.asc m hlt));have j0:IntKind.i64.wrap (((m+1:Nat):Int)-1)=(m:Int):=(IntWalk.i64_in _ (by omega)).trans (by omega);have j1:IntKind.i64.wrap ((m:Int)+1-1)=(m:Int):=(IntWalk.i64_in _ (by omega)).trans (by omega);have j2:IntKind.i64.wrap (m:Int)=(m:Int):=IntWalk.i64_in _ (by omega);have j3:(m:Int)<(L.length:Int):=by omega
    have j4:decide ((0:Int)<((m+1:Nat):Int))=true:=dT (by omega);have j5:decide ((0:Int)<(m:Int)+1)=true:=dT (by omega);have j6:(0:Int)≤(m:Int):=by omega
    have j7:m<L.length:=by omega
    clear c0 c1 c2 c3 c4 c5 c6 c7;have hn4':=hn4
    have HSX:Hid (∀w',Below w4.heap.size w4 w'→Below w4.heap.size w4 w'∧w'.cell? ⟨b,off+m*8,none⟩=some (.int .i64 (pcg L m).f0)∧w'.cell? ⟨b,off+m*8+1,none⟩=some (.int .i64 (pcg L m).f1)∧w'.cell? ⟨wr.heap.size,0,none⟩=some (.int .i64 (pcg L (m+1)).f0)∧w'.cell? ⟨wr.heap.size,1,none⟩=some (.int .i64 (pcg L (m+1)).f1)):=lh fun w' h=>
     ⟨h,(h.cell (p:=⟨b,off+m*8,none⟩) (by simp;omega)).trans q0,(h.cell (p:=⟨b,off+m*8+1,none⟩) (by simp;omega)).trans q1,(h.cell (p:=⟨wr.heap.size,0,none⟩) hn4).trans z4_0,(h.cell (p:=⟨wr.heap.size,1,none⟩) hn4).trans z4_1⟩
    clear q0 q1 z4_0 z4_1;refine wp_region_held_drew (S:=(fun w'=>Below w4.heap.size w4 w'∧w'.cell? ⟨b,off+m*8,none⟩=some (.int .i64 (pcg L m).f0)∧w'.cell? ⟨b,off+m*8+1,none⟩=some (.int .i64 (pcg L m).f1)∧w'.cell? ⟨wr.heap.size,0,none⟩=some (.int .i64 (pcg L (m+1)).f0)∧w'.cell? ⟨wr.heap.size,1,none⟩=some (.int .i64 (pcg L (m+1)).f1))) (by kernel_rfl) (HSX.out _ (br).drew) (fun hHeld=>?_);refine tkB 0 ?_;simp only[Act.put,s_1,s_2,s_3,s_4,s_6];refine tkB 1 ?_;simp only[Act.put,s_1,s_2,s_3,s_4,s_5,s_6];refine tkB 2 ?_;simp only[Act.put,s_1,s_2,s_3,s_4,s_5,s_6];refine tkB 3 ?_;simp only[Act.put,s_1,s_2,s_3,s_4,s_5,s_6];refine tkB 4 ?_;simp only[Act.put,s_1,s_2,s_3,s_4,s_5,s_6];refine tkB 5 ?_;simp only[Act.put,s_1,s_2,s_3,s_4,s_5,s_6];refine tkB 6 ?_;simp only[Act.put,s_1,s_2,s_3,s_4,s_5,s_6];refine tkB 7 ?_;simp only[Act.put,s_1,s_2,s_3,s_4,s_5,s_6];refine tkB 8 ?_;simp only[Act.put,s_1,s_2,s_3,s_4,s_5,s_6];refine tkB 9 ?_;simp only[Act.put,s_1,s_2,s_3,s_4,s_5,s_6];refine tkB 10 ?_;simp only[Act.put,s_1,s_2,s_3,s_4,s_5,s_6];refine r1 11 (fun K hK=>?_)
    try simp only[s_4,s_5,s_6]
    go_simp
    (go_at_call 100;go_split_ands;(with_reducible refine(compare_any (pcg L m).f0 (pcg L m).f1 (pcg L (m+1)).f0 (pcg L (m+1)).f1 HV1.out HVf.out _).mono ?_);rintro e w5 ⟨rfl,hb5⟩;rw[HA.out];have hb6:Below w4.heap.size w4 w5:=((Below.refl w4.heap.size w4).drew).trans hb5)
    go_wp2_with fail
    refine hK.out _ _ (HSX.out _ hb6) (fun hHeld=>?_);clear hK K
    try simp only[Act.put,s_1,s_2,s_3,s_4,s_5,s_6]
    refine tkB 12 ?_;simp only[Act.put,s_1,s_2,s_3,s_4,s_5,s_6];refine tkB 13 ?_;simp only[Act.put,s_1,s_2,s_3,s_4,s_5,s_6];refine wpAnyH_done (by kernel_rfl) ?_ _
    go_wp2_with fail
    go_roundw
    case rel=>exact⟨m+2,by omega,by go_num,hB4.trans (hb6.mono hB4.size)⟩
    case measure=>simp[intOf];omega
  ·obtain rfl:k=L.length:=by omega
   go_wp2_with fail
   go_ret;exact⟨rfl,hB⟩
def pieceN(L:List Pc)(t:Int×Int):Nat→Int
 | 0=>-1
 | k+1=>if(pcg L k).f0*t.2≤t.1*(pcg L k).f1 then(k:Int)else pieceN L t k
theorem piece_any(L:List Pc)(ok:CurveOK L)(t:Int×Int)(vt:vF t=true)(a:Option Addr)(c:Nat)(w:World)(hL:Pcs w.heap.size w a L):
  Calls Tryz.prog 69 #[.slice a L.length c,.agg #[.int .i64 t.1,.int .i64 t.2]] w fun e w'=>e=.returned (.int .i64 (pieceN L t L.length))∧Below w.heap.size w w':=by
 have hl2:=ok.len;have HOK:=lh ok;obtain⟨b,off,rfl,hb,hc⟩:=hL (by have:=ok.pos;omega);have HC:=lh hc;have HT:Hid (validF t.1 t.2=true):=lh vt;clear ok hc hL vt
 go_enter Tryz.func69,Tryz.ntmps69
 go_wp2_with fail
 go_loopw [5,10] (fun p i wr=>∃k:Nat,k≤L.length∧i=.int .i64 k∧p=.int .i64 (pieceN L t k)∧Below w.heap.size w wr∧w.heap.size<wr.heap.size∧wr.cell? ⟨w.heap.size,0,none⟩=some (.int .i64 t.1)∧wr.cell? ⟨w.heap.size,1,none⟩=some (.int .i64 t.2)) (fun _ i _=>L.length-(intOf i).toNat)
 case atStart=>exact⟨0,Nat.zero_le _,rfl,rfl,below_new _ _,by simp,by simp,by simp⟩
 case round=>
  obtain⟨k,hk,rfl,rfl,hB,hbs,t0,t1⟩:=hrel
  by_cases hlt:k<L.length
  ·obtain⟨c0,c1,c2,c3,c4,c5,c6,c7⟩:=HC.out k hlt
   have d0:=(hB.cell (p:=⟨b,off+k*8,none⟩) hb).trans c0;have d1:=(hB.cell (p:=⟨b,off+k*8+1,none⟩) hb).trans c1;have d2:=(hB.cell (p:=⟨b,off+k*8+2,none⟩) hb).trans c2;have d3:=(hB.cell (p:=⟨b,off+k*8+3,none⟩) hb).trans c3;have d4:=(hB.cell (p:=⟨b,off+k*8+4,none⟩) hb).trans c4;have d5:=(hB.cell (p:=⟨b,off+k*8+5,none⟩) hb).trans c5;have d6:=(hB.cell (p:=⟨b,off+k*8+6,none⟩) hb).trans c6;have d7:=(hB.cell (p:=⟨b,off+k*8+7,none⟩) hb).trans c7;have HVf:=lh (HOK.out.val k hlt).f;have i0:0≤(k:Int):=by omega
   have i1:(k:Int)<(L.length:Int):=by omega
   have s1:IntKind.i64.wrap ((k:Int)+1)=(k:Int)+1:=IntWalk.i64_in _ (by omega);obtain⟨P,hP⟩:=nm (pieceN L t k);rw[hP];obtain⟨C,hC⟩:=nm (cmpP ((pcg L k).f0*t.2) (t.1*(pcg L k).f1));have HCC:=lh hC;have hle:C≤0↔(pcg L k).f0*t.2≤t.1*(pcg L k).f1:=by rw[←hC];exact cmpP_le
   have HN:Hid (pieceN L t (k+1)=if C≤0 then(k:Int)else P):=lh (by
    rw[pieceN,hP]
    by_cases h:C≤0
    ·rw[if_pos h,if_pos (hle.1 h)]
    ·rw[if_neg h,if_neg (fun x=>h (hle.2 x))])
   clear c0 c1 c2 c3 c4 c5 c6 c7 hC hle hP
   by_cases h:C≤0
   ·have g:decide (C≤0)=true:=decide_eq_true h
    rw[if_pos h]at HN;clear h
    go_wp2_with (go_at_call 100;(with_reducible refine(compare_any (pcg L k).f0 (pcg L k).f1 t.1 t.2 HVf.out HT.out _).mono ?_);rw[HCC.out];rintro e w1 ⟨rfl,hb1⟩)
    have e0:=(hb1.cell (p:=⟨w.heap.size,0,none⟩) (by simp<;>omega)).trans ((World.cell?_alloc_lt _ _ _ hbs).trans t0);have e1:=(hb1.cell (p:=⟨w.heap.size,1,none⟩) (by simp<;>omega)).trans ((World.cell?_alloc_lt _ _ _ hbs).trans t1);have hB1:=(hB.alloc hB.size (.cells #[.int .i64 (pcg L k).f0,.int .i64 (pcg L k).f1,.int .i64 (pcg L k).a0,.int .i64 (pcg L k).a1,.int .i64 (pcg L k).b0,.int .i64 (pcg L k).b1,.int .i64 (pcg L k).c0,.int .i64 (pcg L k).c1] 122)).trans (hb1.mono (by simp;omega));go_roundw
    case rel=>exact⟨k+1,by omega,by go_num,by rw[HN.out],hB1,wl e0,e0,e1⟩
    case measure=>simp[intOf];omega
   ·have g:decide (C≤0)=false:=decide_eq_false h
    rw[if_neg h]at HN;clear h
    go_wp2_with (go_at_call 100;(with_reducible refine(compare_any (pcg L k).f0 (pcg L k).f1 t.1 t.2 HVf.out HT.out _).mono ?_);rw[HCC.out];rintro e w1 ⟨rfl,hb1⟩)
    have e0:=(hb1.cell (p:=⟨w.heap.size,0,none⟩) (by simp<;>omega)).trans ((World.cell?_alloc_lt _ _ _ hbs).trans t0);have e1:=(hb1.cell (p:=⟨w.heap.size,1,none⟩) (by simp<;>omega)).trans ((World.cell?_alloc_lt _ _ _ hbs).trans t1);have hB1:=(hB.alloc hB.size (.cells #[.int .i64 (pcg L k).f0,.int .i64 (pcg L k).f1,.int .i64 (pcg L k).a0,.int .i64 (pcg L k).a1,.int .i64 (pcg L k).b0,.int .i64 (pcg L k).b1,.int .i64 (pcg L k).c0,.int .i64 (pcg L k).c1] 122)).trans (hb1.mono (by simp;omega));go_roundw
    case rel=>exact⟨k+1,by omega,by go_num,by rw[HN.out],hB1,wl e0,e0,e1⟩
    case measure=>simp[intOf];omega
  ·obtain rfl:k=L.length:=by omega
   go_wp2_with fail
   go_ret;exact⟨rfl,hB⟩
theorem pieceN_range(L:List Pc)(t:Int×Int)(k:Nat):-1≤pieceN L t k∧pieceN L t k<(k:Int):=by
 induction k with
 | zero=>exact⟨Int.le_refl _,by unfold pieceN;omega⟩
 | succ k ih=>unfold pieceN;split<;>omega
def resV(v:(Int×Int)×Int):Int×Int×Int:=(if v.2=0 then v.1.1 else 0,if v.2=0 then v.1.2 else 0,v.2)
def valAt(L:List Pc)(t:Int×Int)(i:Nat):Int×Int×Int:=resV (kVal (kSub 0 t ((pcg L i).f0,(pcg L i).f1)).2 ((pcg L i).a0,(pcg L i).a1) ((pcg L i).b0,(pcg L i).b1) ((pcg L i).c0,(pcg L i).c1) (kSub 0 t ((pcg L i).f0,(pcg L i).f1)).1)
def slopeAt(L:List Pc)(t:Int×Int)(i:Nat):Int×Int×Int:=resV (kSlope (kSub 0 t ((pcg L i).f0,(pcg L i).f1)).2 ((pcg L i).b0,(pcg L i).b1) ((pcg L i).c0,(pcg L i).c1) (kSub 0 t ((pcg L i).f0,(pcg L i).f1)).1)
def atP(L:List Pc)(t:Int×Int):Int×Int×Int:=if vF t=true then(if pieceN L t L.length<0 then((pcg L 0).a0,(pcg L 0).a1,0)else valAt L t (pieceN L t L.length).toNat)else(0,0,1)
def slopeP(L:List Pc)(t:Int×Int):Int×Int×Int:=if vF t=true then(if pieceN L t L.length<0 then(0,1,0)else slopeAt L t (pieceN L t L.length).toNat)else(0,0,1)
theorem qat_any(L:List Pc)(ok:CurveOK L)(t:Int×Int)(a:Option Addr)(c:Nat)(w:World)(hL:Pcs w.heap.size w a L):
  Calls Tryz.prog 39 #[.slice a L.length c,.agg #[.int .i64 t.1,.int .i64 t.2]] w fun e w'=>e=.returned (.tuple #[.agg #[.int .i64 (atP L t).1,.int .i64 (atP L t).2.1],.int .i64 (atP L t).2.2])∧Below w.heap.size w w':=by
 have hpos:=ok.pos;have hlen:=ok.len;have hL0:Pcs ((w.alloc (.cells #[.int .i64 t.1,.int .i64 t.2] 49)).alloc (.cells #[.int .i64 0,.int .i64 0] 49)).heap.size ((w.alloc (.cells #[.int .i64 t.1,.int .i64 t.2] 49)).alloc (.cells #[.int .i64 0,.int .i64 0] 49)) a L:=hL.grow ((below_new _ _).alloc (by simp) _);have HV:=lh (fun c w h=>qvalid_yes L ok a c w h);have HOK:=lh ok;have HL:=lh hL;obtain⟨Z,hZ⟩:=nm (atP L t);rw[hZ];have HZ:=lh hZ;clear ok hL hZ
 by_cases vt:vF t=true
 case neg=>
  have HVT:Hid (validF t.1 t.2=false):=lh (by have:=Bool.not_eq_true _▸vt;exact this);have HR:Hid (Z=(0,0,1)):=lh (by rw[←HZ.out];unfold atP;rw[if_neg vt]);rw[HR.out];clear vt
  go_enter Tryz.func39,Tryz.ntmps39
  go_wp2_with (first
   | (go_at_call 60;(with_reducible refine(HV.out _ _ ?_).mono ?_);(next=>exact hL0);rintro e w1 ⟨rfl,hb1⟩;have t0:w1.cell? ⟨w.heap.size,0,none⟩=some (.int .i64 t.1):=(hb1.cell (p:=⟨w.heap.size,0,none⟩) (by simp<;>omega)).trans (by simp[go_sem,World.cell?_alloc_past]);have t1:w1.cell? ⟨w.heap.size,1,none⟩=some (.int .i64 t.2):=(hb1.cell (p:=⟨w.heap.size,1,none⟩) (by simp<;>omega)).trans (by simp[go_sem,World.cell?_alloc_past]);have r0:w1.cell? ⟨w.heap.size+1,0,none⟩=some (.int .i64 0):=(hb1.cell (p:=⟨w.heap.size+1,0,none⟩) (by simp<;>omega)).trans (by simp[go_sem]);have r1:w1.cell? ⟨w.heap.size+1,1,none⟩=some (.int .i64 0):=(hb1.cell (p:=⟨w.heap.size+1,1,none⟩) (by simp<;>omega)).trans (by simp[go_sem]);have r2:w1.frozen? ⟨w.heap.size+1,0,none⟩=false:=(hb1.frozen (p:=⟨w.heap.size+1,0,none⟩) (by simp<;>omega)).trans (by simp[go_sem]);have r3:w1.frozen? ⟨w.heap.size+1,1,none⟩=false:=(hb1.frozen (p:=⟨w.heap.size+1,1,none⟩) (by simp<;>omega)).trans (by simp[go_sem]);have hB1:Below w.heap.size w w1:=((below_new w (.cells #[.int .i64 t.1,.int .i64 t.2] 49)).alloc (by simp) (.cells #[.int .i64 0,.int .i64 0] 49)).trans (hb1.mono (by simp<;>omega));have z1:=wl r0;simp only at z1)
   | (go_at_call 68;(with_reducible refine(valid_any t.1 t.2 _).mono ?_);rintro e w2 ⟨rfl,hb2⟩;rw[HVT.out];have hB2:=hB1.trans (hb2.mono hB1.size);have T0:=(hb2.cell (p:=⟨w.heap.size,0,none⟩) (by simp;omega)).trans t0;have T1:=(hb2.cell (p:=⟨w.heap.size,1,none⟩) (by simp;omega)).trans t1;have R0:=(hb2.cell (p:=⟨w.heap.size+1,0,none⟩) z1).trans r0;have R1:=(hb2.cell (p:=⟨w.heap.size+1,1,none⟩) z1).trans r1;have R2:=(hb2.frozen (p:=⟨w.heap.size+1,0,none⟩) z1).trans r2;have R3:=(hb2.frozen (p:=⟨w.heap.size+1,1,none⟩) z1).trans r3;have z2:=wl R0;simp only at z2;have zz:w.heap.size<w2.heap.size:=(by omega);clear t0 t1 r0 r1 r2 r3 hb1 hb2))
  have l0:=(two_cells (v0:=.int .i64 0) (v1:=.int .i64 0) R0 R1).1;have l1:=(two_cells (v0:=.int .i64 0) (v1:=.int .i64 0) R0 R1).2;refine bodyPost_ret (v:=.tuple #[.agg #[.int .i64 0,.int .i64 0],.int .i64 1]) (by simp[results,Tryz.results39,go_sem,l0,l1]) rfl ⟨rfl,?_⟩;exact(hB2.setCell (p:=⟨w.heap.size+1,0,none⟩) (Nat.le_succ _) _).setCell (p:=⟨w.heap.size+1,1,none⟩) (Nat.le_succ _) _
 case pos=>
  have HVT:Hid (validF t.1 t.2=true):=lh vt;have HTT:=lh vt;have HZ2:Hid (Z=if pieceN L t L.length<0 then((pcg L 0).a0,(pcg L 0).a1,0)else valAt L t (pieceN L t L.length).toNat):=lh (by rw[←HZ.out];unfold atP;rw[if_pos vt]);clear vt HZ;obtain⟨kI,hk⟩:=nm (pieceN L t L.length);have hkr:=pieceN_range L t L.length;rw[hk]at hkr;have HK:=lh hk;rw[hk]at HZ2;clear hk
  by_cases neg:kI<0
  ·have g:decide (kI<0)=true:=decide_eq_true neg
   rw[if_pos neg]at HZ2;rw[HZ2.out];clear neg;obtain⟨b,off,rfl,hb,hc⟩:=HL.out (by omega);obtain⟨c0,c1,c2,c3,c4,c5,c6,c7⟩:=hc 0 (by omega);simp only[Nat.zero_mul,Nat.add_zero]at c2 c3;have HC2:=lh c2;have HC3:=lh c3;clear c0 c1 c2 c3 c4 c5 c6 c7 hc
   go_enter Tryz.func39,Tryz.ntmps39
   go_wp2_with (first
    | (go_at_call 60;(with_reducible refine(HV.out _ _ ?_).mono ?_);(next=>exact hL0);rintro e w1 ⟨rfl,hb1⟩;have t0:w1.cell? ⟨w.heap.size,0,none⟩=some (.int .i64 t.1):=(hb1.cell (p:=⟨w.heap.size,0,none⟩) (by simp<;>omega)).trans (by simp[go_sem,World.cell?_alloc_past]);have t1:w1.cell? ⟨w.heap.size,1,none⟩=some (.int .i64 t.2):=(hb1.cell (p:=⟨w.heap.size,1,none⟩) (by simp<;>omega)).trans (by simp[go_sem,World.cell?_alloc_past]);have r0:w1.cell? ⟨w.heap.size+1,0,none⟩=some (.int .i64 0):=(hb1.cell (p:=⟨w.heap.size+1,0,none⟩) (by simp<;>omega)).trans (by simp[go_sem]);have r1:w1.cell? ⟨w.heap.size+1,1,none⟩=some (.int .i64 0):=(hb1.cell (p:=⟨w.heap.size+1,1,none⟩) (by simp<;>omega)).trans (by simp[go_sem]);have r2:w1.frozen? ⟨w.heap.size+1,0,none⟩=false:=(hb1.frozen (p:=⟨w.heap.size+1,0,none⟩) (by simp<;>omega)).trans (by simp[go_sem]);have r3:w1.frozen? ⟨w.heap.size+1,1,none⟩=false:=(hb1.frozen (p:=⟨w.heap.size+1,1,none⟩) (by simp<;>omega)).trans (by simp[go_sem]);have hB1:Below w.heap.size w w1:=((below_new w (.cells #[.int .i64 t.1,.int .i64 t.2] 49)).alloc (by simp) (.cells #[.int .i64 0,.int .i64 0] 49)).trans (hb1.mono (by simp<;>omega));have z1:=wl r0;simp only at z1)
    | (go_at_call 68;(with_reducible refine(valid_any t.1 t.2 _).mono ?_);rintro e w2 ⟨rfl,hb2⟩;rw[HVT.out];have hB2:=hB1.trans (hb2.mono hB1.size);have T0:=(hb2.cell (p:=⟨w.heap.size,0,none⟩) (by simp;omega)).trans t0;have T1:=(hb2.cell (p:=⟨w.heap.size,1,none⟩) (by simp;omega)).trans t1;have R0:=(hb2.cell (p:=⟨w.heap.size+1,0,none⟩) z1).trans r0;have R1:=(hb2.cell (p:=⟨w.heap.size+1,1,none⟩) z1).trans r1;have R2:=(hb2.frozen (p:=⟨w.heap.size+1,0,none⟩) z1).trans r2;have R3:=(hb2.frozen (p:=⟨w.heap.size+1,1,none⟩) z1).trans r3;have z2:=wl R0;simp only at z2;have zz:w.heap.size<w2.heap.size:=(by omega);clear t0 t1 r0 r1 r2 r3 hb1 hb2)
    | (go_at_call 69;have W20:Below w2.heap.size w2 (w2.alloc (.cells #[.int .i64 0] 132)):=below_new _ _;have hB3:=hB2.trans (W20.mono hB2.size);(with_reducible refine(piece_any L HOK.out t HTT.out (some ⟨b,off,none⟩) c _ (HL.out.grow hB3)).mono ?_);rw[HK.out];rintro e w4 ⟨rfl,hb4⟩;have hB4:=hB3.trans (hb4.mono hB3.size);have hb5:=W20.trans (hb4.mono W20.size);have S0:w4.cell? ⟨w2.heap.size,0,none⟩=some (.int .i64 0):=(hb4.cell (p:=⟨w2.heap.size,0,none⟩) (by simp)).trans (by simp);have S1:w4.frozen? ⟨w2.heap.size,0,none⟩=false:=(hb4.frozen (p:=⟨w2.heap.size,0,none⟩) (by simp)).trans (by simp);have t0:=(hb5.cell (p:=⟨w.heap.size,0,none⟩) (by simp;omega)).trans T0;have t1:=(hb5.cell (p:=⟨w.heap.size,1,none⟩) (by simp;omega)).trans T1;have r0:=(hb5.cell (p:=⟨w.heap.size+1,0,none⟩) z2).trans R0;have r1:=(hb5.cell (p:=⟨w.heap.size+1,1,none⟩) z2).trans R1;have r2:=(hb5.frozen (p:=⟨w.heap.size+1,0,none⟩) z2).trans R2;have r3:=(hb5.frozen (p:=⟨w.heap.size+1,1,none⟩) z2).trans R3;have hBs4:w2.heap.size<w4.heap.size:=wl S0;have d2:=(hB4.cell (p:=⟨b,off+2,none⟩) hb).trans HC2.out;have d3:=(hB4.cell (p:=⟨b,off+3,none⟩) hb).trans HC3.out;clear T0 T1 R0 R1 R2 R3 hb4 hb5 W20 hB3))
   have l0:=(two_cells (v0:=.int .i64 (pcg L 0).a0) (v1:=.int .i64 (pcg L 0).a1) r0 r1).1;have l1:=(two_cells (v0:=.int .i64 (pcg L 0).a0) (v1:=.int .i64 (pcg L 0).a1) r0 r1).2;refine bodyPost_ret (v:=.tuple #[.agg #[.int .i64 (pcg L 0).a0,.int .i64 (pcg L 0).a1],.int .i64 0]) (by simp[results,Tryz.results39,go_sem,l0,l1]) rfl ⟨rfl,?_⟩;exact(hB4.setCell (p:=⟨w.heap.size+1,0,none⟩) (Nat.le_succ _) _).setCell (p:=⟨w.heap.size+1,1,none⟩) (Nat.le_succ _) _
  ·have g:decide (kI<0)=false:=decide_eq_false neg
   rw[if_neg neg]at HZ2;obtain⟨i,rfl⟩:=Int.eq_ofNat_of_zero_le (show 0≤kI by omega);rw[Int.toNat_natCast]at HZ2;have hi:i<L.length:=by omega
   have hi1:(i:Int)<(L.length:Int):=by omega
   have hi0:(0:Int)≤(i:Int):=by omega
   have hok:=HOK.out.val i hi;have VF:vF ((pcg L i).f0,(pcg L i).f1)=true:=hok.f;have VA:vF ((pcg L i).a0,(pcg L i).a1)=true:=hok.a;have VB:vF ((pcg L i).b0,(pcg L i).b1)=true:=hok.b;have VC:vF ((pcg L i).c0,(pcg L i).c1)=true:=hok.c;obtain⟨K1,hK1⟩:=nm (kSub 0 t ((pcg L i).f0,(pcg L i).f1));have V1:vF K1.1=true:=by rw[←hK1];exact kSub_valid HTT.out VF
   have HC1:Hid (∀(Bs:Nat) (w:World),w.cell? ⟨Bs,0,none⟩=some (.int .i64 0)→w.frozen? ⟨Bs,0,none⟩=false→Calls Tryz.prog 62 #[.pointer (some ⟨Bs,0,none⟩),.agg #[.int .i64 t.1,.int .i64 t.2],.agg #[.int .i64 (pcg L i).f0,.int .i64 (pcg L i).f1]] w fun z w'=>z=.returned (.agg #[.int .i64 K1.1.1,.int .i64 K1.1.2])∧Sm Bs K1.2 w w'):=lh fun Bs w h0 h1=>by
    have:=ksub_any Bs 0 t ((pcg L i).f0,(pcg L i).f1) HTT.out VF w h0 h1
    rwa [hK1]at this
   obtain⟨K2,hK2⟩:=nm (kVal K1.2 ((pcg L i).a0,(pcg L i).a1) ((pcg L i).b0,(pcg L i).b1) ((pcg L i).c0,(pcg L i).c1) K1.1)
   have HC2:Hid (∀(Bs:Nat) (w:World),w.cell? ⟨Bs,0,none⟩=some (.int .i64 K1.2)→w.frozen? ⟨Bs,0,none⟩=false→Calls Tryz.prog 63 #[.pointer (some ⟨Bs,0,none⟩),.agg #[.int .i64 (pcg L i).f0,.int .i64 (pcg L i).f1,.int .i64 (pcg L i).a0,.int .i64 (pcg L i).a1,.int .i64 (pcg L i).b0,.int .i64 (pcg L i).b1,.int .i64 (pcg L i).c0,.int .i64 (pcg L i).c1],.agg #[.int .i64 K1.1.1,.int .i64 K1.1.2]] w fun z w'=>z=.returned (.agg #[.int .i64 K2.1.1,.int .i64 K2.1.2])∧Sm Bs K2.2 w w'):=lh fun Bs w h0 h1=>by
    have:=qvalue_any Bs K1.2 ((pcg L i).f0,(pcg L i).f1) ((pcg L i).a0,(pcg L i).a1) ((pcg L i).b0,(pcg L i).b1) ((pcg L i).c0,(pcg L i).c1) K1.1 VA VB VC V1 w h0 h1
    rwa [hK2]at this
   have HR:Hid (Z=(if K2.2=0 then K2.1.1 else 0,if K2.2=0 then K2.1.2 else 0,K2.2)):=lh (by rw[HZ2.out];unfold valAt;simp only[hK1,hK2];rfl);obtain⟨q1,hq1⟩:=nm ((if K2.2=0 then K2.1.1 else 0));obtain⟨q2,hq2⟩:=nm ((if K2.2=0 then K2.1.2 else 0))
   have HC3:Hid (∀(Bs:Nat) (w:World),w.cell? ⟨Bs,0,none⟩=some (.int .i64 K2.2)→Calls Tryz.prog 70 #[.pointer (some ⟨Bs,0,none⟩),.agg #[.int .i64 K2.1.1,.int .i64 K2.1.2]] w fun z w'=>z=.returned (.tuple #[.agg #[.int .i64 q1,.int .i64 q2],.int .i64 K2.2])∧Below w.heap.size w w'):=lh fun Bs w h0=>by
    have:=qresult_any Bs K2.2 K2.1 w h0
    rwa [hq1,hq2]at this
   rw[hq1,hq2]at HR;rw[HR.out];clear hq1 hq2 hK1 hK2 V1 VF VA VB VC hok HZ2 neg;obtain⟨b,off,rfl,hb,hc⟩:=HL.out (by omega);obtain⟨c0,c1,c2,c3,c4,c5,c6,c7⟩:=hc i hi;have HC:=lh (hc i hi);clear hc c0 c1 c2 c3 c4 c5 c6 c7
   go_enter Tryz.func39,Tryz.ntmps39
   go_upto_region 7 with (first
    | (go_at_call 60;(with_reducible refine(HV.out _ _ ?_).mono ?_);(next=>exact hL0);rintro e w1 ⟨rfl,hb1⟩;have t0:w1.cell? ⟨w.heap.size,0,none⟩=some (.int .i64 t.1):=(hb1.cell (p:=⟨w.heap.size,0,none⟩) (by simp<;>omega)).trans (by simp[go_sem,World.cell?_alloc_past]);have t1:w1.cell? ⟨w.heap.size,1,none⟩=some (.int .i64 t.2):=(hb1.cell (p:=⟨w.heap.size,1,none⟩) (by simp<;>omega)).trans (by simp[go_sem,World.cell?_alloc_past]);have r0:w1.cell? ⟨w.heap.size+1,0,none⟩=some (.int .i64 0):=(hb1.cell (p:=⟨w.heap.size+1,0,none⟩) (by simp<;>omega)).trans (by simp[go_sem]);have r1:w1.cell? ⟨w.heap.size+1,1,none⟩=some (.int .i64 0):=(hb1.cell (p:=⟨w.heap.size+1,1,none⟩) (by simp<;>omega)).trans (by simp[go_sem]);have r2:w1.frozen? ⟨w.heap.size+1,0,none⟩=false:=(hb1.frozen (p:=⟨w.heap.size+1,0,none⟩) (by simp<;>omega)).trans (by simp[go_sem]);have r3:w1.frozen? ⟨w.heap.size+1,1,none⟩=false:=(hb1.frozen (p:=⟨w.heap.size+1,1,none⟩) (by simp<;>omega)).trans (by simp[go_sem]);have hB1:Below w.heap.size w w1:=((below_new w (.cells #[.int .i64 t.1,.int .i64 t.2] 49)).alloc (by simp) (.cells #[.int .i64 0,.int .i64 0] 49)).trans (hb1.mono (by simp<;>omega));have z1:=wl r0;simp only at z1)
    | (go_at_call 68;(with_reducible refine(valid_any t.1 t.2 _).mono ?_);rintro e w2 ⟨rfl,hb2⟩;rw[HVT.out];have hB2:=hB1.trans (hb2.mono hB1.size);have T0:=(hb2.cell (p:=⟨w.heap.size,0,none⟩) (by simp;omega)).trans t0;have T1:=(hb2.cell (p:=⟨w.heap.size,1,none⟩) (by simp;omega)).trans t1;have R0:=(hb2.cell (p:=⟨w.heap.size+1,0,none⟩) z1).trans r0;have R1:=(hb2.cell (p:=⟨w.heap.size+1,1,none⟩) z1).trans r1;have R2:=(hb2.frozen (p:=⟨w.heap.size+1,0,none⟩) z1).trans r2;have R3:=(hb2.frozen (p:=⟨w.heap.size+1,1,none⟩) z1).trans r3;have z2:=wl R0;simp only at z2;have zz:w.heap.size<w2.heap.size:=(by omega);clear t0 t1 r0 r1 r2 r3 hb1 hb2)
    | (go_at_call 69;have W20:Below w2.heap.size w2 (w2.alloc (.cells #[.int .i64 0] 132)):=below_new _ _;have hB3:=hB2.trans (W20.mono hB2.size);(with_reducible refine(piece_any L HOK.out t HTT.out (some ⟨b,off,none⟩) c _ (HL.out.grow hB3)).mono ?_);rw[HK.out];rintro e w4 ⟨rfl,hb4⟩;have hB4:=hB3.trans (hb4.mono hB3.size);have hb5:=W20.trans (hb4.mono W20.size);have S0:w4.cell? ⟨w2.heap.size,0,none⟩=some (.int .i64 0):=(hb4.cell (p:=⟨w2.heap.size,0,none⟩) (by simp)).trans (by simp);have S1:w4.frozen? ⟨w2.heap.size,0,none⟩=false:=(hb4.frozen (p:=⟨w2.heap.size,0,none⟩) (by simp)).trans (by simp);have t0:=(hb5.cell (p:=⟨w.heap.size,0,none⟩) (by simp;omega)).trans T0;have t1:=(hb5.cell (p:=⟨w.heap.size,1,none⟩) (by simp;omega)).trans T1;have r0:=(hb5.cell (p:=⟨w.heap.size+1,0,none⟩) z2).trans R0;have r1:=(hb5.cell (p:=⟨w.heap.size+1,1,none⟩) z2).trans R1;have r2:=(hb5.frozen (p:=⟨w.heap.size+1,0,none⟩) z2).trans R2;have r3:=(hb5.frozen (p:=⟨w.heap.size+1,1,none⟩) z2).trans R3;have hBs4:w2.heap.size<w4.heap.size:=wl S0;clear T0 T1 R0 R1 R2 R3 hb4 hb5 W20 hB3))
   have T0:=t0;have T1:=t1;have R0:=r0;have R1:=r1;have R2:=r2;have R3:=r3;clear t0 t1 r0 r1 r2 r3;obtain⟨Bs,hBB⟩:=nm (w2.heap.size);simp only[hBB]at S0 S1 hBs4 z2⊢;clear hBB;generalize w4=W0 at *;obtain⟨c0,c1,c2,c3,c4,c5,c6,c7⟩:=HC.out;have d0:=(hB4.cell (p:=⟨b,off+i*8,none⟩) hb).trans c0;have d1:=(hB4.cell (p:=⟨b,off+i*8+1,none⟩) hb).trans c1;have d2:=(hB4.cell (p:=⟨b,off+i*8+2,none⟩) hb).trans c2;have d3:=(hB4.cell (p:=⟨b,off+i*8+3,none⟩) hb).trans c3;have d4:=(hB4.cell (p:=⟨b,off+i*8+4,none⟩) hb).trans c4;have d5:=(hB4.cell (p:=⟨b,off+i*8+5,none⟩) hb).trans c5;have d6:=(hB4.cell (p:=⟨b,off+i*8+6,none⟩) hb).trans c6;have d7:=(hB4.cell (p:=⟨b,off+i*8+7,none⟩) hb).trans c7;clear c0 c1 c2 c3 c4 c5 c6 c7
   have HX:Hid (∀x w',Sm Bs x W0 w'→W0.heap.size≤w'.heap.size∧w'.cell? ⟨b,off+i*8,none⟩=some (.int .i64 (pcg L i).f0)∧w'.cell? ⟨b,off+i*8+1,none⟩=some (.int .i64 (pcg L i).f1)∧w'.cell? ⟨b,off+i*8+2,none⟩=some (.int .i64 (pcg L i).a0)∧w'.cell? ⟨b,off+i*8+3,none⟩=some (.int .i64 (pcg L i).a1)∧w'.cell? ⟨b,off+i*8+4,none⟩=some (.int .i64 (pcg L i).b0)∧w'.cell? ⟨b,off+i*8+5,none⟩=some (.int .i64 (pcg L i).b1)∧w'.cell? ⟨b,off+i*8+6,none⟩=some (.int .i64 (pcg L i).c0)∧w'.cell? ⟨b,off+i*8+7,none⟩=some (.int .i64 (pcg L i).c1)∧w'.cell? ⟨w.heap.size,0,none⟩=some (.int .i64 t.1)∧w'.cell? ⟨w.heap.size,1,none⟩=some (.int .i64 t.2)):=lh fun x w' h=>
    ⟨h.size,(h.other (p:=⟨b,off+i*8,none⟩) (by simp;omega) (by simp;omega)).trans d0,(h.other (p:=⟨b,off+i*8+1,none⟩) (by simp;omega) (by simp;omega)).trans d1,(h.other (p:=⟨b,off+i*8+2,none⟩) (by simp;omega) (by simp;omega)).trans d2,(h.other (p:=⟨b,off+i*8+3,none⟩) (by simp;omega) (by simp;omega)).trans d3,(h.other (p:=⟨b,off+i*8+4,none⟩) (by simp;omega) (by simp;omega)).trans d4,(h.other (p:=⟨b,off+i*8+5,none⟩) (by simp;omega) (by simp;omega)).trans d5,(h.other (p:=⟨b,off+i*8+6,none⟩) (by simp;omega) (by simp;omega)).trans d6,(h.other (p:=⟨b,off+i*8+7,none⟩) (by simp;omega) (by simp;omega)).trans d7,(h.other (p:=⟨w.heap.size,0,none⟩) (by simp;omega) (by simp;omega)).trans T0,(h.other (p:=⟨w.heap.size,1,none⟩) (by simp;omega) (by simp;omega)).trans T1⟩
   have HY:Hid (∀x w',Sm Bs x W0 w'→w'.cell? ⟨w.heap.size+1,0,none⟩=some (.int .i64 0)∧w'.cell? ⟨w.heap.size+1,1,none⟩=some (.int .i64 0)∧w'.frozen? ⟨w.heap.size+1,0,none⟩=false∧w'.frozen? ⟨w.heap.size+1,1,none⟩=false):=lh fun x w' h=>
    ⟨(h.other (p:=⟨w.heap.size+1,0,none⟩) (by simp;omega) (by simp;omega)).trans R0,(h.other (p:=⟨w.heap.size+1,1,none⟩) (by simp;omega) (by simp;omega)).trans R1,(h.otherF (p:=⟨w.heap.size+1,0,none⟩) (by simp;omega) (by simp;omega)).trans R2,(h.otherF (p:=⟨w.heap.size+1,1,none⟩) (by simp;omega) (by simp;omega)).trans R3⟩
   have HZs:Hid (∀x w',Sm Bs x W0 w'→∀v0 v1,(fun w'=>W0.heap.size≤w'.heap.size∧w'.cell? ⟨b,off+i*8,none⟩=some (.int .i64 (pcg L i).f0)∧w'.cell? ⟨b,off+i*8+1,none⟩=some (.int .i64 (pcg L i).f1)∧w'.cell? ⟨b,off+i*8+2,none⟩=some (.int .i64 (pcg L i).a0)∧w'.cell? ⟨b,off+i*8+3,none⟩=some (.int .i64 (pcg L i).a1)∧w'.cell? ⟨b,off+i*8+4,none⟩=some (.int .i64 (pcg L i).b0)∧w'.cell? ⟨b,off+i*8+5,none⟩=some (.int .i64 (pcg L i).b1)∧w'.cell? ⟨b,off+i*8+6,none⟩=some (.int .i64 (pcg L i).c0)∧w'.cell? ⟨b,off+i*8+7,none⟩=some (.int .i64 (pcg L i).c1)∧w'.cell? ⟨w.heap.size,0,none⟩=some (.int .i64 t.1)∧w'.cell? ⟨w.heap.size,1,none⟩=some (.int .i64 t.2)) ((w'.setCell ⟨w.heap.size+1,0,none⟩ v0).setCell ⟨w.heap.size+1,1,none⟩ v1)):=lh fun x w' h v0 v1=>by
    obtain⟨h0,h1,h2,h3,h4,h5,h6,h7,h8,h9,h10⟩:=HX.out x w' h;refine⟨by simpa using h0,?_,?_,?_,?_,?_,?_,?_,?_,?_,?_⟩
    all_goals (refine(two_other (by omega) _ _ _).trans ?_;assumption)
   have hsd:Sm Bs 0 W0 W0.drew:=(Sm.refl S0 S1).drew;clear S0 S1 T0 T1 R0 R1 R2 R3 d0 d1 d2 d3 d4 d5 d6 d7;refine wp_region_held_drew (S:=(fun w'=>W0.heap.size≤w'.heap.size∧w'.cell? ⟨b,off+i*8,none⟩=some (.int .i64 (pcg L i).f0)∧w'.cell? ⟨b,off+i*8+1,none⟩=some (.int .i64 (pcg L i).f1)∧w'.cell? ⟨b,off+i*8+2,none⟩=some (.int .i64 (pcg L i).a0)∧w'.cell? ⟨b,off+i*8+3,none⟩=some (.int .i64 (pcg L i).a1)∧w'.cell? ⟨b,off+i*8+4,none⟩=some (.int .i64 (pcg L i).b0)∧w'.cell? ⟨b,off+i*8+5,none⟩=some (.int .i64 (pcg L i).b1)∧w'.cell? ⟨b,off+i*8+6,none⟩=some (.int .i64 (pcg L i).c0)∧w'.cell? ⟨b,off+i*8+7,none⟩=some (.int .i64 (pcg L i).c1)∧w'.cell? ⟨w.heap.size,0,none⟩=some (.int .i64 t.1)∧w'.cell? ⟨w.heap.size,1,none⟩=some (.int .i64 t.2))) (by kernel_rfl) (HX.out _ _ hsd) (fun hHeld=>?_);refine tkB 0 ?_;simp only[Act.put,s_1,s_2,s_3,s_4,s_6];refine tkB 1 ?_;simp only[Act.put,s_1,s_2,s_3,s_4,s_5,s_6];refine tkB 2 ?_;simp only[Act.put,s_1,s_2,s_3,s_4,s_5,s_6];refine tkB 3 ?_;simp only[Act.put,s_1,s_2,s_3,s_4,s_5,s_6];refine tkB 4 ?_;simp only[Act.put,s_1,s_2,s_3,s_4,s_5,s_6];refine tkB 5 ?_;simp only[Act.put,s_1,s_2,s_3,s_4,s_5,s_6];refine tkB 6 ?_;simp only[Act.put,s_1,s_2,s_3,s_4,s_5,s_6];refine tkB 7 ?_;simp only[Act.put,s_1,s_2,s_3,s_4,s_5,s_6];refine tkB 8 ?_;simp only[Act.put,s_1,s_2,s_3,s_4,s_5,s_6];refine tkB 9 ?_;simp only[Act.put,s_1,s_2,s_3,s_4,s_5,s_6];refine tkB 10 ?_;simp only[Act.put,s_1,s_2,s_3,s_4,s_5,s_6];refine tkB 11 ?_;simp only[Act.put,s_1,s_2,s_3,s_4,s_5,s_6];refine tkB 12 ?_;simp only[Act.put,s_1,s_2,s_3,s_4,s_5,s_6];refine r1 13 (fun K hK=>?_)
   try simp only[s_4,s_5,s_6]
   go_simp
   (go_at_call 62;go_split_ands;(with_reducible refine(HC1.out _ _ hsd.cell hsd.free).mono ?_);rintro z w5 ⟨rfl,ht1⟩;have hs1:=hsd.trans ht1)
   go_wp2_with fail
   refine hK.out _ _ (HX.out _ _ hs1) (fun hHeld=>?_);clear hK K
   try simp only[Act.put,s_1,s_2,s_3,s_4,s_5,s_6]
   refine r1 14 (fun K hK=>?_)
   try simp only[s_4,s_5,s_6]
   go_simp
   (go_at_call 63;go_split_ands;(with_reducible refine(HC2.out _ _ hs1.cell hs1.free).mono ?_);rintro z w6 ⟨rfl,ht2⟩;have hs2:=hs1.trans ht2)
   go_wp2_with fail
   refine hK.out _ _ (HX.out _ _ hs2) (fun hHeld=>?_);clear hK K
   try simp only[Act.put,s_1,s_2,s_3,s_4,s_5,s_6]
   refine r1 15 (fun K hK=>?_)
   try simp only[s_4,s_5,s_6]
   go_simp
   (go_at_call 70;go_split_ands;(with_reducible refine(HC3.out _ _ hs2.cell).mono ?_);rintro z w7 ⟨rfl,hb7⟩;have hs3:=hs2.then hb7)
   go_wp2_with fail
   refine hK.out _ _ (HX.out _ _ hs3) (fun hHeld=>?_);clear hK K
   try simp only[Act.put,s_1,s_2,s_3,s_4,s_5,s_6]
   refine tkB 16 ?_;simp only[Act.put,s_1,s_2,s_3,s_4,s_5,s_6];refine tkB 17 ?_;simp only[Act.put,s_1,s_2,s_3,s_4,s_5,s_6];refine r1 18 (fun K hK=>?_);go_split_ands;obtain⟨g0,g1,g2,g3⟩:=HY.out _ _ hs3
   try simp only[s_4,s_5,s_6]
   go_wp2_with fail
   refine hK.out _ _ (HZs.out _ _ hs3 _ _) (fun hHeld=>?_);clear hK K
   try simp only[Act.put,s_1,s_2,s_3,s_4,s_5,s_6]
   refine tkB 19 ?_;simp only[Act.put,s_1,s_2,s_3,s_4,s_5,s_6];refine wpAnyH_done (by kernel_rfl) ?_ _
   go_wp2_with fail
   have l0:=(two_cells (v0:=.int .i64 q1) (v1:=.int .i64 q2) g0 g1).1;have l1:=(two_cells (v0:=.int .i64 q1) (v1:=.int .i64 q2) g0 g1).2;refine bodyPost_ret (v:=.tuple #[.agg #[.int .i64 q1,.int .i64 q2],.int .i64 K2.2]) (by simp[results,Tryz.results39,go_sem,l0,l1]) rfl ⟨rfl,?_⟩;have hB5:=hB4.trans (hs3.below (n:=w.heap.size) (by omega) (by omega));exact(hB5.setCell (p:=⟨w.heap.size+1,0,none⟩) (Nat.le_succ _) _).setCell (p:=⟨w.heap.size+1,1,none⟩) (Nat.le_succ _) _
end
section
def zMv:Mv:=⟨⟨#[]⟩,0,0,0,0⟩
def mvI(M:List Mv)(s:ByteArray):Int:=mov_first M (fun y=>decide (y.name=s))
def mvB(M:List Mv)(s:ByteArray):Bool:=decide (0≤mvI M s)
def mvO(M:List Mv)(s:ByteArray):Mv:=if mvI M s<0 then zMv else mg M (mvI M s).toNat
theorem mv_no{M:List Mv}{s:ByteArray}(h:mvI M s=-1):mvB M s=false∧mvO M s=zMv:=by
 unfold mvB mvO;rw[h];exact⟨rfl,rfl⟩
theorem mv_yes{M:List Mv}{s:ByteArray}{k:Nat}(h:mvI M s=k):mvB M s=true∧mvO M s=mg M k:=by
 unfold mvB mvO;rw[h];exact⟨dT (Int.natCast_nonneg k),by rw[if_neg (by omega)];rfl⟩
def ordrAt(C:List CueR)(S N:List Int)(i k j:Nat):Prop:=mvB (cg C k).moves (mg (cg C i).moves j).name=true→ig S k+ig N k≤ig S i
def OrdrOK(C:List CueR)(S N:List Int):Prop:=∀i,i<C.length→∀k,k<i→∀j,j<(cg C i).moves.length→ordrAt C S N i k j
noncomputable def ordrB(C:List CueR)(S N:List Int):Bool:=@decide (OrdrOK C S N) (Classical.propDecidable _)
theorem ordrB_iff{C:List CueR}{S N:List Int}:ordrB C S N=true↔OrdrOK C S N:=by exact @decide_eq_true_iff (OrdrOK C S N) (Classical.propDecidable _)
theorem ordr_no{C:List CueR}{S N:List Int}(n:¬OrdrOK C S N):ordrB C S N=false:=by
 cases h:ordrB C S N
 ·rfl
 ·exact absurd (ordrB_iff.1 h) n
def zPc:Pc:=⟨0,0,0,0,0,0,0,0⟩
def pieceP(x:Pc)(s z:Int)(up:Bool):Pc×Int:=
 let f:=addP (lowN s 1000) (lowD s 1000) x.f0 x.f1
 if f.2.2=0 then
  let a:=addP z 1 (if up then x.a0 else -x.a0) x.a1
  (⟨f.1,f.2.1,a.1,a.2.1,if up then x.b0 else -x.b0,x.b1,if up then x.c0 else -x.c0,x.c1⟩,a.2.2)
 else(zPc,f.2.2)
def lastP(out:List Pc):Pc:=pcg out (out.length-1)
def putP(out:List Pc)(y:Pc):List Pc:=if(lastP out).f0=y.f0∧(lastP out).f1=y.f1 then out.set (out.length-1) y else out++[y]
def wayTo(s z:Int)(up:Bool)(out W:List Pc):Nat→List Pc×Int
 | 0=>(out,0)
 | k+1=>if(wayTo s z up out W k).2=0 then(if(pieceP (pcg W k) s z up).2=0 then(putP (wayTo s z up out W k).1 (pieceP (pcg W k) s z up).1,0)else([],(pieceP (pcg W k) s z up).2))else wayTo s z up out W k
noncomputable def pathTo(h:HouseR)(C:List CueR)(S:List Int)(k:Nat):Nat→List Pc×Int
 | 0=>([⟨0,1,(hg h.sets k).high,1,0,1,0,1⟩],0)
 | n+1=>
  let r:=pathTo h C S k n
  let m:=mvO (cg C n).moves (hg h.sets k).name
  let z:=ig (trimL h C n) k
  if r.2=0∧mvB (cg C n).moves (hg h.sets k).name=true∧m.to≠z then
   let d:=if z≤m.to then m.to-z else z-m.to
   let W:=curveL d m.rise m.fall (topV d m)
   wayTo (ig S n) z (decide (z<m.to)) r.1 W W.length
  else r
noncomputable def pathP(h:HouseR)(C:List CueR)(S:List Int)(k:Nat):List Pc×Int:=
 if(pathTo h C S k C.length).2=0 then(if 200<(pathTo h C S k C.length).1.length then([],4)else pathTo h C S k C.length)else([],(pathTo h C S k C.length).2)
theorem put_len(out:List Pc)(y:Pc):0<(putP out y).length∧(putP out y).length≤out.length+1∧out.length≤(putP out y).length∨out.length=0∧(putP out y).length≤out.length+1∧out.length≤(putP out y).length:=by
 unfold putP
 split
 ·rw[List.length_set];omega
 ·rw[List.length_append];simp
theorem wayTo_len(s z:Int)(up:Bool)(out W:List Pc):∀k,(wayTo s z up out W k).2=0→out.length≤(wayTo s z up out W k).1.length∧(wayTo s z up out W k).1.length≤out.length+k
 | 0,_=>by simp[wayTo]
 | k+1,h=>by
  simp only[wayTo]at h⊢
  by_cases a:(wayTo s z up out W k).2=0
  ·rw[if_pos a]at h⊢
   have ih:=wayTo_len s z up out W k a
   by_cases b:(pieceP (pcg W k) s z up).2=0
   ·rw[if_pos b]at h⊢
    have p:=put_len (wayTo s z up out W k).1 (pieceP (pcg W k) s z up).1;show _≤(putP _ _).length∧(putP _ _).length≤_;omega
   ·rw[if_neg b]at h;exact absurd h b
  ·rw[if_neg a]at h;exact absurd h a
theorem wayTo_err{s z:Int}{up:Bool}{out W:List Pc}{k:Nat}(h:(wayTo s z up out W k).2≠0):∀n,k≤n→wayTo s z up out W n=wayTo s z up out W k
 | 0,hn=>by
  obtain rfl:k=0:=by omega
  rfl
 | n+1,hn=>by
  rcases Nat.lt_or_ge n k with l | l
  ·obtain rfl:k=n+1:=by omega
   rfl
  ·have ih:=wayTo_err h n l
   rw[wayTo,ih,if_neg h]
theorem wayTo_fail{s z:Int}{up:Bool}{out W:List Pc}{k:Nat}(h:(wayTo s z up out W k).2=0)(e:(pieceP (pcg W k) s z up).2≠0):wayTo s z up out W (k+1)=([],(pieceP (pcg W k) s z up).2):=by
 rw[wayTo,if_pos h,if_neg e]
theorem wayTo_next{s z:Int}{up:Bool}{out W:List Pc}{k:Nat}(h:(wayTo s z up out W k).2=0)(e:(pieceP (pcg W k) s z up).2=0):wayTo s z up out W (k+1)=(putP (wayTo s z up out W k).1 (pieceP (pcg W k) s z up).1,0):=by
 rw[wayTo,if_pos h,if_pos e]
theorem pathTo_err{h:HouseR}{C:List CueR}{S:List Int}{k n:Nat}(e:(pathTo h C S k n).2≠0):∀m,n≤m→pathTo h C S k m=pathTo h C S k n
 | 0,hn=>by
  obtain rfl:n=0:=by omega
  rfl
 | m+1,hn=>by
  rcases Nat.lt_or_ge m n with l | l
  ·obtain rfl:n=m+1:=by omega
   rfl
  ·have ih:=pathTo_err e m l
   rw[pathTo,ih];exact if_neg (fun q=>e q.1)
noncomputable def wayD(h:HouseR)(C:List CueR)(k n:Nat):Int:=if ig (trimL h C n) k≤(mvO (cg C n).moves (hg h.sets k).name).to then(mvO (cg C n).moves (hg h.sets k).name).to-ig (trimL h C n) k else ig (trimL h C n) k-(mvO (cg C n).moves (hg h.sets k).name).to
theorem pathTo_stay{h:HouseR}{C:List CueR}{S:List Int}{k n:Nat}(e:mvB (cg C n).moves (hg h.sets k).name=false∨(mvO (cg C n).moves (hg h.sets k).name).to=ig (trimL h C n) k):pathTo h C S k (n+1)=pathTo h C S k n:=by
 rw[pathTo];refine if_neg (fun q=>?_);rcases e with e | e
 ·rw[e]at q;exact absurd q.2.1 (by decide)
 ·exact q.2.2 e
theorem pathTo_go{h:HouseR}{C:List CueR}{S:List Int}{k n:Nat}{m:Mv}{z d:Int}{W:List Pc}(e:(pathTo h C S k n).2=0)(b:mvB (cg C n).moves (hg h.sets k).name=true)(hm:mvO (cg C n).moves (hg h.sets k).name=m)(hz:ig (trimL h C n) k=z)(ne:m.to≠z)(hd:(if z≤m.to then m.to-z else z-m.to)=d)(hW:curveL d m.rise m.fall (topV d m)=W):
  pathTo h C S k (n+1)=wayTo (ig S n) z (decide (z<m.to)) (pathTo h C S k n).1 W W.length:=by
 rw[pathTo];simp only[hm,hz,hd,hW];exact if_pos ⟨e,b,ne⟩
theorem curve_len4(d R F t:Int):(curveL d R F t).length≤4:=by
 unfold curveL
 split
 ·simp
 ·split<;>simp
theorem pathTo_len(h:HouseR)(C:List CueR)(S:List Int)(k:Nat):∀n,(pathTo h C S k n).2=0→1≤(pathTo h C S k n).1.length∧(pathTo h C S k n).1.length≤1+4*n
 | 0,_=>by simp[pathTo]
 | n+1,e=>by
  by_cases a:(pathTo h C S k n).2=0
  ·have ih:=pathTo_len h C S k n a
   by_cases b:mvB (cg C n).moves (hg h.sets k).name=true
   ·by_cases c:(mvO (cg C n).moves (hg h.sets k).name).to=ig (trimL h C n) k
    ·rw[pathTo_stay (.inr c)];omega
    ·have g:=pathTo_go (S:=S) a b rfl rfl c rfl rfl
     rw[g]at e⊢;have l:=wayTo_len _ _ _ _ _ _ e;have m:=curve_len4 (if ig (trimL h C n) k≤(mvO (cg C n).moves (hg h.sets k).name).to then(mvO (cg C n).moves (hg h.sets k).name).to-ig (trimL h C n) k else ig (trimL h C n) k-(mvO (cg C n).moves (hg h.sets k).name).to) (mvO (cg C n).moves (hg h.sets k).name).rise (mvO (cg C n).moves (hg h.sets k).name).fall (topV (if ig (trimL h C n) k≤(mvO (cg C n).moves (hg h.sets k).name).to then(mvO (cg C n).moves (hg h.sets k).name).to-ig (trimL h C n) k else ig (trimL h C n) k-(mvO (cg C n).moves (hg h.sets k).name).to) (mvO (cg C n).moves (hg h.sets k).name));omega
   ·rw[pathTo_stay (.inl (Bool.eq_false_iff.2 b))];omega
  ·rw[pathTo_err a (n+1) (Nat.le_succ n)]at e;exact absurd e a
theorem pathP_err{h:HouseR}{C:List CueR}{S:List Int}{k n:Nat}(hn:n≤C.length)(e:(pathTo h C S k n).2≠0):pathP h C S k=([],(pathTo h C S k n).2):=by
 unfold pathP;rw[pathTo_err e _ hn,if_neg e]
theorem pathP_full{h:HouseR}{C:List CueR}{S:List Int}{k:Nat}(e:(pathTo h C S k C.length).2=0)(l:200<(pathTo h C S k C.length).1.length):pathP h C S k=([],4):=by
 unfold pathP;rw[if_pos e,if_pos l]
theorem pathP_ok{h:HouseR}{C:List CueR}{S:List Int}{k:Nat}(e:(pathTo h C S k C.length).2=0)(l:¬200<(pathTo h C S k C.length).1.length):pathP h C S k=pathTo h C S k C.length:=by
 unfold pathP;rw[if_pos e,if_neg l]
end
section
open Go.RowKit Go.Shelf
def setFrom(w:World)(b:Nat):Nat→List Value→World
 | _,[]=>w
 | j,v::vs=>setFrom (w.setCell ⟨b,j,none⟩ v) b (j+1) vs
theorem below_from{m b:Nat}{W:World}:∀(vs:List Value) (w:World) (j:Nat),Below m W w→m≤b→Below m W (setFrom w b j vs)
 | [],_,_,h,_=>h
 | v::vs,_,j,h,hb=>below_from vs _ (j+1) (h.setCell (p:=⟨b,j,none⟩) hb v) hb
theorem far_from:∀(vs:List Value) (w:World) (b j i:Nat),i<j→(setFrom w b j vs).cell? ⟨b,i,none⟩=w.cell? ⟨b,i,none⟩
 | [],_,_,_,_,_=>rfl
 | v::vs,w,b,j,i,h=>(far_from vs _ b (j+1) i (by omega)).trans (World.cell?_setCell_other _ _ _ _ (by intro q;injection q with _ q;omega))
theorem read_from:∀(vs:List Value) (w:World) (b j:Nat),(∀i,i<vs.length→(w.cell? ⟨b,j+i,none⟩).isSome=true)→∀i (h:i<vs.length),(setFrom w b j vs).cell? ⟨b,j+i,none⟩=some vs[i]
 | [],_,_,_,_,i,h=>absurd h (Nat.not_lt_zero _)
 | v::vs,w,b,j,hs,i,h=>by
  have h0:=hs 0 (by simp);obtain⟨u,hu⟩:=Option.isSome_iff_exists.1 h0
  match i,h with
  | 0,_=>exact(far_from vs _ b (j+1) (j+0) (by omega)).trans (World.cell?_setCell_same _ _ _ hu)
  | i+1,h=>
   have:=read_from vs (w.setCell ⟨b,j,none⟩ v) b (j+1) (fun k hk=>by
    rw[World.cell?_setCell_other _ _ _ _ (by intro q;injection q with _ q;omega),show j+1+k=j+(k+1)by omega];exact hs (k+1) (by simpa using hk)) i (by simpa using h)
   rw[show j+(i+1)=j+1+i by omega];exact this
end
end Go.Proofs.YtebofaenlhhkaaaGreat
