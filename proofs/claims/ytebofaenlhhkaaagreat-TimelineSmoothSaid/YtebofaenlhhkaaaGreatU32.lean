/-
  THE WALK of law38's example.
-/
import Derived.ProofKit
import Derived.OpenShut
import Derived.ChangeSame
import Derived.Carry
import Derived.RowKit
import Derived.Deep.Slices
import Derived.Deep.Fields
import Derived.Lib.SmallJoins
import Derived.Test.YtebofaenlhhkaaaGreatU31
namespace Go.Proofs.YtebofaenlhhkaaaGreat
set_option maxRecDepth 100000
set_option maxHeartbeats 80000000
section
open Go.RowKit Go.Shelf
attribute [local go_sem] Oper.semAt_some
def Hs(w:World)(b:Nat)(vs:List Value):Prop:=∀i (h:i<vs.length),w.cell? ⟨b,i,none⟩=some vs[i]
theorem Hs.new(w:World)(vs:List Value)(t:TypeId){n:Nat}(hn:w.heap.size=n):Hs (w.alloc (.cells vs.toArray t)) n vs:=fun i h=>by
 subst hn
 simp[h]
theorem Hs.at{w:World}{b:Nat}{vs:List Value}(h:Hs w b vs)(i:Nat){v:Value}(e:vs[i]? =some v):w.cell? ⟨b,i,none⟩=some v:=by
 obtain⟨hi,rfl⟩:=List.getElem?_eq_some_iff.1 e;exact h i hi
theorem Hs.al{w:World}{b:Nat}{vs:List Value}(h:Hs w b vs)(o:Obj):Hs (w.alloc o) b vs:=fun i hi=>
 ((below_new w o).cell (p:=⟨b,i,none⟩) (wl (h i hi))).trans (h i hi)
theorem Hs.far{w:World}{b b2:Nat}{vs:List Value}(h:Hs w b vs)(hne:b≠b2):∀(us:List Value) (j:Nat),Hs (setFrom w b2 j us) b vs:=by
 intro us
 induction us generalizing w with
 | nil=>exact fun _=>h
 | cons u us ih=>exact fun j=>ih (w:=w.setCell ⟨b2,j,none⟩ u) (fun i hi=>(World.cell?_setCell_other _ _ _ _ (fun x=>hne (congrArg Addr.block x).symm)).trans (h i hi)) (j+1)
theorem Hs.put{w:World}{b:Nat}{us vs:List Value}(h:Hs w b us)(hl:vs.length=us.length):Hs (setFrom w b 0 vs) b vs:=fun i hi=>by
 have:=read_from vs w b 0 (fun k hk=>by rw[Nat.zero_add,h k (by omega)];rfl) i hi
 rwa [Nat.zero_add]at this
theorem size_from:∀(us:List Value) (w:World) (b j:Nat),(setFrom w b j us).heap.size=w.heap.size
 | [],_,_,_=>rfl
 | u::us,w,b,j=>(size_from us (w.setCell ⟨b,j,none⟩ u) b (j+1)).trans (by simp)
theorem free_from:∀(us:List Value) (w:World) (b j:Nat) (p:Addr),(setFrom w b j us).frozen? p=w.frozen? p
 | [],_,_,_,_=>rfl
 | u::us,w,b,j,p=>(free_from us (w.setCell ⟨b,j,none⟩ u) b (j+1) p).trans (by simp)
structure XS(w W:World)(n b1 b2 b3 b4 b5 b6 b7:Nat)(a c:List Value):Prop where
 below:Below n w W
 size:b7<W.heap.size
 h0:Hs W n a
 h1:Hs W b1 c
 h2:Hs W b2 [.int .i64 0,.int .i64 2000]
 h3:Hs W b3 [.string ⟨#[115]⟩,.int .i64 0,.int .i64 0,.int .i64 5000,.int .i64 2000,.slice (some ⟨b2,0,none⟩) 2 2,.int .i64 0,.int .i64 0,.int .i64 1,.int .i64 1,.int .i64 0,.slice none 0 0,.slice none 0 0]
 h4:Hs W b4 [.string ⟨#[104]⟩,.int .i64 5000,.slice (some ⟨b3,0,none⟩) 1 1,.slice none 0 0]
 h5:Hs W b5 [.string ⟨#[115]⟩,.int .i64 4000,.int .i64 200,.int .i64 100,.int .i64 100]
 h6:Hs W b6 [.string ⟨#[113]⟩,.string ⟨#[]⟩,.int .i64 1,.int .i64 0,.slice (some ⟨b5,0,none⟩) 1 1,.int .i64 0,.int .i64 0]
 h7:Hs W b7 [.slice (some ⟨b6,0,none⟩) 1 1,.slice none 0 0]
 fr:∀i,W.frozen? ⟨n,i,none⟩=false∧W.frozen? ⟨b1,i,none⟩=false
structure XB(n b1 b2 b3 b4 b5 b6 b7:Nat):Prop where
 e1:b1=n+1
 e2:b2=n+2
 e3:b3=n+3
 e4:b4=n+4
 e5:b5=n+5
 e6:b6=n+6
 e7:b7=n+7
section
variable {w W:World} {n b1 b2 b3 b4 b5 b6 b7:Nat} {a c:List Value}
theorem XS.al(h:XS w W n b1 b2 b3 b4 b5 b6 b7 a c)(e:XB n b1 b2 b3 b4 b5 b6 b7)(o:Array Value)(t:TypeId):XS w (W.alloc (.cells o t)) n b1 b2 b3 b4 b5 b6 b7 a c:=by
 have:=h.size;have:=e.e7;exact⟨h.below.alloc (by omega) _,by simp;omega,h.h0.al _,h.h1.al _,h.h2.al _,h.h3.al _,h.h4.al _,h.h5.al _,h.h6.al _,h.h7.al _,fun i=>⟨(frozen?_alloc_cells W o t _).trans (h.fr i).1,(frozen?_alloc_cells W o t _).trans (h.fr i).2⟩⟩
theorem XS.s0(h:XS w W n b1 b2 b3 b4 b5 b6 b7 a c)(e:XB n b1 b2 b3 b4 b5 b6 b7)(vs:List Value)(hl:vs.length=a.length):XS w (setFrom W n 0 vs) n b1 b2 b3 b4 b5 b6 b7 vs c:=by
 obtain⟨e1,e2,e3,e4,e5,e6,e7⟩:=e;exact⟨below_from vs W 0 h.below (Nat.le_refl _),by rw[size_from];exact h.size,h.h0.put hl,h.h1.far (by omega) _ _,h.h2.far (by omega) _ _,h.h3.far (by omega) _ _,h.h4.far (by omega) _ _,h.h5.far (by omega) _ _,h.h6.far (by omega) _ _,h.h7.far (by omega) _ _,fun i=>by rw[free_from,free_from];exact h.fr i⟩
theorem XS.s1(h:XS w W n b1 b2 b3 b4 b5 b6 b7 a c)(e:XB n b1 b2 b3 b4 b5 b6 b7)(vs:List Value)(hl:vs.length=c.length):XS w (setFrom W b1 0 vs) n b1 b2 b3 b4 b5 b6 b7 a vs:=by
 obtain⟨e1,e2,e3,e4,e5,e6,e7⟩:=e;exact⟨below_from vs W 0 h.below (by omega),by rw[size_from];exact h.size,h.h0.far (by omega) _ _,h.h1.put hl,h.h2.far (by omega) _ _,h.h3.far (by omega) _ _,h.h4.far (by omega) _ _,h.h5.far (by omega) _ _,h.h6.far (by omega) _ _,h.h7.far (by omega) _ _,fun i=>by rw[free_from,free_from];exact h.fr i⟩
theorem XS.drew(h:XS w W n b1 b2 b3 b4 b5 b6 b7 a c):XS w W.drew n b1 b2 b3 b4 b5 b6 b7 a c:=⟨h.below.drew,h.size,h.h0,h.h1,h.h2,h.h3,h.h4,h.h5,h.h6,h.h7,h.fr⟩
theorem XS.held(h:XS w W n b1 b2 b3 b4 b5 b6 b7 a c):W.cell? ⟨b4,0,none⟩=some (.string ⟨#[104]⟩)∧W.cell? ⟨b4,1,none⟩=some (.int .i64 5000)∧W.cell? ⟨b4,2,none⟩=some (.slice (some ⟨b3,0,none⟩) 1 1)∧W.cell? ⟨b4,3,none⟩=some (.slice none 0 0)∧W.cell? ⟨b7,0,none⟩=some (.slice (some ⟨b6,0,none⟩) 1 1)∧W.cell? ⟨b7,1,none⟩=some (.slice none 0 0):=
 ⟨h.h4.at 0 rfl,h.h4.at 1 rfl,h.h4.at 2 rfl,h.h4.at 3 rfl,h.h7.at 0 rfl,h.h7.at 1 rfl⟩
theorem one_lt{i:Nat}(h:i<1):i=0:=by omega
theorem XS.got(h:XS w W n b1 b2 b3 b4 b5 b6 b7 a c)(e:XB n b1 b2 b3 b4 b5 b6 b7):HouseIn W (xH (some ⟨b2,0,none⟩) (some ⟨b3,0,none⟩))∧SheetIn W (xT (some ⟨b5,0,none⟩) (some ⟨b6,0,none⟩)):=by
 obtain⟨e1,e2,e3,e4,e5,e6,e7⟩:=e;have hz:=h.size
 have si:SetIn W (xS (some ⟨b2,0,none⟩)):=⟨⟨fun _=>⟨b2,0,rfl,by omega,fun i hi=>by
  have hi':i<2:=hi;obtain rfl | rfl:i=0∨i=1:=by omega
  ·exact h.h2.at 0 rfl
  ·exact h.h2.at 1 rfl⟩,fun hl=>absurd hl (Nat.lt_irrefl 0),fun hl=>absurd hl (Nat.lt_irrefl 0),Nat.le_refl 2,Nat.le_refl 0,Nat.le_refl 0,(fun e=>by cases e),fun _=>rfl,fun _=>rfl⟩,fun x hx=>absurd hx (by simp[xS]),fun x hx=>absurd hx (by simp[xS])⟩
 refine⟨⟨⟨fun _=>⟨b3,0,rfl,by omega,fun i hi=>?_⟩,fun hl=>absurd hl (Nat.lt_irrefl 0),fun i hi=>?_,Nat.le_refl 1,Nat.le_refl 0,(fun e=>by cases e),fun _=>rfl⟩,fun i hi=>?_,(show 1≤1000 by decide),(show 0≤1000 by decide)⟩,?_⟩
 ·obtain rfl:=one_lt hi
  exact⟨h.h3.at 0 rfl,h.h3.at 1 rfl,h.h3.at 2 rfl,h.h3.at 3 rfl,h.h3.at 4 rfl,h.h3.at 5 rfl,h.h3.at 6 rfl,h.h3.at 7 rfl,h.h3.at 8 rfl,h.h3.at 9 rfl,h.h3.at 10 rfl,h.h3.at 11 rfl,h.h3.at 12 rfl⟩
 ·obtain rfl:=one_lt hi
  exact si.toSetIn0
 ·obtain rfl:=one_lt hi
  exact si
 ·refine⟨⟨fun _=>⟨b6,0,rfl,by omega,fun i hi=>?_⟩,fun i hi=>?_,fun hl=>absurd hl (Nat.lt_irrefl 0),Nat.le_refl 1,(fun e=>by cases e),fun i hi=>?_,fun i hi=>?_,Nat.le_refl 0,fun _=>rfl⟩,(show 1≤1000 by decide),fun i hi=>?_,fun x hx=>absurd hx (by simp[xT])⟩
  ·obtain rfl:=one_lt hi
   exact⟨h.h6.at 0 rfl,h.h6.at 1 rfl,h.h6.at 2 rfl,h.h6.at 3 rfl,h.h6.at 4 rfl,h.h6.at 5 rfl,h.h6.at 6 rfl⟩
  ·obtain rfl:=one_lt hi
   refine fun _=>⟨b5,0,rfl,by omega,fun i hi=>?_⟩;obtain rfl:=one_lt hi;exact⟨h.h5.at 0 rfl,h.h5.at 1 rfl,h.h5.at 2 rfl,h.h5.at 3 rfl,h.h5.at 4 rfl⟩
  ·obtain rfl:=one_lt hi
   exact Nat.le_refl 1
  ·obtain rfl:=one_lt hi
   exact(fun e=>by cases e)
  ·obtain rfl:=one_lt hi
   exact(show 1≤1000 by decide)
end
theorem xs_new(w:World)(n b1 b2 b3 b4 b5 b6 b7:Nat)(hn:w.heap.size=n)(e:XB n b1 b2 b3 b4 b5 b6 b7):XS w ((((((((w.alloc (.cells #[.string ⟨#[]⟩,.int .i64 0,.slice none 0 0,.slice none 0 0] 25)).alloc (.cells #[.slice none 0 0,.slice none 0 0] 29)).alloc (.cells #[.int .i64 0,.int .i64 2000] 3)).alloc (.cells #[.string ⟨#[115]⟩,.int .i64 0,.int .i64 0,.int .i64 5000,.int .i64 2000,.slice (some ⟨b2,0,none⟩) 2 2,.int .i64 0,.int .i64 0,.int .i64 1,.int .i64 1,.int .i64 0,.slice none 0 0,.slice none 0 0] 59)).alloc (.cells #[.string ⟨#[104]⟩,.int .i64 5000,.slice (some ⟨b3,0,none⟩) 1 1,.slice none 0 0] 25)).alloc (.cells #[.string ⟨#[115]⟩,.int .i64 4000,.int .i64 200,.int .i64 100,.int .i64 100] 94)).alloc (.cells #[.string ⟨#[113]⟩,.string ⟨#[]⟩,.int .i64 1,.int .i64 0,.slice (some ⟨b5,0,none⟩) 1 1,.int .i64 0,.int .i64 0] 86)).alloc (.cells #[.slice (some ⟨b6,0,none⟩) 1 1,.slice none 0 0] 29)) n b1 b2 b3 b4 b5 b6 b7 [.string ⟨#[]⟩,.int .i64 0,.slice none 0 0,.slice none 0 0] [.slice none 0 0,.slice none 0 0]:=by
 obtain⟨e1,e2,e3,e4,e5,e6,e7⟩:=e;have H0:=Hs.new w [.string ⟨#[]⟩,.int .i64 0,.slice none 0 0,.slice none 0 0] 25 (n:=n) (by exact hn);have z0:(w.alloc (.cells #[.string ⟨#[]⟩,.int .i64 0,.slice none 0 0,.slice none 0 0] 25)).heap.size=n+1:=by simp[hn]
 have q0:Below n w (w.alloc (.cells #[.string ⟨#[]⟩,.int .i64 0,.slice none 0 0,.slice none 0 0] 25)):=by have:=below_new w (.cells #[.string ⟨#[]⟩,.int .i64 0,.slice none 0 0,.slice none 0 0] 25);rwa [hn]at this
 have f0:∀i,(w.alloc (.cells #[.string ⟨#[]⟩,.int .i64 0,.slice none 0 0,.slice none 0 0] 25)).frozen? ⟨n,i,none⟩=false:=fun i=>World.frozen?_alloc_at _ _ _ _ (by exact hn.symm);generalize w.alloc (.cells #[.string ⟨#[]⟩,.int .i64 0,.slice none 0 0,.slice none 0 0] 25)=w1 at *;have H1:=Hs.new w1 [.slice none 0 0,.slice none 0 0] 29 (n:=b1) (by rw[z0];omega);replace H0:=H0.al (.cells #[.slice none 0 0,.slice none 0 0] 29);have z1:(w1.alloc (.cells #[.slice none 0 0,.slice none 0 0] 29)).heap.size=n+2:=by simp[z0]
 replace q0:=q0.alloc (by omega) (.cells #[.slice none 0 0,.slice none 0 0] 29);have q1:=q0;replace f0:∀i,(w1.alloc (.cells #[.slice none 0 0,.slice none 0 0] 29)).frozen? ⟨n,i,none⟩=false:=fun i=>(frozen?_alloc_cells _ _ _ _).trans (f0 i);have f1:∀i,(w1.alloc (.cells #[.slice none 0 0,.slice none 0 0] 29)).frozen? ⟨b1,i,none⟩=false:=fun i=>World.frozen?_alloc_at _ _ _ _ (by rw[z0];omega);generalize w1.alloc (.cells #[.slice none 0 0,.slice none 0 0] 29)=w2 at *;have H2:=Hs.new w2 [.int .i64 0,.int .i64 2000] 3 (n:=b2) (by rw[z1];omega);replace H0:=H0.al (.cells #[.int .i64 0,.int .i64 2000] 3);replace H1:=H1.al (.cells #[.int .i64 0,.int .i64 2000] 3);have z2:(w2.alloc (.cells #[.int .i64 0,.int .i64 2000] 3)).heap.size=n+3:=by simp[z1]
 replace q1:=q1.alloc (by omega) (.cells #[.int .i64 0,.int .i64 2000] 3);have q2:=q1;replace f0:∀i,(w2.alloc (.cells #[.int .i64 0,.int .i64 2000] 3)).frozen? ⟨n,i,none⟩=false:=fun i=>(frozen?_alloc_cells _ _ _ _).trans (f0 i);replace f1:∀i,(w2.alloc (.cells #[.int .i64 0,.int .i64 2000] 3)).frozen? ⟨b1,i,none⟩=false:=fun i=>(frozen?_alloc_cells _ _ _ _).trans (f1 i);generalize w2.alloc (.cells #[.int .i64 0,.int .i64 2000] 3)=w3 at *;have H3:=Hs.new w3 [.string ⟨#[115]⟩,.int .i64 0,.int .i64 0,.int .i64 5000,.int .i64 2000,.slice (some ⟨b2,0,none⟩) 2 2,.int .i64 0,.int .i64 0,.int .i64 1,.int .i64 1,.int .i64 0,.slice none 0 0,.slice none 0 0] 59 (n:=b3) (by rw[z2];omega);replace H0:=H0.al (.cells #[.string ⟨#[115]⟩,.int .i64 0,.int .i64 0,.int .i64 5000,.int .i64 2000,.slice (some ⟨b2,0,none⟩) 2 2,.int .i64 0,.int .i64 0,.int .i64 1,.int .i64 1,.int .i64 0,.slice none 0 0,.slice none 0 0] 59);replace H1:=H1.al (.cells #[.string ⟨#[115]⟩,.int .i64 0,.int .i64 0,.int .i64 5000,.int .i64 2000,.slice (some ⟨b2,0,none⟩) 2 2,.int .i64 0,.int .i64 0,.int .i64 1,.int .i64 1,.int .i64 0,.slice none 0 0,.slice none 0 0] 59);replace H2:=H2.al (.cells #[.string ⟨#[115]⟩,.int .i64 0,.int .i64 0,.int .i64 5000,.int .i64 2000,.slice (some ⟨b2,0,none⟩) 2 2,.int .i64 0,.int .i64 0,.int .i64 1,.int .i64 1,.int .i64 0,.slice none 0 0,.slice none 0 0] 59);have z3:(w3.alloc (.cells #[.string ⟨#[115]⟩,.int .i64 0,.int .i64 0,.int .i64 5000,.int .i64 2000,.slice (some ⟨b2,0,none⟩) 2 2,.int .i64 0,.int .i64 0,.int .i64 1,.int .i64 1,.int .i64 0,.slice none 0 0,.slice none 0 0] 59)).heap.size=n+4:=by simp[z2]
 replace q2:=q2.alloc (by omega) (.cells #[.string ⟨#[115]⟩,.int .i64 0,.int .i64 0,.int .i64 5000,.int .i64 2000,.slice (some ⟨b2,0,none⟩) 2 2,.int .i64 0,.int .i64 0,.int .i64 1,.int .i64 1,.int .i64 0,.slice none 0 0,.slice none 0 0] 59);have q3:=q2;replace f0:∀i,(w3.alloc (.cells #[.string ⟨#[115]⟩,.int .i64 0,.int .i64 0,.int .i64 5000,.int .i64 2000,.slice (some ⟨b2,0,none⟩) 2 2,.int .i64 0,.int .i64 0,.int .i64 1,.int .i64 1,.int .i64 0,.slice none 0 0,.slice none 0 0] 59)).frozen? ⟨n,i,none⟩=false:=fun i=>(frozen?_alloc_cells _ _ _ _).trans (f0 i);replace f1:∀i,(w3.alloc (.cells #[.string ⟨#[115]⟩,.int .i64 0,.int .i64 0,.int .i64 5000,.int .i64 2000,.slice (some ⟨b2,0,none⟩) 2 2,.int .i64 0,.int .i64 0,.int .i64 1,.int .i64 1,.int .i64 0,.slice none 0 0,.slice none 0 0] 59)).frozen? ⟨b1,i,none⟩=false:=fun i=>(frozen?_alloc_cells _ _ _ _).trans (f1 i);generalize w3.alloc (.cells #[.string ⟨#[115]⟩,.int .i64 0,.int .i64 0,.int .i64 5000,.int .i64 2000,.slice (some ⟨b2,0,none⟩) 2 2,.int .i64 0,.int .i64 0,.int .i64 1,.int .i64 1,.int .i64 0,.slice none 0 0,.slice none 0 0] 59)=w4 at *;have H4:=Hs.new w4 [.string ⟨#[104]⟩,.int .i64 5000,.slice (some ⟨b3,0,none⟩) 1 1,.slice none 0 0] 25 (n:=b4) (by rw[z3];omega);replace H0:=H0.al (.cells #[.string ⟨#[104]⟩,.int .i64 5000,.slice (some ⟨b3,0,none⟩) 1 1,.slice none 0 0] 25);replace H1:=H1.al (.cells #[.string ⟨#[104]⟩,.int .i64 5000,.slice (some ⟨b3,0,none⟩) 1 1,.slice none 0 0] 25);replace H2:=H2.al (.cells #[.string ⟨#[104]⟩,.int .i64 5000,.slice (some ⟨b3,0,none⟩) 1 1,.slice none 0 0] 25);replace H3:=H3.al (.cells #[.string ⟨#[104]⟩,.int .i64 5000,.slice (some ⟨b3,0,none⟩) 1 1,.slice none 0 0] 25);have z4:(w4.alloc (.cells #[.string ⟨#[104]⟩,.int .i64 5000,.slice (some ⟨b3,0,none⟩) 1 1,.slice none 0 0] 25)).heap.size=n+5:=by simp[z3]
 replace q3:=q3.alloc (by omega) (.cells #[.string ⟨#[104]⟩,.int .i64 5000,.slice (some ⟨b3,0,none⟩) 1 1,.slice none 0 0] 25);have q4:=q3;replace f0:∀i,(w4.alloc (.cells #[.string ⟨#[104]⟩,.int .i64 5000,.slice (some ⟨b3,0,none⟩) 1 1,.slice none 0 0] 25)).frozen? ⟨n,i,none⟩=false:=fun i=>(frozen?_alloc_cells _ _ _ _).trans (f0 i);replace f1:∀i,(w4.alloc (.cells #[.string ⟨#[104]⟩,.int .i64 5000,.slice (some ⟨b3,0,none⟩) 1 1,.slice none 0 0] 25)).frozen? ⟨b1,i,none⟩=false:=fun i=>(frozen?_alloc_cells _ _ _ _).trans (f1 i);generalize w4.alloc (.cells #[.string ⟨#[104]⟩,.int .i64 5000,.slice (some ⟨b3,0,none⟩) 1 1,.slice none 0 0] 25)=w5 at *;have H5:=Hs.new w5 [.string ⟨#[115]⟩,.int .i64 4000,.int .i64 200,.int .i64 100,.int .i64 100] 94 (n:=b5) (by rw[z4];omega);replace H0:=H0.al (.cells #[.string ⟨#[115]⟩,.int .i64 4000,.int .i64 200,.int .i64 100,.int .i64 100] 94);replace H1:=H1.al (.cells #[.string ⟨#[115]⟩,.int .i64 4000,.int .i64 200,.int .i64 100,.int .i64 100] 94);replace H2:=H2.al (.cells #[.string ⟨#[115]⟩,.int .i64 4000,.int .i64 200,.int .i64 100,.int .i64 100] 94);replace H3:=H3.al (.cells #[.string ⟨#[115]⟩,.int .i64 4000,.int .i64 200,.int .i64 100,.int .i64 100] 94);replace H4:=H4.al (.cells #[.string ⟨#[115]⟩,.int .i64 4000,.int .i64 200,.int .i64 100,.int .i64 100] 94);have z5:(w5.alloc (.cells #[.string ⟨#[115]⟩,.int .i64 4000,.int .i64 200,.int .i64 100,.int .i64 100] 94)).heap.size=n+6:=by simp[z4]
 replace q4:=q4.alloc (by omega) (.cells #[.string ⟨#[115]⟩,.int .i64 4000,.int .i64 200,.int .i64 100,.int .i64 100] 94);have q5:=q4;replace f0:∀i,(w5.alloc (.cells #[.string ⟨#[115]⟩,.int .i64 4000,.int .i64 200,.int .i64 100,.int .i64 100] 94)).frozen? ⟨n,i,none⟩=false:=fun i=>(frozen?_alloc_cells _ _ _ _).trans (f0 i);replace f1:∀i,(w5.alloc (.cells #[.string ⟨#[115]⟩,.int .i64 4000,.int .i64 200,.int .i64 100,.int .i64 100] 94)).frozen? ⟨b1,i,none⟩=false:=fun i=>(frozen?_alloc_cells _ _ _ _).trans (f1 i);generalize w5.alloc (.cells #[.string ⟨#[115]⟩,.int .i64 4000,.int .i64 200,.int .i64 100,.int .i64 100] 94)=w6 at *;have H6:=Hs.new w6 [.string ⟨#[113]⟩,.string ⟨#[]⟩,.int .i64 1,.int .i64 0,.slice (some ⟨b5,0,none⟩) 1 1,.int .i64 0,.int .i64 0] 86 (n:=b6) (by rw[z5];omega);replace H0:=H0.al (.cells #[.string ⟨#[113]⟩,.string ⟨#[]⟩,.int .i64 1,.int .i64 0,.slice (some ⟨b5,0,none⟩) 1 1,.int .i64 0,.int .i64 0] 86);replace H1:=H1.al (.cells #[.string ⟨#[113]⟩,.string ⟨#[]⟩,.int .i64 1,.int .i64 0,.slice (some ⟨b5,0,none⟩) 1 1,.int .i64 0,.int .i64 0] 86);replace H2:=H2.al (.cells #[.string ⟨#[113]⟩,.string ⟨#[]⟩,.int .i64 1,.int .i64 0,.slice (some ⟨b5,0,none⟩) 1 1,.int .i64 0,.int .i64 0] 86);replace H3:=H3.al (.cells #[.string ⟨#[113]⟩,.string ⟨#[]⟩,.int .i64 1,.int .i64 0,.slice (some ⟨b5,0,none⟩) 1 1,.int .i64 0,.int .i64 0] 86);replace H4:=H4.al (.cells #[.string ⟨#[113]⟩,.string ⟨#[]⟩,.int .i64 1,.int .i64 0,.slice (some ⟨b5,0,none⟩) 1 1,.int .i64 0,.int .i64 0] 86);replace H5:=H5.al (.cells #[.string ⟨#[113]⟩,.string ⟨#[]⟩,.int .i64 1,.int .i64 0,.slice (some ⟨b5,0,none⟩) 1 1,.int .i64 0,.int .i64 0] 86);have z6:(w6.alloc (.cells #[.string ⟨#[113]⟩,.string ⟨#[]⟩,.int .i64 1,.int .i64 0,.slice (some ⟨b5,0,none⟩) 1 1,.int .i64 0,.int .i64 0] 86)).heap.size=n+7:=by simp[z5]
 replace q5:=q5.alloc (by omega) (.cells #[.string ⟨#[113]⟩,.string ⟨#[]⟩,.int .i64 1,.int .i64 0,.slice (some ⟨b5,0,none⟩) 1 1,.int .i64 0,.int .i64 0] 86);have q6:=q5;replace f0:∀i,(w6.alloc (.cells #[.string ⟨#[113]⟩,.string ⟨#[]⟩,.int .i64 1,.int .i64 0,.slice (some ⟨b5,0,none⟩) 1 1,.int .i64 0,.int .i64 0] 86)).frozen? ⟨n,i,none⟩=false:=fun i=>(frozen?_alloc_cells _ _ _ _).trans (f0 i);replace f1:∀i,(w6.alloc (.cells #[.string ⟨#[113]⟩,.string ⟨#[]⟩,.int .i64 1,.int .i64 0,.slice (some ⟨b5,0,none⟩) 1 1,.int .i64 0,.int .i64 0] 86)).frozen? ⟨b1,i,none⟩=false:=fun i=>(frozen?_alloc_cells _ _ _ _).trans (f1 i);generalize w6.alloc (.cells #[.string ⟨#[113]⟩,.string ⟨#[]⟩,.int .i64 1,.int .i64 0,.slice (some ⟨b5,0,none⟩) 1 1,.int .i64 0,.int .i64 0] 86)=w7 at *;have H7:=Hs.new w7 [.slice (some ⟨b6,0,none⟩) 1 1,.slice none 0 0] 29 (n:=b7) (by rw[z6];omega);replace H0:=H0.al (.cells #[.slice (some ⟨b6,0,none⟩) 1 1,.slice none 0 0] 29);replace H1:=H1.al (.cells #[.slice (some ⟨b6,0,none⟩) 1 1,.slice none 0 0] 29);replace H2:=H2.al (.cells #[.slice (some ⟨b6,0,none⟩) 1 1,.slice none 0 0] 29);replace H3:=H3.al (.cells #[.slice (some ⟨b6,0,none⟩) 1 1,.slice none 0 0] 29);replace H4:=H4.al (.cells #[.slice (some ⟨b6,0,none⟩) 1 1,.slice none 0 0] 29);replace H5:=H5.al (.cells #[.slice (some ⟨b6,0,none⟩) 1 1,.slice none 0 0] 29);replace H6:=H6.al (.cells #[.slice (some ⟨b6,0,none⟩) 1 1,.slice none 0 0] 29);have z7:(w7.alloc (.cells #[.slice (some ⟨b6,0,none⟩) 1 1,.slice none 0 0] 29)).heap.size=n+8:=by simp[z6]
 replace q6:=q6.alloc (by omega) (.cells #[.slice (some ⟨b6,0,none⟩) 1 1,.slice none 0 0] 29);have q7:=q6;replace f0:∀i,(w7.alloc (.cells #[.slice (some ⟨b6,0,none⟩) 1 1,.slice none 0 0] 29)).frozen? ⟨n,i,none⟩=false:=fun i=>(frozen?_alloc_cells _ _ _ _).trans (f0 i);replace f1:∀i,(w7.alloc (.cells #[.slice (some ⟨b6,0,none⟩) 1 1,.slice none 0 0] 29)).frozen? ⟨b1,i,none⟩=false:=fun i=>(frozen?_alloc_cells _ _ _ _).trans (f1 i);exact⟨q7,by rw[z7];omega,H0,H1,H2,H3,H4,H5,H6,H7,fun i=>⟨f0 i,f1 i⟩⟩
theorem example_any(w:World):Calls Tryz.prog 41 #[] w fun e w'=>Hid (∃b2 b3 b5 b6 b8:Nat,e=.returned (.tuple #[.agg #[.string ⟨#[104]⟩,.int .i64 5000,.slice (some ⟨b3,0,none⟩) 1 1,.slice none 0 0],.agg #[.slice (some ⟨b6,0,none⟩) 1 1,.slice none 0 0],.slice (some ⟨b8,0,none⟩) 1 1])∧HouseIn w' (xH (some ⟨b2,0,none⟩) (some ⟨b3,0,none⟩))∧SheetIn w' (xT (some ⟨b5,0,none⟩) (some ⟨b6,0,none⟩))∧Nums w'.heap.size w' (some ⟨b8,0,none⟩) [2000])∧Below w.heap.size w w':=by
 go_enter Tryz.func41,Tryz.ntmps41
 go_upto_region 3 with (fail)
 obtain⟨n,hn⟩:=nm (w.heap.size);obtain⟨b1,hb1⟩:=nm (n+1);obtain⟨b2,hb2⟩:=nm (b1+1);obtain⟨b3,hb3⟩:=nm (b2+1);obtain⟨b4,hb4⟩:=nm (b3+1);obtain⟨b5,hb5⟩:=nm (b4+1);obtain⟨b6,hb6⟩:=nm (b5+1);obtain⟨b7,hb7⟩:=nm (b6+1);have XE:XB n b1 b2 b3 b4 b5 b6 b7:=⟨by omega,by omega,by omega,by omega,by omega,by omega,by omega⟩;have X0:=xs_new w n b1 b2 b3 b4 b5 b6 b7 hn XE;rw[hn]at⊢;rw[hb1,hb2,hb3,hb4,hb5,hb6,hb7];generalize ((((((((w.alloc (.cells #[.string ⟨#[]⟩,.int .i64 0,.slice none 0 0,.slice none 0 0] 25)).alloc (.cells #[.slice none 0 0,.slice none 0 0] 29)).alloc (.cells #[.int .i64 0,.int .i64 2000] 3)).alloc (.cells #[.string ⟨#[115]⟩,.int .i64 0,.int .i64 0,.int .i64 5000,.int .i64 2000,.slice (some ⟨b2,0,none⟩) 2 2,.int .i64 0,.int .i64 0,.int .i64 1,.int .i64 1,.int .i64 0,.slice none 0 0,.slice none 0 0] 59)).alloc (.cells #[.string ⟨#[104]⟩,.int .i64 5000,.slice (some ⟨b3,0,none⟩) 1 1,.slice none 0 0] 25)).alloc (.cells #[.string ⟨#[115]⟩,.int .i64 4000,.int .i64 200,.int .i64 100,.int .i64 100] 94)).alloc (.cells #[.string ⟨#[113]⟩,.string ⟨#[]⟩,.int .i64 1,.int .i64 0,.slice (some ⟨b5,0,none⟩) 1 1,.int .i64 0,.int .i64 0] 86)).alloc (.cells #[.slice (some ⟨b6,0,none⟩) 1 1,.slice none 0 0] 29))=W at *;have HNN:=lh hn;clear hn hb1 hb2 hb3 hb4 hb5 hb6 hb7;have X1:=X0.drew;refine wp_region_held_drew (S:=fun W=>W.cell? ⟨b4,0,none⟩=some (.string ⟨#[104]⟩)∧W.cell? ⟨b4,1,none⟩=some (.int .i64 5000)∧W.cell? ⟨b4,2,none⟩=some (.slice (some ⟨b3,0,none⟩) 1 1)∧W.cell? ⟨b4,3,none⟩=some (.slice none 0 0)∧W.cell? ⟨b7,0,none⟩=some (.slice (some ⟨b6,0,none⟩) 1 1)∧W.cell? ⟨b7,1,none⟩=some (.slice none 0 0)) (by kernel_rfl) X1.held (fun hHeld=>?_);clear X0;generalize W.drew=V at *;refine tk 0 ?_;refine tk 1 ?_;have g0:=X1.h0.at 0 rfl;have g1:=X1.h0.at 1 rfl;have g2:=X1.h0.at 2 rfl;have g3:=X1.h0.at 3 rfl;have k0:=X1.h1.at 0 rfl;have k1:=X1.h1.at 1 rfl;have f0:=fun i=>(X1.fr i).1;have f1:=fun i=>(X1.fr i).2;refine ry [2,3] (vl 2 (w1:=V.alloc (.cells #[.int .i64 2000] 3)) (X1.al XE _ _).held (fun hHeld=>?_) (vl 3 (w1:=setFrom V n 0 [.string ⟨#[104]⟩,.int .i64 5000,.slice (some ⟨b3,0,none⟩) 1 1,.slice none 0 0]) (X1.s0 XE [.string ⟨#[104]⟩,.int .i64 5000,.slice (some ⟨b3,0,none⟩) 1 1,.slice none 0 0] rfl).held (fun hHeld=>?_) nl))
 ·have X2:=X1.al XE #[.int .i64 2000] 3;have G:=Hs.new V [.int .i64 2000] 3 (n:=V.heap.size) rfl;have lg:=X1.size;have lgh:V.heap.size<(V.alloc (.cells #[.int .i64 2000] 3)).heap.size:=by simp
  obtain⟨g,hg⟩:=nm (V.heap.size);simp only[hg]at G lg lgh⊢;clear hg;generalize V.alloc (.cells #[.int .i64 2000] 3)=V1 at *;have g0:=X2.h0.at 0 rfl;have g1:=X2.h0.at 1 rfl;have g2:=X2.h0.at 2 rfl;have g3:=X2.h0.at 3 rfl;have k0:=X2.h1.at 0 rfl;have k1:=X2.h1.at 1 rfl;have f0:=fun i=>(X2.fr i).1;have f1:=fun i=>(X2.fr i).2;refine ry [3] (vl 3 (w1:=setFrom V1 n 0 [.string ⟨#[104]⟩,.int .i64 5000,.slice (some ⟨b3,0,none⟩) 1 1,.slice none 0 0]) (X2.s0 XE [.string ⟨#[104]⟩,.int .i64 5000,.slice (some ⟨b3,0,none⟩) 1 1,.slice none 0 0] rfl).held (fun hHeld=>?_) nl);have X3:=X2.s0 XE [.string ⟨#[104]⟩,.int .i64 5000,.slice (some ⟨b3,0,none⟩) 1 1,.slice none 0 0] rfl;replace G:=G.far (b2:=n) (by have:=XE.e1;have:=XE.e7;omega) [.string ⟨#[104]⟩,.int .i64 5000,.slice (some ⟨b3,0,none⟩) 1 1,.slice none 0 0] 0;rw[←size_from [.string ⟨#[104]⟩,.int .i64 5000,.slice (some ⟨b3,0,none⟩) 1 1,.slice none 0 0] V1 n 0]at lgh;generalize setFrom V1 n 0 [.string ⟨#[104]⟩,.int .i64 5000,.slice (some ⟨b3,0,none⟩) 1 1,.slice none 0 0]=V2 at *;have g0:=X3.h0.at 0 rfl;have g1:=X3.h0.at 1 rfl;have g2:=X3.h0.at 2 rfl;have g3:=X3.h0.at 3 rfl;have k0:=X3.h1.at 0 rfl;have k1:=X3.h1.at 1 rfl;have f0:=fun i=>(X3.fr i).1;have f1:=fun i=>(X3.fr i).2;refine ry [4] (vl 4 (w1:=setFrom V2 b1 0 [.slice (some ⟨b6,0,none⟩) 1 1,.slice none 0 0]) (X3.s1 XE [.slice (some ⟨b6,0,none⟩) 1 1,.slice none 0 0] rfl).held (fun hHeld=>?_) nl);have X4:=X3.s1 XE [.slice (some ⟨b6,0,none⟩) 1 1,.slice none 0 0] rfl;replace G:=G.far (b2:=b1) (by have:=XE.e1;have:=XE.e7;omega) [.slice (some ⟨b6,0,none⟩) 1 1,.slice none 0 0] 0;rw[←size_from [.slice (some ⟨b6,0,none⟩) 1 1,.slice none 0 0] V2 b1 0]at lgh;generalize setFrom V2 b1 0 [.slice (some ⟨b6,0,none⟩) 1 1,.slice none 0 0]=V3 at *;have g0:=X4.h0.at 0 rfl;have g1:=X4.h0.at 1 rfl;have g2:=X4.h0.at 2 rfl;have g3:=X4.h0.at 3 rfl;have k0:=X4.h1.at 0 rfl;have k1:=X4.h1.at 1 rfl;have f0:=fun i=>(X4.fr i).1;have f1:=fun i=>(X4.fr i).2;refine tk 5 ?_;refine dn ?_;have F:=X4.got XE;have HN:Nums V3.heap.size V3 (some ⟨g,0,none⟩) [2000]:=fun _=>⟨g,0,rfl,lgh,fun i hi=>by obtain rfl:=one_lt hi;exact G.at 0 rfl⟩
  go_wp2_with fail
  exact bodyPost_ret (v:=.tuple #[.agg #[.string ⟨#[104]⟩,.int .i64 5000,.slice (some ⟨b3,0,none⟩) 1 1,.slice none 0 0],.agg #[.slice (some ⟨b6,0,none⟩) 1 1,.slice none 0 0],.slice (some ⟨g,0,none⟩) 1 1]) (by simp[results,Tryz.results41,go_sem,X4.h0.at 0 rfl,X4.h0.at 1 rfl,X4.h0.at 2 rfl,X4.h0.at 3 rfl,X4.h1.at 0 rfl,X4.h1.at 1 rfl]) rfl ⟨lh ⟨b2,b3,b5,b6,g,rfl,F.1,F.2,HN⟩,by rw[HNN.out];exact X4.below⟩
 ·have X2:=X1.s0 XE [.string ⟨#[104]⟩,.int .i64 5000,.slice (some ⟨b3,0,none⟩) 1 1,.slice none 0 0] rfl
  generalize setFrom V n 0 [.string ⟨#[104]⟩,.int .i64 5000,.slice (some ⟨b3,0,none⟩) 1 1,.slice none 0 0]=V1 at *;have g0:=X2.h0.at 0 rfl;have g1:=X2.h0.at 1 rfl;have g2:=X2.h0.at 2 rfl;have g3:=X2.h0.at 3 rfl;have k0:=X2.h1.at 0 rfl;have k1:=X2.h1.at 1 rfl;have f0:=fun i=>(X2.fr i).1;have f1:=fun i=>(X2.fr i).2;refine ry [2,4] (vl 2 (w1:=V1.alloc (.cells #[.int .i64 2000] 3)) (X2.al XE _ _).held (fun hHeld=>?_) (vl 4 (w1:=setFrom V1 b1 0 [.slice (some ⟨b6,0,none⟩) 1 1,.slice none 0 0]) (X2.s1 XE [.slice (some ⟨b6,0,none⟩) 1 1,.slice none 0 0] rfl).held (fun hHeld=>?_) nl))
  ·have X3:=X2.al XE #[.int .i64 2000] 3;have G:=Hs.new V1 [.int .i64 2000] 3 (n:=V1.heap.size) rfl;have lg:=X2.size;have lgh:V1.heap.size<(V1.alloc (.cells #[.int .i64 2000] 3)).heap.size:=by simp
   obtain⟨g,hg⟩:=nm (V1.heap.size);simp only[hg]at G lg lgh⊢;clear hg;generalize V1.alloc (.cells #[.int .i64 2000] 3)=V2 at *;have g0:=X3.h0.at 0 rfl;have g1:=X3.h0.at 1 rfl;have g2:=X3.h0.at 2 rfl;have g3:=X3.h0.at 3 rfl;have k0:=X3.h1.at 0 rfl;have k1:=X3.h1.at 1 rfl;have f0:=fun i=>(X3.fr i).1;have f1:=fun i=>(X3.fr i).2;refine ry [4] (vl 4 (w1:=setFrom V2 b1 0 [.slice (some ⟨b6,0,none⟩) 1 1,.slice none 0 0]) (X3.s1 XE [.slice (some ⟨b6,0,none⟩) 1 1,.slice none 0 0] rfl).held (fun hHeld=>?_) nl);have X4:=X3.s1 XE [.slice (some ⟨b6,0,none⟩) 1 1,.slice none 0 0] rfl;replace G:=G.far (b2:=b1) (by have:=XE.e1;have:=XE.e7;omega) [.slice (some ⟨b6,0,none⟩) 1 1,.slice none 0 0] 0;rw[←size_from [.slice (some ⟨b6,0,none⟩) 1 1,.slice none 0 0] V2 b1 0]at lgh;generalize setFrom V2 b1 0 [.slice (some ⟨b6,0,none⟩) 1 1,.slice none 0 0]=V3 at *;have g0:=X4.h0.at 0 rfl;have g1:=X4.h0.at 1 rfl;have g2:=X4.h0.at 2 rfl;have g3:=X4.h0.at 3 rfl;have k0:=X4.h1.at 0 rfl;have k1:=X4.h1.at 1 rfl;have f0:=fun i=>(X4.fr i).1;have f1:=fun i=>(X4.fr i).2;refine tk 5 ?_;refine dn ?_;have F:=X4.got XE;have HN:Nums V3.heap.size V3 (some ⟨g,0,none⟩) [2000]:=fun _=>⟨g,0,rfl,lgh,fun i hi=>by obtain rfl:=one_lt hi;exact G.at 0 rfl⟩
   go_wp2_with fail
   exact bodyPost_ret (v:=.tuple #[.agg #[.string ⟨#[104]⟩,.int .i64 5000,.slice (some ⟨b3,0,none⟩) 1 1,.slice none 0 0],.agg #[.slice (some ⟨b6,0,none⟩) 1 1,.slice none 0 0],.slice (some ⟨g,0,none⟩) 1 1]) (by simp[results,Tryz.results41,go_sem,X4.h0.at 0 rfl,X4.h0.at 1 rfl,X4.h0.at 2 rfl,X4.h0.at 3 rfl,X4.h1.at 0 rfl,X4.h1.at 1 rfl]) rfl ⟨lh ⟨b2,b3,b5,b6,g,rfl,F.1,F.2,HN⟩,by rw[HNN.out];exact X4.below⟩
  ·have X3:=X2.s1 XE [.slice (some ⟨b6,0,none⟩) 1 1,.slice none 0 0] rfl
   generalize setFrom V1 b1 0 [.slice (some ⟨b6,0,none⟩) 1 1,.slice none 0 0]=V2 at *;have g0:=X3.h0.at 0 rfl;have g1:=X3.h0.at 1 rfl;have g2:=X3.h0.at 2 rfl;have g3:=X3.h0.at 3 rfl;have k0:=X3.h1.at 0 rfl;have k1:=X3.h1.at 1 rfl;have f0:=fun i=>(X3.fr i).1;have f1:=fun i=>(X3.fr i).2;refine ry [2] (vl 2 (w1:=V2.alloc (.cells #[.int .i64 2000] 3)) (X3.al XE _ _).held (fun hHeld=>?_) nl);have X4:=X3.al XE #[.int .i64 2000] 3;have G:=Hs.new V2 [.int .i64 2000] 3 (n:=V2.heap.size) rfl;have lg:=X3.size;have lgh:V2.heap.size<(V2.alloc (.cells #[.int .i64 2000] 3)).heap.size:=by simp
   obtain⟨g,hg⟩:=nm (V2.heap.size);simp only[hg]at G lg lgh⊢;clear hg;generalize V2.alloc (.cells #[.int .i64 2000] 3)=V3 at *;have g0:=X4.h0.at 0 rfl;have g1:=X4.h0.at 1 rfl;have g2:=X4.h0.at 2 rfl;have g3:=X4.h0.at 3 rfl;have k0:=X4.h1.at 0 rfl;have k1:=X4.h1.at 1 rfl;have f0:=fun i=>(X4.fr i).1;have f1:=fun i=>(X4.fr i).2;refine tk 5 ?_;refine dn ?_;have F:=X4.got XE;have HN:Nums V3.heap.size V3 (some ⟨g,0,none⟩) [2000]:=fun _=>⟨g,0,rfl,lgh,fun i hi=>by obtain rfl:=one_lt hi;exact G.at 0 rfl⟩
   go_wp2_with fail
   exact bodyPost_ret (v:=.tuple #[.agg #[.string ⟨#[104]⟩,.int .i64 5000,.slice (some ⟨b3,0,none⟩) 1 1,.slice none 0 0],.agg #[.slice (some ⟨b6,0,none⟩) 1 1,.slice none 0 0],.slice (some ⟨g,0,none⟩) 1 1]) (by simp[results,Tryz.results41,go_sem,X4.h0.at 0 rfl,X4.h0.at 1 rfl,X4.h0.at 2 rfl,X4.h0.at 3 rfl,X4.h1.at 0 rfl,X4.h1.at 1 rfl]) rfl ⟨lh ⟨b2,b3,b5,b6,g,rfl,F.1,F.2,HN⟩,by rw[HNN.out];exact X4.below⟩
end
section
open Go.RowKit Go.Shelf
theorem beg_equal(a1 a2:Option Addr)(F1 F2:List (ByteArray×Int))(cap1 cap2:Nat)(w:World)(hl:F1.length≤1100)(h1:Begs w.heap.size w a1 F1)(h2:Begs w.heap.size w a2 F2)(hl2:F2.length≤1100):
  Calls Tryz.prog 29 #[.slice a1 F1.length cap1,.slice a2 F2.length cap2] w fun e w'=>e=.returned (.bool (decide (F1=F2)))∧Below w.heap.size w w':=by
 have H1:=lh h1;have H2:=lh h2;clear h1 h2
 by_cases hle:F1.length=F2.length
 ·have hn:((F1.length:Int)!=(F2.length:Int))=false:=by rw[bne_eq_false_iff_eq];omega
  have HL:=lh hle;clear hle
  go_enter Tryz.func29,Tryz.ntmps29
  go_wp2
  go_loopw [13] (fun i wr=>∃k:Nat,k≤F1.length∧i=.int .i64 k∧Below w.heap.size w wr∧Hid (∀j,j<k→beg F1 j=beg F2 j)) (fun i _=>F1.length-(intOf i).toNat)
  case atStart=>exact⟨0,Nat.zero_le _,rfl,br,lh (fun _ h=>absurd h (Nat.not_lt_zero _))⟩
  case round=>
   obtain⟨k,hk,rfl,hB,HA⟩:=hrel
   by_cases hlt:k<F1.length
   ·have hlt2:k<F2.length:=by have:=HL.out;omega
    obtain⟨b,off,rfl,hb,hcx⟩:=H1.out (by omega);obtain⟨b',off',rfl,hb',hcx'⟩:=H2.out (by omega);obtain⟨c0,c1⟩:=hcx k hlt;obtain⟨e0,e1⟩:=hcx' k hlt2;have d0:=(hB.cell (p:=⟨b,off+k*2,none⟩) hb).trans c0;have d1:=(hB.cell (p:=⟨b,off+k*2+1,none⟩) hb).trans c1;have f0:=(hB.cell (p:=⟨b',off'+k*2,none⟩) hb').trans e0;have f1:=(hB.cell (p:=⟨b',off'+k*2+1,none⟩) hb').trans e1;clear c0 c1 e0 e1 hcx hcx'
    by_cases q0:(beg F1 k).1=(beg F2 k).1
    ·by_cases q1:(beg F1 k).2=(beg F2 k).2
     ·have HB:Hid (∀j,j<k+1→beg F1 j=beg F2 j):=lh fun j hj=>by
       rcases Nat.lt_or_ge j k with l | l
       ·exact HA.out j l
       ·obtain rfl:j=k:=by omega
        exact Prod.ext q0 q1
      have g0:=str_eq (beg F1 k).1 (beg F2 k).1;rw[decide_eq_true q0]at g0;have g1:((beg F1 k).2==(beg F2 k).2)=true:=beq_iff_eq.2 q1;have h1:((beg F1 k).2 !=(beg F2 k).2)=false:=bne_eq_false_iff_eq.2 q1;clear q0 q1
      go_wp2_with fail
      go_quiet (fail)
      go_wp2
      go_roundw
      case rel=>exact⟨k+1,by omega,by go_num,below_drewN hB _,HB⟩
      case measure=>simp[intOf];omega
     ·have H:Hid (decide (F1=F2)=false):=lh (dF (fun e=>q1 (by rw[e])))
      have g0:=str_eq (beg F1 k).1 (beg F2 k).1;rw[decide_eq_true q0]at g0;have g1:((beg F1 k).2==(beg F2 k).2)=false:=beq_eq_false_iff_ne.2 q1;have h1:((beg F1 k).2 !=(beg F2 k).2)=true:=bne_iff_ne.2 q1;clear q0 q1
      go_wp2_with fail
      go_quiet (fail)
      go_wp2
      go_ret;exact⟨congrArg (fun b=>Ending.returned (.bool b)) H.out.symm,below_drewN hB _⟩
    ·have H:Hid (decide (F1=F2)=false):=lh (dF (fun e=>q0 (by rw[e])))
     have g0:=str_eq (beg F1 k).1 (beg F2 k).1;rw[decide_eq_false q0]at g0;clear q0
     go_wp2_with fail
     go_quiet (fail)
     go_wp2
     go_ret;exact⟨congrArg (fun b=>Ending.returned (.bool b)) H.out.symm,below_drewN hB _⟩
   ·obtain rfl:k=F1.length:=by omega
    have H:Hid (decide (F1=F2)=true):=lh (dT (beg_ext F1 F2 HL.out HA.out))
    go_wp2
    go_ret;exact⟨congrArg (fun b=>Ending.returned (.bool b)) H.out.symm,hB⟩
 ·have hn:((F1.length:Int)!=(F2.length:Int))=true:=bne_iff_ne.2 (by omega)
  have H:Hid (decide (F1=F2)=false):=lh (dF (fun e=>hle (by rw[e])));clear hle
  go_enter Tryz.func29,Tryz.ntmps29
  go_wp2
  go_ret;exact⟨congrArg (fun b=>Ending.returned (.bool b)) H.out.symm,br⟩

theorem fr_equal(a1 a2:Option Addr)(F1 F2:List (Int×Int))(cap1 cap2:Nat)(w:World)(hl:F1.length≤1100)(h1:Frs w.heap.size w a1 F1)(h2:Frs w.heap.size w a2 F2)(hl2:F2.length≤1100):
  Calls Tryz.prog 17 #[.slice a1 F1.length cap1,.slice a2 F2.length cap2] w fun e w'=>e=.returned (.bool (decide (F1=F2)))∧Below w.heap.size w w':=by
 have H1:=lh h1;have H2:=lh h2;clear h1 h2
 by_cases hle:F1.length=F2.length
 ·have hn:((F1.length:Int)!=(F2.length:Int))=false:=by rw[bne_eq_false_iff_eq];omega
  have HL:=lh hle;clear hle
  go_enter Tryz.func17,Tryz.ntmps17
  go_wp2
  go_loopw [13] (fun i wr=>∃k:Nat,k≤F1.length∧i=.int .i64 k∧Below w.heap.size w wr∧Hid (∀j,j<k→frg F1 j=frg F2 j)) (fun i _=>F1.length-(intOf i).toNat)
  case atStart=>exact⟨0,Nat.zero_le _,rfl,br,lh (fun _ h=>absurd h (Nat.not_lt_zero _))⟩
  case round=>
   obtain⟨k,hk,rfl,hB,HA⟩:=hrel
   by_cases hlt:k<F1.length
   ·have hlt2:k<F2.length:=by have:=HL.out;omega
    obtain⟨b,off,rfl,hb,hcx⟩:=H1.out (by omega);obtain⟨b',off',rfl,hb',hcx'⟩:=H2.out (by omega);obtain⟨c0,c1⟩:=hcx k hlt;obtain⟨e0,e1⟩:=hcx' k hlt2;have d0:=(hB.cell (p:=⟨b,off+k*2,none⟩) hb).trans c0;have d1:=(hB.cell (p:=⟨b,off+k*2+1,none⟩) hb).trans c1;have f0:=(hB.cell (p:=⟨b',off'+k*2,none⟩) hb').trans e0;have f1:=(hB.cell (p:=⟨b',off'+k*2+1,none⟩) hb').trans e1;clear c0 c1 e0 e1 hcx hcx'
    by_cases q0:(frg F1 k).1=(frg F2 k).1
    ·by_cases q1:(frg F1 k).2=(frg F2 k).2
     ·have HB:Hid (∀j,j<k+1→frg F1 j=frg F2 j):=lh fun j hj=>by
       rcases Nat.lt_or_ge j k with l | l
       ·exact HA.out j l
       ·obtain rfl:j=k:=by omega
        exact Prod.ext q0 q1
      have g0:((frg F1 k).1==(frg F2 k).1)=true:=beq_iff_eq.2 q0;have h0:((frg F1 k).1 !=(frg F2 k).1)=false:=bne_eq_false_iff_eq.2 q0;have g1:((frg F1 k).2==(frg F2 k).2)=true:=beq_iff_eq.2 q1;have h1:((frg F1 k).2 !=(frg F2 k).2)=false:=bne_eq_false_iff_eq.2 q1;clear q0 q1
      go_wp2_with fail
      go_quiet (fail)
      go_wp2
      go_roundw
      case rel=>exact⟨k+1,by omega,by go_num,below_drewN hB _,HB⟩
      case measure=>simp[intOf];omega
     ·have H:Hid (decide (F1=F2)=false):=lh (dF (fun e=>q1 (by rw[e])))
      have g0:((frg F1 k).1==(frg F2 k).1)=true:=beq_iff_eq.2 q0;have h0:((frg F1 k).1 !=(frg F2 k).1)=false:=bne_eq_false_iff_eq.2 q0;have g1:((frg F1 k).2==(frg F2 k).2)=false:=beq_eq_false_iff_ne.2 q1;have h1:((frg F1 k).2 !=(frg F2 k).2)=true:=bne_iff_ne.2 q1;clear q0 q1
      go_wp2_with fail
      go_quiet (fail)
      go_wp2
      go_ret;exact⟨congrArg (fun b=>Ending.returned (.bool b)) H.out.symm,below_drewN hB _⟩
    ·have H:Hid (decide (F1=F2)=false):=lh (dF (fun e=>q0 (by rw[e])))
     have g0:((frg F1 k).1==(frg F2 k).1)=false:=beq_eq_false_iff_ne.2 q0;have h0:((frg F1 k).1 !=(frg F2 k).1)=true:=bne_iff_ne.2 q0;clear q0
     go_wp2_with fail
     go_quiet (fail)
     go_wp2
     go_ret;exact⟨congrArg (fun b=>Ending.returned (.bool b)) H.out.symm,below_drewN hB _⟩
   ·obtain rfl:k=F1.length:=by omega
    have H:Hid (decide (F1=F2)=true):=lh (dT (frg_ext F1 F2 HL.out HA.out))
    go_wp2
    go_ret;exact⟨congrArg (fun b=>Ending.returned (.bool b)) H.out.symm,hB⟩
 ·have hn:((F1.length:Int)!=(F2.length:Int))=true:=bne_iff_ne.2 (by omega)
  have H:Hid (decide (F1=F2)=false):=lh (dF (fun e=>hle (by rw[e])));clear hle
  go_enter Tryz.func17,Tryz.ntmps17
  go_wp2
  go_ret;exact⟨congrArg (fun b=>Ending.returned (.bool b)) H.out.symm,br⟩

theorem num_equal(a1 a2:Option Addr)(F1 F2:List (Int))(cap1 cap2:Nat)(w:World)(hl:F1.length≤1100)(h1:Nums w.heap.size w a1 F1)(h2:Nums w.heap.size w a2 F2)(hl2:F2.length≤1100):
  Calls Tryz.prog 30 #[.slice a1 F1.length cap1,.slice a2 F2.length cap2] w fun e w'=>e=.returned (.bool (decide (F1=F2)))∧Below w.heap.size w w':=by
 have H1:=lh h1;have H2:=lh h2;clear h1 h2
 by_cases hle:F1.length=F2.length
 ·have hn:((F1.length:Int)!=(F2.length:Int))=false:=by rw[bne_eq_false_iff_eq];omega
  have HL:=lh hle;clear hle
  go_enter Tryz.func30,Tryz.ntmps30
  go_wp2
  go_loopw [13] (fun i wr=>∃k:Nat,k≤F1.length∧i=.int .i64 k∧Below w.heap.size w wr∧Hid (∀j,j<k→ig F1 j=ig F2 j)) (fun i _=>F1.length-(intOf i).toNat)
  case atStart=>exact⟨0,Nat.zero_le _,rfl,br,lh (fun _ h=>absurd h (Nat.not_lt_zero _))⟩
  case round=>
   obtain⟨k,hk,rfl,hB,HA⟩:=hrel
   by_cases hlt:k<F1.length
   ·have hlt2:k<F2.length:=by have:=HL.out;omega
    obtain⟨b,off,rfl,hb,hcx⟩:=H1.out (by omega);obtain⟨b',off',rfl,hb',hcx'⟩:=H2.out (by omega);have c0:=hcx k hlt;have e0:=hcx' k hlt2;have d0:=(hB.cell (p:=⟨b,off+k,none⟩) hb).trans c0;have f0:=(hB.cell (p:=⟨b',off'+k,none⟩) hb').trans e0;clear c0 e0 hcx hcx'
    by_cases q0:(ig F1 k)=(ig F2 k)
    ·have HB:Hid (∀j,j<k+1→ig F1 j=ig F2 j):=lh fun j hj=>by
      rcases Nat.lt_or_ge j k with l | l
      ·exact HA.out j l
      ·obtain rfl:j=k:=by omega
       exact q0
     have g0:((ig F1 k)==(ig F2 k))=true:=beq_iff_eq.2 q0;have h0:((ig F1 k)!=(ig F2 k))=false:=bne_eq_false_iff_eq.2 q0;clear q0
     go_wp2_with fail
     go_quiet (fail)
     go_wp2
     go_roundw
     case rel=>exact⟨k+1,by omega,by go_num,below_drewN hB _,HB⟩
     case measure=>simp[intOf];omega
    ·have H:Hid (decide (F1=F2)=false):=lh (dF (fun e=>q0 (by rw[e])))
     have g0:((ig F1 k)==(ig F2 k))=false:=beq_eq_false_iff_ne.2 q0;have h0:((ig F1 k)!=(ig F2 k))=true:=bne_iff_ne.2 q0;clear q0
     go_wp2_with fail
     go_quiet (fail)
     go_wp2
     go_ret;exact⟨congrArg (fun b=>Ending.returned (.bool b)) H.out.symm,below_drewN hB _⟩
   ·obtain rfl:k=F1.length:=by omega
    have H:Hid (decide (F1=F2)=true):=lh (dT (ig_ext F1 F2 HL.out HA.out))
    go_wp2
    go_ret;exact⟨congrArg (fun b=>Ending.returned (.bool b)) H.out.symm,hB⟩
 ·have hn:((F1.length:Int)!=(F2.length:Int))=true:=bne_iff_ne.2 (by omega)
  have H:Hid (decide (F1=F2)=false):=lh (dF (fun e=>hle (by rw[e])));clear hle
  go_enter Tryz.func30,Tryz.ntmps30
  go_wp2
  go_ret;exact⟨congrArg (fun b=>Ending.returned (.bool b)) H.out.symm,br⟩
end
section
open Go.RowKit Go.Shelf
attribute [local go_sem] Oper.semAt_some
structure EXW(w:World)(b2 b3 b5 b6 b8:Nat):Prop where
 h:HouseIn w (xH (some ⟨b2,0,none⟩) (some ⟨b3,0,none⟩))
 s:SheetIn w (xT (some ⟨b5,0,none⟩) (some ⟨b6,0,none⟩))
 g:Nums w.heap.size w (some ⟨b8,0,none⟩) [2000]
theorem EXW.grow{w w':World}{b2 b3 b5 b6 b8:Nat}(x:EXW w b2 b3 b5 b6 b8)(hb:Below w.heap.size w w'):EXW w' b2 b3 b5 b6 b8:=⟨x.h.grow hb,x.s.grow hb,x.g.grow hb⟩
theorem begins_ex(w:World){b2 b3 b5 b6 b8:Nat}(E:EXW w b2 b3 b5 b6 b8):Calls Tryz.prog 24 #[.agg #[.string ⟨#[104]⟩,.int .i64 5000,.slice (some ⟨b3,0,none⟩) 1 1,.slice none 0 0],.agg #[.slice (some ⟨b6,0,none⟩) 1 1,.slice none 0 0],.slice (some ⟨b8,0,none⟩) 1 1] w fun e w'=>Hid (∃a c,e=.returned (.tuple #[.slice a 1 c,.int .i64 0])∧Begs w'.heap.size w' a [(⟨#[113]⟩,2000)])∧Below w.heap.size w w':=
 (begins_any (xH (some ⟨b2,0,none⟩) (some ⟨b3,0,none⟩)) (xT (some ⟨b5,0,none⟩) (some ⟨b6,0,none⟩)) _ [2000] 1 w E.h E.s E.g (by decide)).mono fun e w' z=>by
  obtain⟨hx,hb⟩:=z;obtain⟨v,rfl,hr⟩:=hx.out;rw[x_begs]at hr;obtain⟨a,c,rfl,_,_,_,hc⟩:=beg_of_row hr;exact⟨lh ⟨a,c,by rw[x_planE];rfl,hc⟩,hb⟩
theorem ends_ex(w:World){b2 b3 b5 b6 b8:Nat}(E:EXW w b2 b3 b5 b6 b8):Calls Tryz.prog 18 #[.agg #[.string ⟨#[104]⟩,.int .i64 5000,.slice (some ⟨b3,0,none⟩) 1 1,.slice none 0 0],.agg #[.slice (some ⟨b6,0,none⟩) 1 1,.slice none 0 0],.slice (some ⟨b8,0,none⟩) 1 1] w fun e w'=>Hid (∃a c,e=.returned (.tuple #[.slice a 1 c,.int .i64 0])∧Nums w'.heap.size w' a [9000])∧Below w.heap.size w w':=
 (ends_any (xH (some ⟨b2,0,none⟩) (some ⟨b3,0,none⟩)) (xT (some ⟨b5,0,none⟩) (some ⟨b6,0,none⟩)) _ [2000] 1 w E.h E.s E.g (by decide)).mono fun e w' z=>by
  obtain⟨hx,hb⟩:=z;obtain⟨v,rfl,hr⟩:=hx.out;rw[x_ends]at hr;obtain⟨a,c,rfl,_,_,_,hc⟩:=num_of_row hr;exact⟨lh ⟨a,c,by rw[x_planE];rfl,hc⟩,hb⟩
theorem at_ex(w:World){b2 b3 b5 b6 b8:Nat}(E:EXW w b2 b3 b5 b6 b8):Calls Tryz.prog 15 #[.agg #[.string ⟨#[104]⟩,.int .i64 5000,.slice (some ⟨b3,0,none⟩) 1 1,.slice none 0 0],.agg #[.slice (some ⟨b6,0,none⟩) 1 1,.slice none 0 0],.slice (some ⟨b8,0,none⟩) 1 1,.int .i64 5000] w fun e w'=>Hid (∃a c,e=.returned (.tuple #[.slice a 1 c,.int .i64 0])∧Frs w'.heap.size w' a [(4600,1)])∧Below w.heap.size w w':=
 (tAt_any (xH (some ⟨b2,0,none⟩) (some ⟨b3,0,none⟩)) (xT (some ⟨b5,0,none⟩) (some ⟨b6,0,none⟩)) _ [2000] 1 5000 w E.h E.s E.g (by decide) (by decide) (fun k hk _ _ _=>by
  obtain rfl:k=0:=one_lt hk;rw[x_planS,x_pathP];exact x_ok)).mono fun e w' z=>by
  obtain⟨hx,hb⟩:=z;obtain⟨v,rfl,hr⟩:=hx.out;rw[x_atE]at hr⊢;obtain⟨a,c,rfl,_,_,_,hc⟩:=fr_of_row (hr.1 rfl);exact⟨lh ⟨a,c,rfl,hc⟩,hb⟩
theorem path_ex(w:World){b2 b3 b5 b6 b8:Nat}(E:EXW w b2 b3 b5 b6 b8):Calls Tryz.prog 12 #[.agg #[.string ⟨#[104]⟩,.int .i64 5000,.slice (some ⟨b3,0,none⟩) 1 1,.slice none 0 0],.agg #[.slice (some ⟨b6,0,none⟩) 1 1,.slice none 0 0],.slice (some ⟨b8,0,none⟩) 1 1,.string ⟨#[115]⟩] w fun e w'=>Hid (∃a c,e=.returned (.tuple #[.slice a 5 c,.int .i64 0])∧True)∧Below w.heap.size w w':=
 (tPath_any (xH (some ⟨b2,0,none⟩) (some ⟨b3,0,none⟩)) (xT (some ⟨b5,0,none⟩) (some ⟨b6,0,none⟩)) _ [2000] 1 ⟨#[115]⟩ w E.h E.s E.g (by decide)).mono fun e w' z=>by
  obtain⟨hx,hb⟩:=z;obtain⟨v,rfl,hr⟩:=hx.out;rw[x_pathE]at hr⊢;obtain⟨a,c,rfl,_,_,_,hc⟩:=pc_of_row (hr.1 rfl);exact⟨lh ⟨a,c,rfl,trivial⟩,hb⟩
theorem beg_new1(w:World)(L:List (ByteArray×Int))(h:1=L.length):Begs (w.alloc (.cells (begflat L).toArray 70)).heap.size (w.alloc (.cells (begflat L).toArray 70)) (some ⟨w.heap.size,0,none⟩) L:=by
 obtain⟨a,cap,e,_,_,_,hc⟩:=beg_of_row (World.ownsRow_lit (base:=0) (e:=70) (size:=2) w (begflat L).toArray L.length (Nat.zero_le _) (by unfold maxLen;omega) (by simp[beg_len]));rw[←h]at e
 cases e
 exact hc
theorem num_new1(w:World)(L:List (Int))(h:1=L.length):Nums (w.alloc (.cells (nflat L).toArray 3)).heap.size (w.alloc (.cells (nflat L).toArray 3)) (some ⟨w.heap.size,0,none⟩) L:=by
 obtain⟨a,cap,e,_,_,_,hc⟩:=num_of_row (World.ownsRow_lit (base:=0) (e:=3) (size:=1) w (nflat L).toArray L.length (Nat.zero_le _) (by unfold maxLen;omega) (by simp[num_len]));rw[←h]at e
 cases e
 exact hc
theorem fr_new1(w:World)(L:List (Int×Int))(h:1=L.length):Frs (w.alloc (.cells (frflat L).toArray 49)).heap.size (w.alloc (.cells (frflat L).toArray 49)) (some ⟨w.heap.size,0,none⟩) L:=by
 obtain⟨a,cap,e,_,_,_,hc⟩:=fr_of_row (World.ownsRow_lit (base:=0) (e:=49) (size:=2) w (frflat L).toArray L.length (Nat.zero_le _) (by unfold maxLen;omega) (by simp[fr_len]));rw[←h]at e
 cases e
 exact hc
theorem beg_eq_ex(a1 a2:Option Addr)(F:List (ByteArray×Int))(c1 c2:Nat)(w:World)(hl:1=F.length)(h1:Begs w.heap.size w a1 F)(h2:Begs w.heap.size w a2 F):
  Calls Tryz.prog 29 #[.slice a1 1 c1,.slice a2 1 c2] w fun e w'=>e=.returned (.bool true)∧Below w.heap.size w w':=by
 rw[hl];exact(beg_equal a1 a2 F F c1 c2 w (by omega) h1 h2 (by omega)).mono fun e w' h=>by rw[decide_eq_true rfl]at h;exact h
theorem num_eq_ex(a1 a2:Option Addr)(F:List (Int))(c1 c2:Nat)(w:World)(hl:1=F.length)(h1:Nums w.heap.size w a1 F)(h2:Nums w.heap.size w a2 F):
  Calls Tryz.prog 30 #[.slice a1 1 c1,.slice a2 1 c2] w fun e w'=>e=.returned (.bool true)∧Below w.heap.size w w':=by
 rw[hl];exact(num_equal a1 a2 F F c1 c2 w (by omega) h1 h2 (by omega)).mono fun e w' h=>by rw[decide_eq_true rfl]at h;exact h
theorem fr_eq_ex(a1 a2:Option Addr)(F:List (Int×Int))(c1 c2:Nat)(w:World)(hl:1=F.length)(h1:Frs w.heap.size w a1 F)(h2:Frs w.heap.size w a2 F):
  Calls Tryz.prog 17 #[.slice a1 1 c1,.slice a2 1 c2] w fun e w'=>e=.returned (.bool true)∧Below w.heap.size w w':=by
 rw[hl];exact(fr_equal a1 a2 F F c1 c2 w (by omega) h1 h2 (by omega)).mono fun e w' h=>by rw[decide_eq_true rfl]at h;exact h
theorem boxEx{w:World}{b2 b3 b5 b6 b8:Nat}(E:EXW w b2 b3 b5 b6 b8):
  ∃W0,((w.alloc (.cells #[.string ⟨#[104]⟩,.int .i64 5000,.slice (some ⟨b3,0,none⟩) 1 1,.slice none 0 0] 25)).alloc (.cells #[.slice (some ⟨b6,0,none⟩) 1 1,.slice none 0 0] 29))=W0∧Hid (∀w',Below W0.heap.size W0 w'→(w'.cell? ⟨w.heap.size,0,none⟩=some (.string ⟨#[104]⟩)∧w'.cell? ⟨w.heap.size,1,none⟩=some (.int .i64 5000)∧w'.cell? ⟨w.heap.size,2,none⟩=some (.slice (some ⟨b3,0,none⟩) 1 1)∧w'.cell? ⟨w.heap.size,3,none⟩=some (.slice none 0 0))∧(w'.cell? ⟨w.heap.size+1,0,none⟩=some (.slice (some ⟨b6,0,none⟩) 1 1)∧w'.cell? ⟨w.heap.size+1,1,none⟩=some (.slice none 0 0))∧EXW w' b2 b3 b5 b6 b8∧Below w.heap.size w w'):=by
 obtain⟨W0,hW0,HX⟩:=boxHS2 E.h E.s E.g
 exact⟨W0,hW0,lh fun w' z=>by
  obtain⟨a,b,c,d,g,l⟩:=HX.out w' z;exact⟨a,b,⟨c,d,g⟩,l⟩⟩
theorem awake_any(w:World):Calls Tryz.prog 10 #[] w fun e w'=>e=.returned (.bool true)∧Below w.heap.size w w':=by
 go_enter Tryz.func10,Tryz.ntmps10
 go_upto_region 2 with (go_at_call 41;(with_reducible refine(example_any _).mono ?_);rintro e w1 ⟨hx,hb1⟩;obtain⟨b2,b3,b5,b6,b8,rfl,i1,i2,i3⟩:=hx.out;have HE:=lh (EXW.mk i1 i2 i3);clear hx i1 i2 i3)
 obtain⟨W0,hW0,HX⟩:=boxEx HE.out;clear HE
 try simp only[hW0]
 clear hW0;obtain⟨B1,hB1⟩:=nm (w1.heap.size);obtain⟨B2,hB2⟩:=nm (B1+1);have HW:Hid (∀w',Below W0.heap.size W0 w'→Below w.heap.size w w'):=lh fun w' z=>hb1.trans ((HX.out w' z).2.2.2.mono hb1.size);rw[hB1,hB2]at HX;rw[hB1]
 try rw[hB2]
 clear hB1 hB2 hb1;obtain⟨⟨a0,a1,a2,a3⟩,⟨s0,s1⟩,-,-⟩:=HX.out _ br;have HO1:Hid (∀w:World,Begs (w.alloc (.cells #[.string ⟨#[113]⟩,.int .i64 2000] 70)).heap.size (w.alloc (.cells #[.string ⟨#[113]⟩,.int .i64 2000] 70)) (some ⟨w.heap.size,0,none⟩) [(⟨#[113]⟩,2000)]):=lh fun w=>beg_new1 w [(⟨#[113]⟩,2000)] rfl;have HO2:Hid (∀w:World,Nums (w.alloc (.cells #[.int .i64 9000] 3)).heap.size (w.alloc (.cells #[.int .i64 9000] 3)) (some ⟨w.heap.size,0,none⟩) [9000]):=lh fun w=>num_new1 w [9000] rfl;have HO3:Hid (∀w:World,Frs (w.alloc (.cells #[.int .i64 4600,.int .i64 1] 49)).heap.size (w.alloc (.cells #[.int .i64 4600,.int .i64 1] 49)) (some ⟨w.heap.size,0,none⟩) [(4600,1)]):=lh fun w=>fr_new1 w [(4600,1)] rfl
 go_upto_region 6 with (first
  | (go_at_call 24;(with_reducible refine(begins_ex _ (HX.out _ br).2.2.1).mono ?_);rintro e w2 ⟨hx2,hb2⟩;obtain⟨a12,c12,rfl,f2⟩:=hx2.out;have F2:=lh f2;clear hx2 f2;obtain⟨⟨p20,p21,p22,p23⟩,⟨r20,r21⟩,-,-⟩:=HX.out _ hb2)
  | (go_at_call 18;(with_reducible refine(ends_ex _ (HX.out _ hb2).2.2.1).mono ?_);rintro e w3 ⟨hx3,hb3⟩;obtain⟨a13,c13,rfl,f3⟩:=hx3.out;have F3:=lh f3;clear hx3 f3;have hq3:=hb2.trans (hb3.mono hb2.size);obtain⟨⟨p30,p31,p32,p33⟩,⟨r30,r31⟩,-,-⟩:=HX.out _ hq3)
  | (go_at_call 15;(with_reducible refine(at_ex _ (HX.out _ hq3).2.2.1).mono ?_);rintro e w4 ⟨hx4,hb4⟩;obtain⟨a14,c14,rfl,f4⟩:=hx4.out;have F4:=lh f4;clear hx4 f4;have hq4:=hq3.trans (hb4.mono hq3.size);obtain⟨⟨p40,p41,p42,p43⟩,⟨r40,r41⟩,-,-⟩:=HX.out _ hq4)
  | (go_at_call 12;(with_reducible refine(path_ex _ (HX.out _ hq4).2.2.1).mono ?_);rintro e w5 ⟨hx5,hb5⟩;obtain⟨a15,c15,rfl,f5⟩:=hx5.out;have F5:=lh f5;clear hx5 f5;have hq5:=hq4.trans (hb5.mono hq4.size);obtain⟨⟨p50,p51,p52,p53⟩,⟨r50,r51⟩,-,-⟩:=HX.out _ hq5))
 have G2:=lh (((F2.out.grow hb3).grow hb4).grow hb5);have G3:=lh ((F3.out.grow hb4).grow hb5);have G4:=lh (F4.out.grow hb5);have hB5:=HW.out _ hq5;clear F2 F3 F4 F5 a0 a1 a2 a3 s0 s1 p20 p21 p22 p23 r20 r21 p30 p31 p32 p33 r30 r31 p40 p41 p42 p43 r40 r41 p50 p51 p52 p53 r50 r51;clear hb2 hb3 hb4 hb5 hq3 hq4 hq5 HX HW
 go_wp2_with (first
  | (go_at_call 29;(with_reducible refine(beg_eq_ex _ _ [(⟨#[113]⟩,2000)] _ _ _ rfl (G2.out.grow (below_new _ _)) (HO1.out _)).mono ?_);rintro e w6 ⟨rfl,hb6⟩;have hC6:=mono_in _ hb6;have hB6:Below w.heap.size w w6:=hB5.trans (hC6.mono hB5.size);have G36:=lh (G3.out.grow hC6);have G46:=lh (G4.out.grow hC6))
  | (go_at_call 30;(with_reducible refine(num_eq_ex _ _ [9000] _ _ _ rfl (G36.out.grow (below_new _ _)) (HO2.out _)).mono ?_);rintro e w7 ⟨rfl,hb7⟩;have hC7:=mono_in _ hb7;have hB7:Below w.heap.size w w7:=hB6.trans (hC7.mono hB6.size);have G47:=lh (G46.out.grow hC7))
  | (go_at_call 20;(with_reducible refine(rof_any 4600 _).mono ?_);rintro e w8 ⟨rfl,hb8⟩;have hB8:Below w.heap.size w w8:=hB7.trans (hb8.mono hB7.size);have G48:=lh (G47.out.grow hb8))
  | (go_at_call 17;(with_reducible refine(fr_eq_ex _ _ [(4600,1)] _ _ _ rfl (G48.out.grow (below_new _ _)) (HO3.out _)).mono ?_);rintro e w9 ⟨rfl,hb9⟩;have hB9:Below w.heap.size w w9:=hB8.trans ((mono_in _ hb9).mono hB8.size)))
 go_ret;exact⟨rfl,hB9⟩
end
section
open Go.ChangeShapes Go.WideShapes Go.ChangeAt Go.WideMaps Go.WideElems Go.RowKit
theorem own:ownKnob Tryz.prog.godebug=none:=by kernel_rfl
theorem laidOut:laidOutB Tryz.prog=true:=by kernel_rfl

section
variable {H:Type} {enc:TypeId×Value→H} {P:Program}
theorem post_of_below{f:Func}{s:ChangeSpec}{apart fresh handsOn again:Bool}{W W':World}{args:Array Value}{v:Value}{ds gs:List (DataW H)}{before pa pv:List MemPlace}
  (hW:DataW.Whole enc P f.params.toList s.vars apart W args.toList ds gs before)
  (hres:∀(b:Nat) (sp:Nat→Bool) (hd:Bool),DataW.TrodAll enc P W' b sp hd f.resultTypes.toList (v.resultList f.resultTypes.size) (s.fn H (ds++gs)).results [])
  (hargs:∀sp:Nat→Bool,(∀p∈before,sp p.block=true)→DataW.TrodAll enc P W' 0 sp true f.params.toList args.toList (s.fn H (ds++gs)).args pa)
  (hvars:∀sp:Nat→Bool,(∀p∈before,sp p.block=true)→DataW.TrodVars enc P W' sp s.vars (s.fn H (ds++gs)).vars pv)
  (hps:before=pa++pv) (hb:Below W.heap.size W W')
  (hok:∀(j:Nat) (t:TypeId) (r:Value),f.resultTypes[j]? =some t→(v.resultList f.resultTypes.size)[j]? =some r→Value.okWide P W' .any 0 t r):
  s.post enc P f apart fresh handsOn again W args v W':=by
 have hlt:∀p∈before,p.block<W.heap.size:=fun p hp=>hW.lt p hp;have hold:∀p∈before,(fun b=>decide (b<W.heap.size)) p.block=true:=fun p hp=>by simpa using hlt p hp
 refine⟨ds,gs,before,[],pa,pv,hW,hres _ _ _,hargs _ hold,hvars _ hold,World.keptBut_mono (fun p hp=>⟨hp,?_⟩) (hb.frame (·∈before)),fun _=>?_⟩
 ·rw[hps,List.mem_append]at hp
  exact Or.inr hp
 ·obtain⟨_,_,_,_,_,hz,hn⟩:=hW
  refine⟨hok,_,_,([]++pa)++pv,⟨[]++pa,pv,trodAll_append (hargs _ (fun _ _=>rfl)) (hres _ _ _),hvars _ (fun _ _=>rfl),rfl,?_,?_⟩,?_⟩
  ·intro b off hp
   have hin:MemPlace.cell b off∈before:=by rw[hps];simpa using hp
   rw[hb.frozen (hlt _ hin)];exact hz b off hin
  ·intro ha
   have:=hn ha;rw[hps]at this
   simpa using this
  ·intro p hp _
   rw[hps]
   simpa using hp

theorem trodAll_below(hl:laidOutB P=true){W W':World}(hb:Below W.heap.size W W')(sp:Nat→Bool):
  ∀{ts:List TypeId} {vs:List Value} {ds:List (DataW H)} {ps:List MemPlace},(ts.all fun t=>P.readableRec t&&decide (t<P.types.size))=true→DataW.TrodAll enc P W 0 (fun _=>true) true ts vs ds ps→
   (∀x∈ps,x.block<W.heap.size)→(∀x∈ps,sp x.block=true)→DataW.TrodAll enc P W' 0 sp true ts vs ds ps
 | [],[],[],_,_,h,_,_=>h
 | t::ts,v::vs,d::ds,_,ht,⟨p,q,h0,h1,rfl⟩,hlt,hsp=>by
  simp only[List.all_cons,Bool.and_eq_true,decide_eq_true_eq]at ht
  exact⟨p,q,WideElems.Trod_stays hl ht.1.1 ht.1.2 h0 (fun x hx=>hb.same (hlt x (List.mem_append.2 (.inl hx)))) (fun x hx=>hsp x (List.mem_append.2 (.inl hx))),
   trodAll_below hl hb sp (by simpa using ht.2) h1 (fun x hx=>hlt x (List.mem_append.2 (.inr hx))) (fun x hx=>hsp x (List.mem_append.2 (.inr hx))),rfl⟩
 | [],[],_::_,_,_,h,_,_=>h.elim
 | [],_::_,_,_,_,h,_,_=>h.elim
 | _::_,[],_,_,_,h,_,_=>h.elim
 | _::_,_::_,[],_,_,h,_,_=>h.elim

theorem law_post{f:Func}{s:ChangeSpec}{apart fresh handsOn again:Bool}{W W':World}{args:Array Value}{ds gs:List (DataW H)}{before:List MemPlace}{tb:TypeId}
  (hl:laidOutB P=true) (hr:(f.params.toList.all fun t=>P.readableRec t&&decide (t<P.types.size))=true) (hW:DataW.Whole enc P f.params.toList s.vars apart W args.toList ds gs before)
  (hv:s.vars=[]) (hfn:s.fn H (ds++gs)={results:=[.lit (.bool true)],args:=ds}) (ht:f.resultTypes=#[tb]) (hu:P.underlying tb=some .bool) (hb:Below W.heap.size W W'):
  s.post enc P f apart fresh handsOn again W args (.bool true) W':=by
 have hlt:∀p∈before,p.block<W.heap.size:=fun p hp=>hW.lt p hp;have hW2:=hW;obtain⟨p,q,hA,hV,hpq,_,_⟩:=hW;have hV':=hV;rw[hv]at hV';obtain⟨rfl,rfl⟩:=trodVars_none hV';have hpp:before=p:=by rw[hpq,List.append_nil]
 refine post_of_below (pa:=before) (pv:=[]) hW2 ?_ ?_ ?_ (by simp) hb ?_
 ·intro b sp hd
  rw[hfn,ht];exact trodAll_mk1 (shut_bool hu _)
 ·intro sp hsp
  rw[hfn];exact trodAll_below hl hb sp hr (by rw[hpp];exact hA) hlt hsp
 ·intro sp hsp
  rw[hfn,hv]
  rfl
 ·intro j t r hj hrr
  rw[ht]at hj hrr;exact ok_one ht rfl (okWide_bool_mk hu _) j t r (by rw[ht];exact hj) (by rw[ht];exact hrr)
end
end
section
open Go.ChangeShapes Go.WideShapes Go.ChangeAt Go.WideMaps Go.WideElems Go.RowKit Go.Deep
theorem flatMap_get{X:Type}(cells:X→List Value)(size:Nat)(hlen:∀r,(cells r).length=size):∀(L:List X) (j:Nat) (u:Value),(L.flatMap cells)[j]? =some u→∃i k r,j=i*size+k∧L[i]? =some r∧(cells r)[k]? =some u
 | [],j,u,h=>by simp at h
 | x::l,j,u,h=>by
  rw[List.flatMap_cons,List.getElem?_append]at h
  split at h
  ·exact⟨0,j,x,by omega,rfl,h⟩
  ·next hj=>
   rw[hlen]at h hj;obtain⟨i,k,r,e,h1,h2⟩:=flatMap_get cells size hlen l _ u h;exact⟨i+1,k,r,by rw[Nat.add_mul];omega,h1,h2⟩

section
variable {H:Type} {enc:TypeId×Value→H} {P:Program} {w:World} {base:Nat} {spare:Nat→Bool} {held:Bool}
theorem open_rows{X:Type}[Inhabited X](cells:X→List Value)(size:Nat)(Fit:X→Prop)(hsize:0<size)(hlen:∀r,(cells r).length=size){t e:TypeId}(ht:P.underlying t=some (.slice e))(hC:P.cellsOf e=size)
  (hel:∀n cs' y,cs'.length=size→DataW.trod enc P w base spare held n e cs'=some y→∃r,cs'=cells r∧Fit r) {fuel:Nat} {v:Value} {x:DataW H×List MemPlace} (h:DataW.trod enc P w base spare held fuel t [v]=some x):
  ∃(a:Option Addr) (cap:Nat) (L:List X),v=.slice a L.length cap∧L.length≤cap∧cap≤maxLen∧(a=none→cap=0)∧(∀r∈L,Fit r)∧
   (0<L.length→∃b off,a=some ⟨b,off,none⟩∧b<w.heap.size∧∀j u,(L.flatMap cells)[j]? =some u→w.cell? ⟨b,off+j,none⟩=some u):=by
 rcases open_slice ht h with ⟨hcs,_⟩ | ⟨a,len,cap,m,n,D,Pl,hcs,_,hl,hm,hmm,_,hi⟩
 ·simp only[List.cons.injEq,and_true]at hcs
  subst hcs;exact⟨none,0,[],rfl,Nat.le_refl _,by unfold maxLen;omega,fun _=>rfl,(fun _ h=>by cases h),fun h=>absurd h (Nat.not_lt_zero _)⟩
 ·simp only[List.cons.injEq,and_true]at hcs
  subst hcs;have hlm:len≤m:=by rw[hmm];split<;>omega
  have hex:∀i,∃r:X,i<len→Fit r∧∀k u,(cells r)[k]? =some u→w.cell? (a.add (i*size+k))=some u:=fun i=>by
   by_cases h:i<len
   ·obtain⟨cs',hc,ht'⟩:=hi i (by omega)
    rw[hC]at hc;obtain⟨_,hcl,hat⟩:=World.cells?_some hc;obtain⟨r,e,hf⟩:=hel n cs' _ hcl ht';refine⟨r,fun _=>⟨hf,fun k u hu=>?_⟩⟩;rw[←e]at hu
    have hk:k<size:=by
     have:=(List.getElem?_eq_some_iff.1 hu).1;omega
    rw[←Go.Deep.add_add,hat k hk,hu]
   ·exact⟨default,fun h'=>absurd h' h⟩
  obtain⟨f,hf⟩:=Classical.axiomOfChoice hex;refine⟨some a,cap,(List.range len).map f,by simp,by simpa using hl,hm,(fun e=>by cases e),?_,?_⟩
  ·intro r hr
   obtain⟨i,hi',rfl⟩:=List.mem_map.1 hr;exact(hf i (by simpa using hi')).1
  ·intro hpos
   have hpos':0<len:=by simpa using hpos
   have hcell:∀i k u,i<len→(cells (f i))[k]? =some u→w.cell? (a.add (i*size+k))=some u:=fun i k u h hu=>(hf i h).2 k u hu;have h0:∃u,(cells (f 0))[0]? =some u:=⟨_,List.getElem?_eq_getElem (by rw[hlen];exact hsize)⟩;obtain⟨u0,hu0⟩:=h0;have hc0:=hcell 0 0 u0 hpos' hu0;obtain⟨b,off,spot⟩:=a;have hspot:spot=none:=by simpa[Addr.add]using World.cell?_spot hc0
   subst hspot;refine⟨b,off,rfl,?_,fun j u hj=>?_⟩
   ·rw[Go.WideShapes.add_plain]at hc0
    exact World.block_lt_of_cell? w _ hc0
   ·obtain⟨i,k,r,e,h1,h2⟩:=flatMap_get cells size hlen _ j u hj
    rw[List.getElem?_map]at h1
    have hil:i<len:=by
     rcases Nat.lt_or_ge i len with l | l
     ·exact l
     ·rw[List.getElem?_eq_none (by simpa using l)]at h1;cases h1
    rw[List.getElem?_range hil]at h1;obtain rfl:f i=r:=by simpa using h1
    have:=hcell i k u hil h2;rw[Go.WideShapes.add_plain]at this;rw[e];exact this
theorem elem_fields{e:TypeId}{fs:Array Field}{n:Nat}{cs':List Value}{y:DataW H×List MemPlace}(he:P.underlying e=some (.struct fs))(hone:oneCellFields P fs=true)(hl:cs'.length=fs.size)(h:DataW.trod enc P w base spare held n e cs'=some y):
  ∃m,∀(j:Nat) (f:Field),fs[j]? =some f→∃(v:Value) (z:DataW H×List MemPlace),cs'[j]? =some v∧DataW.trod enc P w base spare held m f.type [v]=some z:=by
 obtain⟨ys,n',hn',hy,hlen,hyl,hf⟩:=DataW.trod_struct he h;refine⟨n',fun j f hj=>?_⟩;obtain⟨ho,hk⟩:=hone_of hone j f hj;have hjl:j<fs.size:=(Array.getElem?_eq_some_iff.1 hj).1;have hv:cs'[j]? =some (cs'[j]'(by omega)):=List.getElem?_eq_getElem (by omega);have h1:=hf j f hj;rw[ho,hk]at h1
 have hone':(cs'.drop j).take 1=[cs'[j]'(by omega)]:=by
  rw[List.drop_eq_getElem_cons (by omega)]
  rfl
 rw[hone']at h1;exact⟨_,ys[j]'(by omega),hv,h1.trans (List.getElem?_eq_getElem (by omega))⟩
end
end
section
open Go.ChangeShapes Go.WideShapes Go.ChangeAt Go.WideMaps Go.WideElems Go.RowKit Go.Deep Go.Joins
theorem num_of_flat{n₀:Nat}{w:World}{a:Option Addr}{L:List (Int)}(h:0<L.length→∃b off,a=some ⟨b,off,none⟩∧b<n₀∧∀j u,(nflat L)[j]? =some u→w.cell? ⟨b,off+j,none⟩=some u):Nums n₀ w a L:=fun hl=>by
 obtain⟨b,off,e,hb,hc⟩:=h hl;refine⟨b,off,e,hb,fun i hi=>?_⟩;have f0:=nflat_at L i hi;have c0:=hc _ _ f0
 try simp only[←Nat.add_assoc]at c0
 exact c0
theorem brick_of_flat{n₀:Nat}{w:World}{a:Option Addr}{L:List (BrickR)}(h:0<L.length→∃b off,a=some ⟨b,off,none⟩∧b<n₀∧∀j u,(kflat L)[j]? =some u→w.cell? ⟨b,off+j,none⟩=some u):Bricks n₀ w a L:=fun hl=>by
 obtain⟨b,off,e,hb,hc⟩:=h hl;refine⟨b,off,e,hb,fun i hi=>?_⟩;obtain⟨f0,f1,f2⟩:=kflat_at L i hi;have c0:=hc _ _ f0;have c1:=hc _ _ f1;have c2:=hc _ _ f2
 try simp only[←Nat.add_assoc]at c0 c1 c2
 exact⟨c0,c1,c2⟩
instance:Inhabited BrickR:=⟨⟨⟨#[]⟩,0,0⟩⟩
section
variable {H:Type} {enc:TypeId×Value→H} {w:World} {base:Nat} {spare:Nat→Bool} {held:Bool}
theorem open_nums{fuel:Nat}{v:Value}{x:DataW H×List MemPlace}(h:DataW.trod enc Tryz.prog w base spare held fuel 30 [v]=some x):
  ∃(a:Option Addr) (cap:Nat) (L:List Int),v=.slice a L.length cap∧L.length≤cap∧cap≤maxLen∧(a=none→cap=0)∧(∀r∈L,(Lit.int .i64 r).wf=true)∧Nums w.heap.size w a L:=by
 obtain⟨a,cap,L,h1,h2,h3,h4,h5,h6⟩:=open_rows (P:=Tryz.prog) (fun r:Int=>[Value.int .i64 r]) 1 (fun r=>(Lit.int .i64 r).wf=true) (by decide) (fun _=>rfl) Tryz.underlying30 (by kernel_rfl) (fun n cs' y hl ht=>by
  obtain⟨m,e,_,hw⟩:=DataW.trod_int Tryz.underlying3 ht;exact⟨m,e,hw⟩) h
 exact⟨a,cap,L,h1,h2,h3,h4,h5,num_of_flat h6⟩
theorem open_bricks{fuel:Nat}{v:Value}{x:DataW H×List MemPlace}(h:DataW.trod enc Tryz.prog w base spare held fuel 57 [v]=some x):
  ∃(a:Option Addr) (cap:Nat) (L:List BrickR),v=.slice a L.length cap∧L.length≤cap∧cap≤maxLen∧(a=none→cap=0)∧Bricks w.heap.size w a L:=by
 obtain⟨a,cap,L,h1,h2,h3,h4,_,h6⟩:=open_rows (P:=Tryz.prog) (fun r:BrickR=>[.string r.name,.int .i64 r.weight,.int .i64 r.count]) 3 (fun _=>True) (by decide) (fun _=>rfl) Tryz.underlying57 (by kernel_rfl) (fun n cs' y hl ht=>by
  obtain⟨m,hf⟩:=elem_fields Tryz.underlying179 (by kernel_rfl) (by rw[hl];rfl) ht;obtain⟨v0,z0,c0,t0⟩:=hf 0 _ rfl;obtain⟨v1,z1,c1,t1⟩:=hf 1 _ rfl;obtain⟨v2,z2,c2,t2⟩:=hf 2 _ rfl;obtain⟨n0,e0,_,_⟩:=DataW.trod_string Tryz.underlying9 t0;obtain⟨n1,e1,_,w1⟩:=DataW.trod_int Tryz.underlying3 t1;obtain⟨n2,e2,_,w2⟩:=DataW.trod_int Tryz.underlying3 t2;simp only[List.cons.injEq,and_true]at e0 e1 e2;subst e0 e1 e2
  match cs',hl with
  | [x0,x1,x2],_=>
   simp only[List.getElem?_cons_zero,List.getElem?_cons_succ,Option.some.injEq]at c0 c1 c2;subst c0 c1 c2;exact⟨⟨n0,n1,n2⟩,rfl,trivial⟩) h
 exact⟨a,cap,L,h1,h2,h3,h4,brick_of_flat h6⟩
end
section
variable {H:Type} {enc:TypeId×Value→H} {W:World} {base:Nat}
theorem open_numsA{v:Value}{d:DataW H}{p:List MemPlace}(hv:Value.okWide Tryz.prog W .any base 30 v)(h:DataW.Trod enc Tryz.prog W 0 (fun _=>true) true 30 v d p):
  ∃(a:Option Addr) (cap:Nat) (L:List Int),v=.slice a L.length cap∧L.length≤cap∧cap≤maxLen∧(a=none→cap=0)∧(∀r∈L,(Lit.int .i64 r).wf=true)∧Nums W.heap.size W a L:=by
 obtain⟨a0,len0,cap0,rfl⟩:=okWide_slice Tryz.underlying30 hv;obtain⟨fuel,hf⟩:=h;exact open_nums (v:=.slice a0 len0 cap0) hf
end
theorem item_of_flat{n₀:Nat}{w:World}{a:Option Addr}{L:List ItemR}(h:0<L.length→∃b off,a=some ⟨b,off,none⟩∧b<n₀∧∀j u,(tflat L)[j]? =some u→w.cell? ⟨b,off+j,none⟩=some u):Items n₀ w a L:=fun hl=>by
 obtain⟨b,off,e,hb,hc⟩:=h hl;refine⟨b,off,e,hb,fun i hi=>?_⟩;obtain⟨f0,f1,f2,f3,f4,f5,f6⟩:=tflat_at L i hi;have c0:=hc _ _ f0;have c1:=hc _ _ f1;have c2:=hc _ _ f2;have c3:=hc _ _ f3;have c4:=hc _ _ f4;have c5:=hc _ _ f5;have c6:=hc _ _ f6
 try simp only[←Nat.add_assoc]at c0 c1 c2 c3 c4 c5 c6
 exact⟨c0,c1,c2,c3,c4,c5,c6⟩
instance:Inhabited ItemR:=⟨⟨⟨#[]⟩,0,0,0,0,0,0⟩⟩
section
variable {H:Type} {enc:TypeId×Value→H} {w:World} {base:Nat} {spare:Nat→Bool} {held:Bool}
theorem open_items{fuel:Nat}{v:Value}{x:DataW H×List MemPlace}(h:DataW.trod enc Tryz.prog w base spare held fuel 56 [v]=some x):
  ∃(a:Option Addr) (cap:Nat) (L:List ItemR),v=.slice a L.length cap∧L.length≤cap∧cap≤maxLen∧(a=none→cap=0)∧Items w.heap.size w a L:=by
 obtain⟨a,cap,L,h1,h2,h3,h4,_,h6⟩:=open_rows (P:=Tryz.prog) (fun r:ItemR=>[.string r.name,.int .i64 r.pos,.int .i64 r.width,.int .i64 r.weight,.int .i64 r.hang,.int .i64 r.front,.int .i64 r.back]) 7 (fun _=>True) (by decide) (fun _=>rfl) Tryz.underlying56 (by kernel_rfl) (fun n cs' y hl ht=>by
  obtain⟨m,hf⟩:=elem_fields Tryz.underlying177 (by kernel_rfl) (by rw[hl];rfl) ht;obtain⟨v0,z0,c0,t0⟩:=hf 0 _ rfl;obtain⟨v1,z1,c1,t1⟩:=hf 1 _ rfl;obtain⟨v2,z2,c2,t2⟩:=hf 2 _ rfl;obtain⟨v3,z3,c3,t3⟩:=hf 3 _ rfl;obtain⟨v4,z4,c4,t4⟩:=hf 4 _ rfl;obtain⟨v5,z5,c5,t5⟩:=hf 5 _ rfl;obtain⟨v6,z6,c6,t6⟩:=hf 6 _ rfl;obtain⟨n0,e0,_,_⟩:=DataW.trod_string Tryz.underlying9 t0;obtain⟨n1,e1,_,w1⟩:=DataW.trod_int Tryz.underlying3 t1;obtain⟨n2,e2,_,w2⟩:=DataW.trod_int Tryz.underlying3 t2;obtain⟨n3,e3,_,w3⟩:=DataW.trod_int Tryz.underlying3 t3;obtain⟨n4,e4,_,w4⟩:=DataW.trod_int Tryz.underlying3 t4;obtain⟨n5,e5,_,w5⟩:=DataW.trod_int Tryz.underlying3 t5;obtain⟨n6,e6,_,w6⟩:=DataW.trod_int Tryz.underlying3 t6;simp only[List.cons.injEq,and_true]at e0 e1 e2 e3 e4 e5 e6;subst e0 e1 e2 e3 e4 e5 e6
  match cs',hl with
  | [x0,x1,x2,x3,x4,x5,x6],_=>
   simp only[List.getElem?_cons_zero,List.getElem?_cons_succ,Option.some.injEq]at c0 c1 c2 c3 c4 c5 c6;subst c0 c1 c2 c3 c4 c5 c6;exact⟨⟨n0,n1,n2,n3,n4,n5,n6⟩,rfl,trivial⟩) h
 exact⟨a,cap,L,h1,h2,h3,h4,item_of_flat h6⟩
end
section
variable {H:Type} {enc:TypeId×Value→H} {W:World} {base:Nat}
end
end
end Go.Proofs.YtebofaenlhhkaaaGreat
