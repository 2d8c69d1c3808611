import Derived.RegionTactic
import Derived.IntWalk
import Derived.Outline
import Derived.Deep.DeepCutAuto
import Derived.Test.YtebofaenlhhkaaaGreatY5
namespace Go.Proofs.YtebofaenlhhkaaaGreat
set_option maxRecDepth 100000
set_option maxHeartbeats 80000000
section
open Go.RowKit Go.Shelf
def Kx(p q:Int):Int×Int×Int:=if 1152921504606846976<p.natAbs∨1152921504606846976<q then(0,0,5)else(p,q,0)
theorem Wa{neg:Bool}{p q:Int}(h:neg=decide (p<0)):Eh neg (p.natAbs:Int) q=Kx p q:=by
 unfold Eh Kx
 by_cases c:1152921504606846976<p.natAbs∨1152921504606846976<q
 ·have c':(1152921504606846976:Int)<(p.natAbs:Int)∨1152921504606846976<q:=by omega
  rw[if_pos c,if_pos c']
 ·have c':¬((1152921504606846976:Int)<(p.natAbs:Int)∨1152921504606846976<q):=by omega
  rw[if_neg c,if_neg c'];subst h
  by_cases d:p<0
  ·rw[if_pos (dT d),show -(p.natAbs:Int)=p by omega]
  ·rw[if_neg (by simpa using d),show(p.natAbs:Int)=p by omega]

def Jn(an ad bn bd:Int):Int×Int×Int:=Kx (Ay (an*bd+bn*ad) (ad*bd)) (Ar (an*bd+bn*ad) (ad*bd))
theorem Zn(an qb x:Int)(h:(an.natAbs:Int)*qb=x):an<0∧an*qb=-x∨¬an<0∧an*qb=x:=by
 by_cases c:an<0
 ·refine .inl ⟨c,?_⟩
  rw[←h,show(an.natAbs:Int)=-an by omega,Int.neg_mul];omega
 ·refine .inr ⟨c,?_⟩
  rw[←h,show(an.natAbs:Int)=an by omega]
theorem add_plain{an ad bn bd g qa qb S c nS:Int}{ng:Bool}(ha:0<ad)(hb:0<bd)(ca:Int.gcd an ad=1)(cb:Int.gcd bn bd=1)(hg:(Int.gcd ad bd:Int)=g)(hqa:ad/g=qa)(hqb:bd/g=qb)(hS:S=an*qb+bn*qa)(hn:nS=(S.natAbs:Int))(hc:(Int.gcd g (nS%g):Int)=c)(hng:nS≠0→ng=decide (S<0))(h0:nS≠0):
  Eh ng (nS/c) (qa*(bd/c))=Kx (Ay (an*bd+bn*ad) (ad*bd)) (Ar (an*bd+bn*ad) (ad*bd)):=by
 have e:Int.gcd g (nS%g)=Int.gcd g S:=by
  have h:nS%g=nS-g*(nS/g):=by have:=Int.mul_ediv_add_emod nS g;omega
  rw[h,Int.gcd_sub_mul_left_right,hn]
  simp[Int.gcd]
 have gp:0<g:=by rw[←hg];exact Dn hb
 have hc':c=(Int.gcd g S:Int):=by rw[←hc,e]
 have cp:0<c:=by rw[hc'];have:=Int.gcd_pos_of_ne_zero_left (a:=g) S (by omega);omega
 obtain⟨h1,h2⟩:=AQt ha hb ca cb g hg.symm S c (by rw[hS,hqa,hqb]) hc';rw[←h1,←h2,hqa];obtain⟨s,es⟩:c∣S:=by rw[hc'];exact Int.gcd_dvd_right g S
 have q:S/c=s:=by rw[es];exact Int.mul_ediv_cancel_left _ (by omega)
 have q2:nS/c=(s.natAbs:Int):=by
  rw[hn,es,Int.natAbs_mul];have:((c.natAbs*s.natAbs:Nat):Int)=c*(s.natAbs:Int):=by rw[Int.natCast_mul];rw[show(c.natAbs:Int)=c by omega]
  rw[this];exact Int.mul_ediv_cancel_left _ (by omega)
 rw[q,q2];refine Wa ?_;rw[hng h0]
 have:S<0↔s<0:=by
  rw[es]
  constructor
  ·intro l
   rcases Int.lt_or_le s 0 with k | k
   ·exact k
   ·have:=Int.mul_nonneg (Int.le_of_lt cp) k;omega
  ·intro l
   exact Int.mul_neg_of_pos_of_neg cp l
 simp[this]
theorem add_zero{an ad bn bd g qa qb S nS:Int}(ha:0<ad)(hb:0<bd)(hg:(Int.gcd ad bd:Int)=g)(hqa:ad/g=qa)(hqb:bd/g=qb)(hS:S=an*qb+bn*qa)(hn:nS=(S.natAbs:Int))(h0:nS=0):
  (0,1,0)=Kx (Ay (an*bd+bn*ad) (ad*bd)) (Ar (an*bd+bn*ad) (ad*bd)):=by
 have gp:0<g:=by rw[←hg];exact Dn hb
 have s0:an*qb+bn*qa=0:=by omega
 have e1:bd=qb*g:=by rw[←hqb];exact(Int.ediv_mul_cancel (by rw[←hg];exact Int.gcd_dvd_right _ _)).symm
 have e2:ad=qa*g:=by rw[←hqa];exact(Int.ediv_mul_cancel (by rw[←hg];exact Int.gcd_dvd_left _ _)).symm
 have:an*bd+bn*ad=0:=by
  rw[e1,e2,←Int.mul_assoc,←Int.mul_assoc,←Int.add_mul,s0,Int.zero_mul]
 rw[this,(Lf (Int.mul_pos ha hb)).1,(Lf (Int.mul_pos ha hb)).2]
 rfl

def Rq(w:World)(b:Nat):Prop:=w.cell? ⟨b,0,none⟩=some (.int .u64 0)∧w.cell? ⟨b,1,none⟩=some (.int .u64 0)∧w.frozen? ⟨b,0,none⟩=false∧w.frozen? ⟨b,1,none⟩=false∧b<w.heap.size
theorem carry{W w:World}{b:Nat}(h:Below W.heap.size W w)(f:Rq W b):Rq w b:=
 ⟨ct h f.1 f.2.2.2.2,ct h f.2.1 f.2.2.2.2,(h.frozen (p:=⟨b,0,none⟩) f.2.2.2.2).trans f.2.2.1,(h.frozen (p:=⟨b,1,none⟩) f.2.2.2.2).trans f.2.2.2.1,Nat.lt_of_lt_of_le f.2.2.2.2 h.size⟩
theorem ARd(W:World)(ty:TypeId):Rq (W.alloc (.cells #[.int .u64 0,.int .u64 0] ty)) W.heap.size:=⟨by simp,by simp,by simp,by simp,by simp⟩
theorem ATk{W w:World}{ty:TypeId}(h:Below (W.alloc (.cells #[.int .u64 0,.int .u64 0] ty)).heap.size (W.alloc (.cells #[.int .u64 0,.int .u64 0] ty)) w):Rq w W.heap.size:=carry h (ARd W ty)
theorem ATq{W w:World}{ty:TypeId}(h:Below ((W.alloc (.cells #[.int .u64 0,.int .u64 0] ty)).alloc (.cells #[.int .u64 0,.int .u64 0] ty)).heap.size ((W.alloc (.cells #[.int .u64 0,.int .u64 0] ty)).alloc (.cells #[.int .u64 0,.int .u64 0] ty)) w):Rq w W.heap.size∧Rq w (W.heap.size+1):=
 ⟨carry h (carry (Aa _ _) (ARd W ty)),by have:=carry h (ARd (W.alloc (.cells #[.int .u64 0,.int .u64 0] ty)) ty);rwa [World.size_alloc]at this⟩
theorem APy{W w:World}{ty:TypeId}(h:Below (W.alloc (.cells #[.int .u64 0,.int .u64 0] ty)).drew.heap.size (W.alloc (.cells #[.int .u64 0,.int .u64 0] ty)).drew w):Rq w W.heap.size:=ATk (ty:=ty) ⟨h.os,h.tape,h.output,h.size,h.block⟩
theorem ASz{W w:World}{ty:TypeId}(h:Below ((W.alloc (.cells #[.int .u64 0,.int .u64 0] ty)).alloc (.cells #[.int .u64 0,.int .u64 0] ty)).drew.heap.size ((W.alloc (.cells #[.int .u64 0,.int .u64 0] ty)).alloc (.cells #[.int .u64 0,.int .u64 0] ty)).drew w):Rq w W.heap.size∧Rq w (W.heap.size+1):=ATq (ty:=ty) ⟨h.os,h.tape,h.output,h.size,h.block⟩
theorem Ad{W w:World}(p:Addr)(u:Value)(h:Below W.heap.size W w)(hp:W.heap.size≤p.block):Below W.heap.size W (w.setCell p u):=h.setCell hp u
theorem Aw{W w:World}(o:Obj)(h:Below W.heap.size W w):Below W.heap.size W (w.alloc o):=h.alloc h.size o

theorem Ag{w:World}{B:Nat}{v0 v1 u0 u1:Value}(f0:w.cell? ⟨B,0,none⟩=some u0)(f1:w.cell? ⟨B,1,none⟩=some u1):((w.setCell ⟨B,0,none⟩ v0).setCell ⟨B,1,none⟩ v1).cell? ⟨B,0,none⟩=some v0∧((w.setCell ⟨B,0,none⟩ v0).setCell ⟨B,1,none⟩ v1).cell? ⟨B,1,none⟩=some v1:=by
 have s0:=World.cell?_setCell_same w ⟨B,0,none⟩ v0 f0;have s1:(w.setCell ⟨B,0,none⟩ v0).cell? ⟨B,1,none⟩=some u1:=(World.cell?_setCell_other _ _ _ _ (fun x=>absurd (congrArg Addr.off x) (by simp))).trans f1;exact⟨(World.cell?_setCell_other _ _ _ _ (fun x=>absurd (congrArg Addr.off x) (by simp))).trans s0,World.cell?_setCell_same _ _ _ s1⟩
theorem Ch{w:World}{B C:Nat}(h:C≠B)(v0 v1:Value)(i:Nat):((w.setCell ⟨B,0,none⟩ v0).setCell ⟨B,1,none⟩ v1).cell? ⟨C,i,none⟩=w.cell? ⟨C,i,none⟩:=
 (World.cell?_setCell_other _ _ _ _ (fun x=>h (congrArg Addr.block x).symm)).trans (World.cell?_setCell_other _ _ _ _ (fun x=>h (congrArg Addr.block x).symm))
theorem Mk(V:World)(a b:Value)(t:TypeId):(V.alloc (.cells #[a,b] t)).cell? ⟨V.heap.size,0,none⟩=some a∧(V.alloc (.cells #[a,b] t)).cell? ⟨V.heap.size,1,none⟩=some b:=⟨by simp,by simp⟩
end
end Go.Proofs.YtebofaenlhhkaaaGreat
