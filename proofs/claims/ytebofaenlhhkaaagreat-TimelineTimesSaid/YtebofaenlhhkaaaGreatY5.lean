import Derived.StillTailTactics
import Derived.Shelf.Small.Bits
import Derived.Shelf.Strconv.Itoa0
import Derived.Shelf.Bits.Mul64
import Derived.Test.YtebofaenlhhkaaaGreatProg
import Derived.Shelf.Spec.BitsCarry
import Derived.Test.YtebofaenlhhkaaaGreatY1
namespace Go.Proofs.YtebofaenlhhkaaaGreat
set_option maxRecDepth 100000
set_option maxHeartbeats 80000000
section
open Go.RowKit Go.Shelf
theorem Av{wr w1 w2:World}(h:Below wr.heap.size wr w1)(h2:Below w1.heap.size w1 w2):Below wr.heap.size wr w2:=h.trans (h2.mono h.size)
def Mo(n d:Int):Int×Int×Int:=if d=0 then(0,0,16)else Eh (!(n==0)&&(decide (n<0)!=decide (d<0))) ((n.natAbs:Int)/(Int.gcd n d:Int)) ((d.natAbs:Int)/(Int.gcd n d:Int))

theorem AEe(n d:Int)(hn0:¬n=0)(n1:-9223372036854775808≤n)(n2:n≤9223372036854775807)(d1:-9223372036854775808≤d)(d2:d≤9223372036854775807)(w:World):
  Calls Tryz.prog 53 #[.int .i64 n,.int .i64 d] w fun e w'=>e=.returned (.tuple #[.agg #[.int .i64 (Mo n d).1,.int .i64 (Mo n d).2.1],.int .i64 (Mo n d).2.2])∧Below w.heap.size w w':=by
 by_cases hd:d=0
 ·have HR:Hid (Mo n d=(0,0,16)):=lh (by unfold Mo;rw[if_pos hd])
  rw[HR.out];subst hd
  go_enter Tryz.func53,Tryz.ntmps53
  go_wp2
  refine bodyPost_ret (v:=.tuple #[.agg #[.int .i64 0,.int .i64 0],.int .i64 16]) (by simp[results,Tryz.results53,go_sem]) rfl ⟨rfl,?_⟩;exact Aa _ _
 ·have hd0:(d==0)=false:=by simpa using hd
  obtain⟨a,ha⟩:=nm ((n.natAbs:Int):Int);obtain⟨b,hb⟩:=nm ((d.natAbs:Int):Int);obtain⟨g,hg⟩:=nm ((Int.gcd a b:Int):Int);have a0:0≤a:=by omega
  have a1:a<18446744073709551616:=by omega
  have b0:0<b:=by omega
  have b1:b<18446744073709551616:=by omega
  have gp:0<g:=by rw[←hg];exact Dn b0
  have g0:¬g=0:=by omega
  have g0':(g==0)=false:=by simpa using g0
  have q0:0≤a/g:=Int.ediv_nonneg a0 (by omega);have q1:0≤b/g:=Int.ediv_nonneg (by omega) (by omega);have q2:IntKind.u64.wrap (a.tdiv g)=a/g:=by rw[Int.tdiv_eq_ediv_of_nonneg a0,IntKind.wrap_u64];exact Int.emod_eq_of_lt q0 (by have:=Int.ediv_le_self g a0;omega)
  have q3:IntKind.u64.wrap (b.tdiv g)=b/g:=by rw[Int.tdiv_eq_ediv_of_nonneg (by omega),IntKind.wrap_u64];exact Int.emod_eq_of_lt q1 (by have:=Int.ediv_le_self g (Int.le_of_lt b0);omega)
  have hgg:Int.gcd n d=Int.gcd a b:=by rw[←ha,←hb];simp[Int.gcd]
  have HA:=lh ha;have HB:=lh hb;have HG:=lh hg;have HP:Hid (Mo n d=Eh (!(n==0)&&(decide (n<0)!=decide (d<0))) (a/g) (b/g)):=lh (by unfold Mo;rw[if_neg hd,ha,hb,hgg,hg]);clear ha hb hg hgg hd;have c0:(n==0)=false:=by simpa using hn0
  have c0':(n !=0)=true:=by simpa using hn0
  clear hn0
  by_cases hn:n<0
  ·have c1:=dT hn
   clear hn
   by_cases hd:d<0
   ·have c2:=dT hd
    clear hd;obtain⟨r,hr⟩:=nm (Eh false (a/g) (b/g));have HR:Hid (Mo n d=r):=lh (by rw[HP.out,c0,c1,c2,show(!false&&(true !=true))=false from rfl];exact hr);have HS:=lh hr;rw[HR.out];clear hr
    go_enter Tryz.func53,Tryz.ntmps53
    go_wp2_with (first | (go_at_call 89;go_fit (Dm n n1 n2 _);rintro e w' ⟨rfl,rfl⟩;rw[HA.out]) | (go_at_call 89;go_fit (Dm d d1 d2 _);rintro e w' ⟨rfl,rfl⟩;rw[HB.out]) | (go_at_call 90;go_fit (Jg a b a0 a1 (by omega) b1 _);rintro e w' ⟨rfl,m,rfl⟩;rw[HG.out]))
    have hbr:Below w.heap.size w ((w.alloc (.cells #[.int .i64 0,.int .i64 0] 49)).drewN m):=Aj (Aa _ _) _;have z0:((w.alloc (.cells #[.int .i64 0,.int .i64 0] 49)).drewN m).cell? ⟨w.heap.size,0,none⟩=some (.int .i64 0):=by simp
    have z1:((w.alloc (.cells #[.int .i64 0,.int .i64 0] 49)).drewN m).cell? ⟨w.heap.size,1,none⟩=some (.int .i64 0):=by simp
    have z2:((w.alloc (.cells #[.int .i64 0,.int .i64 0] 49)).drewN m).frozen? ⟨w.heap.size,0,none⟩=false:=by simp
    have z3:((w.alloc (.cells #[.int .i64 0,.int .i64 0] 49)).drewN m).frozen? ⟨w.heap.size,1,none⟩=false:=by simp
    have z4:w.heap.size<((w.alloc (.cells #[.int .i64 0,.int .i64 0] 49)).drewN m).heap.size:=by simp
    generalize (w.alloc (.cells #[.int .i64 0,.int .i64 0] 49)).drewN m=W0 at *;have HSS:Hid (∀w',Below W0.heap.size W0 w'→Below W0.heap.size W0 w'∧w'.cell? ⟨w.heap.size,0,none⟩=some (.int .i64 0)∧w'.cell? ⟨w.heap.size,1,none⟩=some (.int .i64 0)∧w'.frozen? ⟨w.heap.size,0,none⟩=false∧w'.frozen? ⟨w.heap.size,1,none⟩=false):=lh fun w' h=>⟨h,ct h z0 z4,ct h z1 z4,(h.frozen (p:=⟨w.heap.size,0,none⟩) z4).trans z2,(h.frozen (p:=⟨w.heap.size,1,none⟩) z4).trans z3⟩;have hb0:=Below.refl W0.heap.size W0
    first
    | go_region_held3 (fun w'=>Below w.heap.size w w')
      (first | exact hbr.drew | exact hbr | exact hbw | exact(hbw.setCell (p:=⟨w.heap.size,0,none⟩) nr _).setCell (p:=⟨w.heap.size,1,none⟩) nr _)
      (first
       | (go_at_call 91;go_split_ands;go_fit (El false (a/g) (b/g) q0 q1 _);rintro e w2 ⟨rfl,hb2⟩;rw[HS.out];obtain⟨hbn,u0,u1,u2,u3⟩:=HSS.out _ (Av (wr:=W0) hb0.drew hb2);have hbw:=hbr.trans (hbn.mono (by omega))))
    | fail
    all_goals go_wp2
    all_goals
     have s0:=World.cell?_setCell_same w2 ⟨w.heap.size,0,none⟩ (.int .i64 r.1) u0;have s1:(w2.setCell ⟨w.heap.size,0,none⟩ (.int .i64 r.1)).cell? ⟨w.heap.size,1,none⟩=some (.int .i64 0):=(World.cell?_setCell_other _ _ _ _ (fun x=>absurd (congrArg Addr.off x) (by simp))).trans u1;have s2:=World.cell?_setCell_same _ ⟨w.heap.size,1,none⟩ (.int .i64 r.2.1) s1;have s3:((w2.setCell ⟨w.heap.size,0,none⟩ (.int .i64 r.1)).setCell ⟨w.heap.size,1,none⟩ (.int .i64 r.2.1)).cell? ⟨w.heap.size,0,none⟩=some (.int .i64 r.1):=(World.cell?_setCell_other _ _ _ _ (fun x=>absurd (congrArg Addr.off x) (by simp))).trans s0;refine bodyPost_ret (v:=.tuple #[.agg #[.int .i64 r.1,.int .i64 r.2.1],.int .i64 r.2.2]) (by simp[results,Tryz.results53,go_sem,s2,s3]) rfl ⟨rfl,?_⟩;exact(hbw.setCell (p:=⟨w.heap.size,0,none⟩) nr _).setCell (p:=⟨w.heap.size,1,none⟩) nr _
   ·have c2:=dF hd
    clear hd;obtain⟨r,hr⟩:=nm (Eh true (a/g) (b/g));have HR:Hid (Mo n d=r):=lh (by rw[HP.out,c0,c1,c2,show(!false&&(true !=false))=true from rfl];exact hr);have HS:=lh hr;rw[HR.out];clear hr
    go_enter Tryz.func53,Tryz.ntmps53
    go_wp2_with (first | (go_at_call 89;go_fit (Dm n n1 n2 _);rintro e w' ⟨rfl,rfl⟩;rw[HA.out]) | (go_at_call 89;go_fit (Dm d d1 d2 _);rintro e w' ⟨rfl,rfl⟩;rw[HB.out]) | (go_at_call 90;go_fit (Jg a b a0 a1 (by omega) b1 _);rintro e w' ⟨rfl,m,rfl⟩;rw[HG.out]))
    have hbr:Below w.heap.size w ((w.alloc (.cells #[.int .i64 0,.int .i64 0] 49)).drewN m):=Aj (Aa _ _) _;have z0:((w.alloc (.cells #[.int .i64 0,.int .i64 0] 49)).drewN m).cell? ⟨w.heap.size,0,none⟩=some (.int .i64 0):=by simp
    have z1:((w.alloc (.cells #[.int .i64 0,.int .i64 0] 49)).drewN m).cell? ⟨w.heap.size,1,none⟩=some (.int .i64 0):=by simp
    have z2:((w.alloc (.cells #[.int .i64 0,.int .i64 0] 49)).drewN m).frozen? ⟨w.heap.size,0,none⟩=false:=by simp
    have z3:((w.alloc (.cells #[.int .i64 0,.int .i64 0] 49)).drewN m).frozen? ⟨w.heap.size,1,none⟩=false:=by simp
    have z4:w.heap.size<((w.alloc (.cells #[.int .i64 0,.int .i64 0] 49)).drewN m).heap.size:=by simp
    generalize (w.alloc (.cells #[.int .i64 0,.int .i64 0] 49)).drewN m=W0 at *;have HSS:Hid (∀w',Below W0.heap.size W0 w'→Below W0.heap.size W0 w'∧w'.cell? ⟨w.heap.size,0,none⟩=some (.int .i64 0)∧w'.cell? ⟨w.heap.size,1,none⟩=some (.int .i64 0)∧w'.frozen? ⟨w.heap.size,0,none⟩=false∧w'.frozen? ⟨w.heap.size,1,none⟩=false):=lh fun w' h=>⟨h,ct h z0 z4,ct h z1 z4,(h.frozen (p:=⟨w.heap.size,0,none⟩) z4).trans z2,(h.frozen (p:=⟨w.heap.size,1,none⟩) z4).trans z3⟩;have hb0:=Below.refl W0.heap.size W0
    first
    | go_region_held3 (fun w'=>Below w.heap.size w w')
      (first | exact hbr.drew | exact hbr | exact hbw | exact(hbw.setCell (p:=⟨w.heap.size,0,none⟩) nr _).setCell (p:=⟨w.heap.size,1,none⟩) nr _)
      (first
       | (go_at_call 91;go_split_ands;go_fit (El true (a/g) (b/g) q0 q1 _);rintro e w2 ⟨rfl,hb2⟩;rw[HS.out];obtain⟨hbn,u0,u1,u2,u3⟩:=HSS.out _ (Av (wr:=W0) hb0.drew hb2);have hbw:=hbr.trans (hbn.mono (by omega))))
    | fail
    all_goals go_wp2
    all_goals
     have s0:=World.cell?_setCell_same w2 ⟨w.heap.size,0,none⟩ (.int .i64 r.1) u0;have s1:(w2.setCell ⟨w.heap.size,0,none⟩ (.int .i64 r.1)).cell? ⟨w.heap.size,1,none⟩=some (.int .i64 0):=(World.cell?_setCell_other _ _ _ _ (fun x=>absurd (congrArg Addr.off x) (by simp))).trans u1;have s2:=World.cell?_setCell_same _ ⟨w.heap.size,1,none⟩ (.int .i64 r.2.1) s1;have s3:((w2.setCell ⟨w.heap.size,0,none⟩ (.int .i64 r.1)).setCell ⟨w.heap.size,1,none⟩ (.int .i64 r.2.1)).cell? ⟨w.heap.size,0,none⟩=some (.int .i64 r.1):=(World.cell?_setCell_other _ _ _ _ (fun x=>absurd (congrArg Addr.off x) (by simp))).trans s0;refine bodyPost_ret (v:=.tuple #[.agg #[.int .i64 r.1,.int .i64 r.2.1],.int .i64 r.2.2]) (by simp[results,Tryz.results53,go_sem,s2,s3]) rfl ⟨rfl,?_⟩;exact(hbw.setCell (p:=⟨w.heap.size,0,none⟩) nr _).setCell (p:=⟨w.heap.size,1,none⟩) nr _
  ·have c1:=dF hn
   clear hn
   by_cases hd:d<0
   ·have c2:=dT hd
    clear hd;obtain⟨r,hr⟩:=nm (Eh true (a/g) (b/g));have HR:Hid (Mo n d=r):=lh (by rw[HP.out,c0,c1,c2,show(!false&&(false !=true))=true from rfl];exact hr);have HS:=lh hr;rw[HR.out];clear hr
    go_enter Tryz.func53,Tryz.ntmps53
    go_wp2_with (first | (go_at_call 89;go_fit (Dm n n1 n2 _);rintro e w' ⟨rfl,rfl⟩;rw[HA.out]) | (go_at_call 89;go_fit (Dm d d1 d2 _);rintro e w' ⟨rfl,rfl⟩;rw[HB.out]) | (go_at_call 90;go_fit (Jg a b a0 a1 (by omega) b1 _);rintro e w' ⟨rfl,m,rfl⟩;rw[HG.out]))
    have hbr:Below w.heap.size w ((w.alloc (.cells #[.int .i64 0,.int .i64 0] 49)).drewN m):=Aj (Aa _ _) _;have z0:((w.alloc (.cells #[.int .i64 0,.int .i64 0] 49)).drewN m).cell? ⟨w.heap.size,0,none⟩=some (.int .i64 0):=by simp
    have z1:((w.alloc (.cells #[.int .i64 0,.int .i64 0] 49)).drewN m).cell? ⟨w.heap.size,1,none⟩=some (.int .i64 0):=by simp
    have z2:((w.alloc (.cells #[.int .i64 0,.int .i64 0] 49)).drewN m).frozen? ⟨w.heap.size,0,none⟩=false:=by simp
    have z3:((w.alloc (.cells #[.int .i64 0,.int .i64 0] 49)).drewN m).frozen? ⟨w.heap.size,1,none⟩=false:=by simp
    have z4:w.heap.size<((w.alloc (.cells #[.int .i64 0,.int .i64 0] 49)).drewN m).heap.size:=by simp
    generalize (w.alloc (.cells #[.int .i64 0,.int .i64 0] 49)).drewN m=W0 at *;have HSS:Hid (∀w',Below W0.heap.size W0 w'→Below W0.heap.size W0 w'∧w'.cell? ⟨w.heap.size,0,none⟩=some (.int .i64 0)∧w'.cell? ⟨w.heap.size,1,none⟩=some (.int .i64 0)∧w'.frozen? ⟨w.heap.size,0,none⟩=false∧w'.frozen? ⟨w.heap.size,1,none⟩=false):=lh fun w' h=>⟨h,ct h z0 z4,ct h z1 z4,(h.frozen (p:=⟨w.heap.size,0,none⟩) z4).trans z2,(h.frozen (p:=⟨w.heap.size,1,none⟩) z4).trans z3⟩;have hb0:=Below.refl W0.heap.size W0
    first
    | go_region_held3 (fun w'=>Below w.heap.size w w')
      (first | exact hbr.drew | exact hbr | exact hbw | exact(hbw.setCell (p:=⟨w.heap.size,0,none⟩) nr _).setCell (p:=⟨w.heap.size,1,none⟩) nr _)
      (first
       | (go_at_call 91;go_split_ands;go_fit (El true (a/g) (b/g) q0 q1 _);rintro e w2 ⟨rfl,hb2⟩;rw[HS.out];obtain⟨hbn,u0,u1,u2,u3⟩:=HSS.out _ (Av (wr:=W0) hb0.drew hb2);have hbw:=hbr.trans (hbn.mono (by omega))))
    | fail
    all_goals go_wp2
    all_goals
     have s0:=World.cell?_setCell_same w2 ⟨w.heap.size,0,none⟩ (.int .i64 r.1) u0;have s1:(w2.setCell ⟨w.heap.size,0,none⟩ (.int .i64 r.1)).cell? ⟨w.heap.size,1,none⟩=some (.int .i64 0):=(World.cell?_setCell_other _ _ _ _ (fun x=>absurd (congrArg Addr.off x) (by simp))).trans u1;have s2:=World.cell?_setCell_same _ ⟨w.heap.size,1,none⟩ (.int .i64 r.2.1) s1;have s3:((w2.setCell ⟨w.heap.size,0,none⟩ (.int .i64 r.1)).setCell ⟨w.heap.size,1,none⟩ (.int .i64 r.2.1)).cell? ⟨w.heap.size,0,none⟩=some (.int .i64 r.1):=(World.cell?_setCell_other _ _ _ _ (fun x=>absurd (congrArg Addr.off x) (by simp))).trans s0;refine bodyPost_ret (v:=.tuple #[.agg #[.int .i64 r.1,.int .i64 r.2.1],.int .i64 r.2.2]) (by simp[results,Tryz.results53,go_sem,s2,s3]) rfl ⟨rfl,?_⟩;exact(hbw.setCell (p:=⟨w.heap.size,0,none⟩) nr _).setCell (p:=⟨w.heap.size,1,none⟩) nr _
   ·have c2:=dF hd
    clear hd;obtain⟨r,hr⟩:=nm (Eh false (a/g) (b/g));have HR:Hid (Mo n d=r):=lh (by rw[HP.out,c0,c1,c2,show(!false&&(false !=false))=false from rfl];exact hr);have HS:=lh hr;rw[HR.out];clear hr
    go_enter Tryz.func53,Tryz.ntmps53
    go_wp2_with (first | (go_at_call 89;go_fit (Dm n n1 n2 _);rintro e w' ⟨rfl,rfl⟩;rw[HA.out]) | (go_at_call 89;go_fit (Dm d d1 d2 _);rintro e w' ⟨rfl,rfl⟩;rw[HB.out]) | (go_at_call 90;go_fit (Jg a b a0 a1 (by omega) b1 _);rintro e w' ⟨rfl,m,rfl⟩;rw[HG.out]))
    have hbr:Below w.heap.size w ((w.alloc (.cells #[.int .i64 0,.int .i64 0] 49)).drewN m):=Aj (Aa _ _) _;have z0:((w.alloc (.cells #[.int .i64 0,.int .i64 0] 49)).drewN m).cell? ⟨w.heap.size,0,none⟩=some (.int .i64 0):=by simp
    have z1:((w.alloc (.cells #[.int .i64 0,.int .i64 0] 49)).drewN m).cell? ⟨w.heap.size,1,none⟩=some (.int .i64 0):=by simp
    have z2:((w.alloc (.cells #[.int .i64 0,.int .i64 0] 49)).drewN m).frozen? ⟨w.heap.size,0,none⟩=false:=by simp
    have z3:((w.alloc (.cells #[.int .i64 0,.int .i64 0] 49)).drewN m).frozen? ⟨w.heap.size,1,none⟩=false:=by simp
    have z4:w.heap.size<((w.alloc (.cells #[.int .i64 0,.int .i64 0] 49)).drewN m).heap.size:=by simp
    generalize (w.alloc (.cells #[.int .i64 0,.int .i64 0] 49)).drewN m=W0 at *;have HSS:Hid (∀w',Below W0.heap.size W0 w'→Below W0.heap.size W0 w'∧w'.cell? ⟨w.heap.size,0,none⟩=some (.int .i64 0)∧w'.cell? ⟨w.heap.size,1,none⟩=some (.int .i64 0)∧w'.frozen? ⟨w.heap.size,0,none⟩=false∧w'.frozen? ⟨w.heap.size,1,none⟩=false):=lh fun w' h=>⟨h,ct h z0 z4,ct h z1 z4,(h.frozen (p:=⟨w.heap.size,0,none⟩) z4).trans z2,(h.frozen (p:=⟨w.heap.size,1,none⟩) z4).trans z3⟩;have hb0:=Below.refl W0.heap.size W0
    first
    | go_region_held3 (fun w'=>Below w.heap.size w w')
      (first | exact hbr.drew | exact hbr | exact hbw | exact(hbw.setCell (p:=⟨w.heap.size,0,none⟩) nr _).setCell (p:=⟨w.heap.size,1,none⟩) nr _)
      (first
       | (go_at_call 91;go_split_ands;go_fit (El false (a/g) (b/g) q0 q1 _);rintro e w2 ⟨rfl,hb2⟩;rw[HS.out];obtain⟨hbn,u0,u1,u2,u3⟩:=HSS.out _ (Av (wr:=W0) hb0.drew hb2);have hbw:=hbr.trans (hbn.mono (by omega))))
    | fail
    all_goals go_wp2
    all_goals
     have s0:=World.cell?_setCell_same w2 ⟨w.heap.size,0,none⟩ (.int .i64 r.1) u0;have s1:(w2.setCell ⟨w.heap.size,0,none⟩ (.int .i64 r.1)).cell? ⟨w.heap.size,1,none⟩=some (.int .i64 0):=(World.cell?_setCell_other _ _ _ _ (fun x=>absurd (congrArg Addr.off x) (by simp))).trans u1;have s2:=World.cell?_setCell_same _ ⟨w.heap.size,1,none⟩ (.int .i64 r.2.1) s1;have s3:((w2.setCell ⟨w.heap.size,0,none⟩ (.int .i64 r.1)).setCell ⟨w.heap.size,1,none⟩ (.int .i64 r.2.1)).cell? ⟨w.heap.size,0,none⟩=some (.int .i64 r.1):=(World.cell?_setCell_other _ _ _ _ (fun x=>absurd (congrArg Addr.off x) (by simp))).trans s0;refine bodyPost_ret (v:=.tuple #[.agg #[.int .i64 r.1,.int .i64 r.2.1],.int .i64 r.2.2]) (by simp[results,Tryz.results53,go_sem,s2,s3]) rfl ⟨rfl,?_⟩;exact(hbw.setCell (p:=⟨w.heap.size,0,none⟩) nr _).setCell (p:=⟨w.heap.size,1,none⟩) nr _
end
end Go.Proofs.YtebofaenlhhkaaaGreat
namespace Go.Proofs
open Go.Shelf
def Tryz.lays134_ren:Go.Shelf.Ren:=⟨fun | 134=>207 | 129=>212 | n=>n,fun | 53=>138 | 3=>3 | 4=>4 | 46=>175 | 5=>5 | 9=>9 | n=>n,fun | n=>n⟩
theorem Tryz.lays134:Go.Proofs.Lays.n134 Tryz.prog Tryz.lays134_ren:={
 mixed:=by kernel_rfl
 f129:=Tryz.func212.trans (congrArg some (by kernel_rfl))
 f134:=Tryz.func207.trans (congrArg some (by kernel_rfl))
 t3:=Tryz.underlying3
 a3:=Tryz.isAgg3
 z3:=Tryz.sizeOf3
 v3:=Tryz.zeroValue3
 t4:=Tryz.underlying4
 a4:=Tryz.isAgg4
 z4:=Tryz.sizeOf4
 v4:=Tryz.zeroValue4
 t5:=Tryz.underlying5
 a5:=Tryz.isAgg5
 z5:=Tryz.sizeOf5
 v5:=Tryz.zeroValue5
 t9:=Tryz.underlying9
 a9:=Tryz.isAgg9
 z9:=Tryz.sizeOf9
 v9:=Tryz.zeroValue9
 t46:=Tryz.underlying175
 a46:=Tryz.isAgg175
 z46:=Tryz.sizeOf175
 v46:=Tryz.zeroValue175
 t53:=Tryz.underlying138
 a53:=Tryz.isAgg138
 z53:=Tryz.sizeOf138
 v53:=Tryz.zeroValue138}
theorem Tryz.bits_LeadingZeros64(x:Int)(w:World)(h0:0≤x)(h1:x≤18446744073709551615):
  Calls Tryz.prog 207 #[.int .u64 x] w fun e w'=>e=.returned (.int .i64 (64-(Lib.bitLen x.toNat:Int)))∧w'=w:=Any.bits_LeadingZeros64 Tryz.lays134 x w h0 h1
def Tryz.lays264_ren:Go.Shelf.Ren:=⟨fun | 264=>158 | n=>n,fun | 53=>138 | 46=>175 | n=>n,fun | n=>n⟩
theorem Tryz.lays264:Go.Proofs.Lays.n264 Tryz.prog Tryz.lays264_ren:={
 mixed:=by kernel_rfl
 f264:=Tryz.func158.trans (congrArg some (by kernel_rfl))
 t46:=Tryz.underlying175
 a46:=Tryz.isAgg175
 z46:=Tryz.sizeOf175
 v46:=Tryz.zeroValue175
 t53:=Tryz.underlying138
 a53:=Tryz.isAgg138
 z53:=Tryz.sizeOf138
 v53:=Tryz.zeroValue138}
open Go.RowKit Go.Lib in
theorem Tryz.bits_Mul64(x y:Nat)(hx:x<18446744073709551616)(hy:y<18446744073709551616)(w:World):
  Calls Tryz.prog 158 #[.int .u64 x,.int .u64 y] w fun e w'=>e=.returned (.tuple #[.int .u64 ((x*y/18446744073709551616:Nat):Int),.int .u64 ((x*y%18446744073709551616:Nat):Int)])∧w'=w:=Any.bits_Mul64 Tryz.lays264 x y hx hy w
end Go.Proofs
namespace Go.Proofs.YtebofaenlhhkaaaGreat
set_option maxRecDepth 100000
set_option maxHeartbeats 80000000
section
open Go.RowKit Go.Shelf
theorem AJk(x y:Int)(hx:0≤x)(hx':x<18446744073709551616)(hy:0≤y)(hy':y<18446744073709551616)(w:World):
  Calls Tryz.prog 158 #[.int .u64 x,.int .u64 y] w fun e w'=>e=.returned (.tuple #[.int .u64 (x*y/18446744073709551616),.int .u64 (x*y%18446744073709551616)])∧w=w':=by
 obtain⟨x,rfl⟩:=Int.eq_ofNat_of_zero_le hx;obtain⟨y,rfl⟩:=Int.eq_ofNat_of_zero_le hy;exact(Tryz.bits_Mul64 x y (by omega) (by omega) w).mono fun e w' h=>⟨h.1.trans (by simp),h.2.symm⟩

theorem Oi(x y:Int)(hx:0≤x)(hx':x<18446744073709551616)(hy:0≤y)(hy':y<18446744073709551616)(w:World):
  Calls Tryz.prog 110 #[.int .u64 x,.int .u64 y] w fun e w'=>e=.returned (.agg #[.int .u64 (x*y/18446744073709551616),.int .u64 (x*y%18446744073709551616)])∧Below w.heap.size w w':=by
 obtain⟨h,hh⟩:=nm (x*y/18446744073709551616);obtain⟨l,hl⟩:=nm (x*y%18446744073709551616);have HH:=lh hh;have HL:=lh hl;rw[hh,hl];clear hh hl
 go_enter Tryz.func110,Tryz.ntmps110
 go_wp2_with (go_at_call 158;go_fit (AJk x y hx hx' hy hy' _);rintro e w' ⟨rfl,rfl⟩;rw[HH.out,HL.out])
 refine bodyPost_ret (v:=.agg #[.int .u64 h,.int .u64 l]) (by simp[results,Tryz.results110,go_sem]) rfl ⟨rfl,?_⟩;exact Aa _ _
theorem ACs(x y:Int)(hx:0≤x)(hx':x<18446744073709551616)(hy:0<y)(hy':y<18446744073709551616)(w:World):
  Calls Tryz.prog 188 #[.int .u64 0,.int .u64 x,.int .u64 y] w fun e w'=>e=.returned (.tuple #[.int .u64 (x/y),.int .u64 (x%y)])∧∃m,w'=w.drewN m:=by
 have y0:¬y=0:=by omega
 have y0':(y==0)=false:=by simpa using y0
 have y1:decide (y≤0)=false:=by simp;omega
 have q0:0≤x/y:=Int.ediv_nonneg hx (by omega);have q2:IntKind.u64.wrap (x.tdiv y)=x/y:=by rw[Int.tdiv_eq_ediv_of_nonneg hx,IntKind.wrap_u64];exact Int.emod_eq_of_lt q0 (by have:=Int.ediv_le_self y hx;omega)
 have r0:0≤x%y:=Int.emod_nonneg _ y0;have r1:x%y<y:=Int.emod_lt_of_pos _ hy;have q3:IntKind.u64.wrap (x.tmod y)=x%y:=by rw[Int.tmod_eq_emod_of_nonneg hx,IntKind.wrap_u64];omega
 go_enter Tryz.func188,Tryz.ntmps188
 go_wp2_with fail
 go_quiet (fail)
 go_wp2_with fail
 go_ret2
 exact⟨by first | rfl | rw[q2] | rw[q2,q3],_,rfl⟩
end
end Go.Proofs.YtebofaenlhhkaaaGreat
