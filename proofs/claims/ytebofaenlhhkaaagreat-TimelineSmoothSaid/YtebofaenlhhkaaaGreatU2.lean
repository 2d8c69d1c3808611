/-
  HOW SLICES LIE IN MEMORY (pieces, fractions).
-/
import Derived.Maps.AppendAt
import Derived.Deep.AppendLies
import Derived.Deep.RegionLaw
import Derived.Deep.RegionLawGrows
import Derived.IntWalk
import Derived.Test.YtebofaenlhhkaaaGreatU1
namespace Go.Proofs.YtebofaenlhhkaaaGreat
set_option maxRecDepth 100000
set_option maxHeartbeats 80000000
section
open Go.RowKit Go.Shelf
attribute [local go_sem] Oper.semAt_some
theorem ret_int{k:IntKind}{a b:Int}(h:a=b):Ending.returned (.int k a)=.returned (.int k b):=by rw[h]
theorem ret_bool{a b:Bool}(h:a=b):Ending.returned (.bool a)=.returned (.bool b):=by rw[h]
theorem mono_in{w w':World}(o:Obj)(h:Below (w.alloc o).heap.size (w.alloc o) w'):Below w.heap.size w w':=((br).alloc (Nat.le_refl _) o).trans (h.mono (by simp))
theorem row_addr{w:World}{base n cap size:Nat}{e:TypeId}{a:Option Addr}{xs:List Value}(h:w.ownsRow base e size (.slice a n cap) n xs)(hn:0<n):∃g,a=some ⟨g,0,none⟩∧base≤g∧g<w.heap.size:=by
 rcases h.2 with ⟨e,h0⟩ | ⟨g,cap',cur,e,hb,hg,_⟩
 ·omega
 ·cases e;exact⟨g,rfl,hb,(Array.getElem?_eq_some_iff.1 hg).1⟩

/-! ### Slices of api.Piece3 -/
structure Pc where
 f0:Int
 f1:Int
 a0:Int
 a1:Int
 b0:Int
 b1:Int
 c0:Int
 c1:Int
def pcg(L:List (Pc))(i:Nat):Pc:=(L[i]?).getD ⟨0,1,0,1,0,1,0,1⟩
theorem pcg_eq(L:List (Pc))(i:Nat)(h:i<L.length):pcg L i=L[i]:=by unfold pcg;rw[List.getElem?_eq_getElem h];rfl
def pcflat(L:List (Pc)):List Value:=L.flatMap fun r=>[.int .i64 r.f0,.int .i64 r.f1,.int .i64 r.a0,.int .i64 r.a1,.int .i64 r.b0,.int .i64 r.b1,.int .i64 r.c0,.int .i64 r.c1]
theorem pcflat_at(L:List (Pc))(i:Nat)(hi:i<L.length):(pcflat L)[i*8]? =some (.int .i64 (pcg L i).f0)∧(pcflat L)[i*8+1]? =some (.int .i64 (pcg L i).f1)∧(pcflat L)[i*8+2]? =some (.int .i64 (pcg L i).a0)∧(pcflat L)[i*8+3]? =some (.int .i64 (pcg L i).a1)∧(pcflat L)[i*8+4]? =some (.int .i64 (pcg L i).b0)∧(pcflat L)[i*8+5]? =some (.int .i64 (pcg L i).b1)∧(pcflat L)[i*8+6]? =some (.int .i64 (pcg L i).c0)∧(pcflat L)[i*8+7]? =some (.int .i64 (pcg L i).c1):=by
 induction L generalizing i with
 | nil=>simp at hi
 | cons x r ih=>
  match i with
  | 0=>exact⟨rfl,rfl,rfl,rfl,rfl,rfl,rfl,rfl⟩
  | i+1=>
   have:=ih i (by simpa using hi);have e:pcflat (x::r)=.int .i64 x.f0::.int .i64 x.f1::.int .i64 x.a0::.int .i64 x.a1::.int .i64 x.b0::.int .i64 x.b1::.int .i64 x.c0::.int .i64 x.c1::pcflat r:=rfl;rw[e,show(i+1)*8=i*8+1+1+1+1+1+1+1+1 by omega]
   simpa[pcg]using this
theorem pcflat_snoc(L:List (Pc))(r:Pc):pcflat (L++[r])=pcflat L++[.int .i64 r.f0,.int .i64 r.f1,.int .i64 r.a0,.int .i64 r.a1,.int .i64 r.b0,.int .i64 r.b1,.int .i64 r.c0,.int .i64 r.c1]:=by simp[pcflat]
def Pcs(n₀:Nat)(w:World)(a:Option Addr)(L:List (Pc)):Prop:=
 0<L.length→∃b off,a=some ⟨b,off,none⟩∧b<n₀∧∀i,i<L.length→w.cell? ⟨b,off+i*8,none⟩=some (.int .i64 (pcg L i).f0)∧w.cell? ⟨b,off+i*8+1,none⟩=some (.int .i64 (pcg L i).f1)∧w.cell? ⟨b,off+i*8+2,none⟩=some (.int .i64 (pcg L i).a0)∧w.cell? ⟨b,off+i*8+3,none⟩=some (.int .i64 (pcg L i).a1)∧w.cell? ⟨b,off+i*8+4,none⟩=some (.int .i64 (pcg L i).b0)∧w.cell? ⟨b,off+i*8+5,none⟩=some (.int .i64 (pcg L i).b1)∧w.cell? ⟨b,off+i*8+6,none⟩=some (.int .i64 (pcg L i).c0)∧w.cell? ⟨b,off+i*8+7,none⟩=some (.int .i64 (pcg L i).c1)
theorem Pcs.below{n₀:Nat}{w w':World}{a:Option Addr}{L:List (Pc)}(h:Pcs n₀ w a L)(hb:Below n₀ w w'):Pcs n₀ w' a L:=fun hl=>by
 obtain⟨b,off,rfl,hlt,hc⟩:=h hl;refine⟨b,off,rfl,hlt,fun i hi=>?_⟩;obtain⟨c0,c1,c2,c3,c4,c5,c6,c7⟩:=hc i hi;exact⟨(hb.cell (p:=⟨b,_,none⟩) hlt).trans c0,(hb.cell (p:=⟨b,_,none⟩) hlt).trans c1,(hb.cell (p:=⟨b,_,none⟩) hlt).trans c2,(hb.cell (p:=⟨b,_,none⟩) hlt).trans c3,(hb.cell (p:=⟨b,_,none⟩) hlt).trans c4,(hb.cell (p:=⟨b,_,none⟩) hlt).trans c5,(hb.cell (p:=⟨b,_,none⟩) hlt).trans c6,(hb.cell (p:=⟨b,_,none⟩) hlt).trans c7⟩
theorem Pcs.mono{n₀ n₁:Nat}{w:World}{a:Option Addr}{L:List (Pc)}(h:Pcs n₀ w a L)(hn:n₀≤n₁):Pcs n₁ w a L:=fun hl=>by
 obtain⟨b,off,rfl,hlt,hc⟩:=h hl;exact⟨b,off,rfl,by omega,hc⟩
theorem Pcs.grow{w w':World}{a:Option Addr}{L:List (Pc)}(h:Pcs w.heap.size w a L)(hb:Below w.heap.size w w'):Pcs w'.heap.size w' a L:=(h.below hb).mono hb.size
theorem Pcs.nil{n₀:Nat}{w:World}{a:Option Addr}:Pcs n₀ w a []:=fun h=>absurd h (Nat.not_lt_zero _)
theorem Pcs.take{n₀:Nat}{w:World}{a:Option Addr}{L:List (Pc)}(h:Pcs n₀ w a L)(n:Nat):Pcs n₀ w a (L.take n):=fun hl=>by
 have hl':0<L.length:=by rw[List.length_take]at hl;omega
 obtain⟨b,off,rfl,hlt,hc⟩:=h hl';refine⟨b,off,rfl,hlt,fun i hi=>?_⟩;rw[List.length_take]at hi;have e:pcg (L.take n) i=pcg L i:=by unfold pcg;rw[List.getElem?_take,if_pos (by omega)]
 rw[e];exact hc i (by omega)
theorem pc_of_row{w:World}{base:Nat}{v:Value}{L:List (Pc)}(h:w.ownsRow base 122 8 v L.length (pcflat L)):∃a cap,v=.slice a L.length cap∧L.length≤cap∧cap≤maxLen∧(a=none→cap=0)∧Pcs w.heap.size w a L:=by
 rcases h.2 with ⟨rfl,h0⟩ | ⟨g,cap,cur,rfl,hb,hg,h1,h2,_⟩
 ·exact⟨none,0,by rw[h0],by omega,by unfold maxLen;omega,fun _=>rfl,fun hl=>by omega⟩
 ·refine⟨_,cap,rfl,h1,h2,(fun e=>by cases e),fun _=>⟨g,0,rfl,(Array.getElem?_eq_some_iff.1 hg).1,fun i hi=>?_⟩⟩
  obtain⟨f0,f1,f2,f3,f4,f5,f6,f7⟩:=pcflat_at L i hi;have c0:=h.cellAt (i*8) (by omega);have c1:=h.cellAt (i*8+1) (by omega);have c2:=h.cellAt (i*8+2) (by omega);have c3:=h.cellAt (i*8+3) (by omega);have c4:=h.cellAt (i*8+4) (by omega);have c5:=h.cellAt (i*8+5) (by omega);have c6:=h.cellAt (i*8+6) (by omega);have c7:=h.cellAt (i*8+7) (by omega);rw[f0]at c0;rw[f1]at c1;rw[f2]at c2;rw[f3]at c3;rw[f4]at c4;rw[f5]at c5;rw[f6]at c6;rw[f7]at c7;rw[Nat.zero_add];exact⟨c0,c1,c2,c3,c4,c5,c6,c7⟩
/-! ### Slices of api.Frac -/

def frg(L:List (Int×Int))(i:Nat):Int×Int:=(L[i]?).getD (0,1)
theorem frg_eq(L:List (Int×Int))(i:Nat)(h:i<L.length):frg L i=L[i]:=by unfold frg;rw[List.getElem?_eq_getElem h];rfl
theorem frg_ext(F1 F2:List (Int×Int))(hl:F1.length=F2.length)(h:∀j,j<F1.length→frg F1 j=frg F2 j):F1=F2:=by
 refine List.ext_getElem hl fun i h1 h2=>?_;have:=h i h1
 rwa [frg_eq F1 i h1,frg_eq F2 i h2]at this
theorem frg_old(L:List (Int×Int))(x:Int×Int)(i:Nat)(h:i<L.length):frg (L++[x]) i=frg L i:=by unfold frg;rw[List.getElem?_append_left h]
theorem frg_new(L:List (Int×Int))(x:Int×Int):frg (L++[x]) L.length=x:=by unfold frg;simp
def frflat(L:List (Int×Int)):List Value:=L.flatMap fun r=>[.int .i64 r.1,.int .i64 r.2]
theorem frflat_at(L:List (Int×Int))(i:Nat)(hi:i<L.length):(frflat L)[i*2]? =some (.int .i64 (frg L i).1)∧(frflat L)[i*2+1]? =some (.int .i64 (frg L i).2):=by
 induction L generalizing i with
 | nil=>simp at hi
 | cons x r ih=>
  match i with
  | 0=>exact⟨rfl,rfl⟩
  | i+1=>
   have:=ih i (by simpa using hi);have e:frflat (x::r)=.int .i64 x.1::.int .i64 x.2::frflat r:=rfl;rw[e,show(i+1)*2=i*2+1+1 by omega]
   simpa[frg]using this
theorem frflat_snoc(L:List (Int×Int))(r:Int×Int):frflat (L++[r])=frflat L++[.int .i64 r.1,.int .i64 r.2]:=by simp[frflat]
def Frs(n₀:Nat)(w:World)(a:Option Addr)(L:List (Int×Int)):Prop:=
 0<L.length→∃b off,a=some ⟨b,off,none⟩∧b<n₀∧∀i,i<L.length→w.cell? ⟨b,off+i*2,none⟩=some (.int .i64 (frg L i).1)∧w.cell? ⟨b,off+i*2+1,none⟩=some (.int .i64 (frg L i).2)
theorem Frs.below{n₀:Nat}{w w':World}{a:Option Addr}{L:List (Int×Int)}(h:Frs n₀ w a L)(hb:Below n₀ w w'):Frs n₀ w' a L:=fun hl=>by
 obtain⟨b,off,rfl,hlt,hc⟩:=h hl;refine⟨b,off,rfl,hlt,fun i hi=>?_⟩;obtain⟨c0,c1⟩:=hc i hi;exact⟨(hb.cell (p:=⟨b,_,none⟩) hlt).trans c0,(hb.cell (p:=⟨b,_,none⟩) hlt).trans c1⟩
theorem Frs.mono{n₀ n₁:Nat}{w:World}{a:Option Addr}{L:List (Int×Int)}(h:Frs n₀ w a L)(hn:n₀≤n₁):Frs n₁ w a L:=fun hl=>by
 obtain⟨b,off,rfl,hlt,hc⟩:=h hl;exact⟨b,off,rfl,by omega,hc⟩
theorem Frs.grow{w w':World}{a:Option Addr}{L:List (Int×Int)}(h:Frs w.heap.size w a L)(hb:Below w.heap.size w w'):Frs w'.heap.size w' a L:=(h.below hb).mono hb.size
theorem Frs.nil{n₀:Nat}{w:World}{a:Option Addr}:Frs n₀ w a []:=fun h=>absurd h (Nat.not_lt_zero _)
theorem Frs.take{n₀:Nat}{w:World}{a:Option Addr}{L:List (Int×Int)}(h:Frs n₀ w a L)(n:Nat):Frs n₀ w a (L.take n):=fun hl=>by
 have hl':0<L.length:=by rw[List.length_take]at hl;omega
 obtain⟨b,off,rfl,hlt,hc⟩:=h hl';refine⟨b,off,rfl,hlt,fun i hi=>?_⟩;rw[List.length_take]at hi;have e:frg (L.take n) i=frg L i:=by unfold frg;rw[List.getElem?_take,if_pos (by omega)]
 rw[e];exact hc i (by omega)
theorem fr_len(L:List (Int×Int)):(frflat L).length=L.length*2:=by
 induction L with
 | nil=>rfl
 | cons x r ih=>
  have e:frflat (x::r)=.int .i64 x.1::.int .i64 x.2::frflat r:=rfl;rw[e];simp only[List.length_cons,ih]
  try omega
theorem fr_of_row{w:World}{base:Nat}{v:Value}{L:List (Int×Int)}(h:w.ownsRow base 49 2 v L.length (frflat L)):∃a cap,v=.slice a L.length cap∧L.length≤cap∧cap≤maxLen∧(a=none→cap=0)∧Frs w.heap.size w a L:=by
 rcases h.2 with ⟨rfl,h0⟩ | ⟨g,cap,cur,rfl,hb,hg,h1,h2,_⟩
 ·exact⟨none,0,by rw[h0],by omega,by unfold maxLen;omega,fun _=>rfl,fun hl=>by omega⟩
 ·refine⟨_,cap,rfl,h1,h2,(fun e=>by cases e),fun _=>⟨g,0,rfl,(Array.getElem?_eq_some_iff.1 hg).1,fun i hi=>?_⟩⟩
  obtain⟨f0,f1⟩:=frflat_at L i hi;have c0:=h.cellAt (i*2) (by omega);have c1:=h.cellAt (i*2+1) (by omega);rw[f0]at c0;rw[f1]at c1;rw[Nat.zero_add];exact⟨c0,c1⟩
/-! ### Slices of int -/

def ig(L:List (Int))(i:Nat):Int:=(L[i]?).getD 0
theorem ig_eq(L:List (Int))(i:Nat)(h:i<L.length):ig L i=L[i]:=by unfold ig;rw[List.getElem?_eq_getElem h];rfl
theorem ig_get{L:List (Int)}{i:Nat}(h:i<L.length):L[i]? =some (ig L i):=by rw[ig_eq L i h,List.getElem?_eq_getElem h]
theorem ig_ext(F1 F2:List (Int))(hl:F1.length=F2.length)(h:∀j,j<F1.length→ig F1 j=ig F2 j):F1=F2:=by
 refine List.ext_getElem hl fun i h1 h2=>?_;have:=h i h1
 rwa [ig_eq F1 i h1,ig_eq F2 i h2]at this
theorem ig_old(L:List (Int))(x:Int)(i:Nat)(h:i<L.length):ig (L++[x]) i=ig L i:=by unfold ig;rw[List.getElem?_append_left h]
theorem ig_new(L:List (Int))(x:Int):ig (L++[x]) L.length=x:=by unfold ig;simp
def numV(r:Int):Value:=.int .i64 r
def nflat(L:List (Int)):List Value:=L.flatMap fun r=>[.int .i64 r]
theorem nflat_at(L:List (Int))(i:Nat)(hi:i<L.length):(nflat L)[i]? =some (.int .i64 (ig L i)):=by
 induction L generalizing i with
 | nil=>simp at hi
 | cons x r ih=>
  match i with
  | 0=>exact rfl
  | i+1=>
   have:=ih i (by simpa using hi);have e:nflat (x::r)=.int .i64 x::nflat r:=rfl;rw[e,show(i+1)=i+1 by omega]
   simpa[ig]using this
theorem nflat_snoc(L:List (Int))(r:Int):nflat (L++[r])=nflat L++[.int .i64 r]:=by simp[nflat]
def Nums(n₀:Nat)(w:World)(a:Option Addr)(L:List (Int)):Prop:=
 0<L.length→∃b off,a=some ⟨b,off,none⟩∧b<n₀∧∀i,i<L.length→w.cell? ⟨b,off+i,none⟩=some (.int .i64 (ig L i))
theorem Nums.below{n₀:Nat}{w w':World}{a:Option Addr}{L:List (Int)}(h:Nums n₀ w a L)(hb:Below n₀ w w'):Nums n₀ w' a L:=fun hl=>by
 obtain⟨b,off,rfl,hlt,hc⟩:=h hl;refine⟨b,off,rfl,hlt,fun i hi=>?_⟩;have c0:=hc i hi;exact(hb.cell (p:=⟨b,_,none⟩) hlt).trans c0
theorem Nums.mono{n₀ n₁:Nat}{w:World}{a:Option Addr}{L:List (Int)}(h:Nums n₀ w a L)(hn:n₀≤n₁):Nums n₁ w a L:=fun hl=>by
 obtain⟨b,off,rfl,hlt,hc⟩:=h hl;exact⟨b,off,rfl,by omega,hc⟩
theorem Nums.grow{w w':World}{a:Option Addr}{L:List (Int)}(h:Nums w.heap.size w a L)(hb:Below w.heap.size w w'):Nums w'.heap.size w' a L:=(h.below hb).mono hb.size
theorem Nums.nil{n₀:Nat}{w:World}{a:Option Addr}:Nums n₀ w a []:=fun h=>absurd h (Nat.not_lt_zero _)
theorem Nums.take{n₀:Nat}{w:World}{a:Option Addr}{L:List (Int)}(h:Nums n₀ w a L)(n:Nat):Nums n₀ w a (L.take n):=fun hl=>by
 have hl':0<L.length:=by rw[List.length_take]at hl;omega
 obtain⟨b,off,rfl,hlt,hc⟩:=h hl';refine⟨b,off,rfl,hlt,fun i hi=>?_⟩;rw[List.length_take]at hi;have e:ig (L.take n) i=ig L i:=by unfold ig;rw[List.getElem?_take,if_pos (by omega)]
 rw[e];exact hc i (by omega)
theorem num_len(L:List (Int)):(nflat L).length=L.length:=by
 induction L with
 | nil=>rfl
 | cons x r ih=>
  have e:nflat (x::r)=.int .i64 x::nflat r:=rfl;rw[e];simp only[List.length_cons,ih]
  try omega
theorem num_one(L:List (Int)):∀u∈nflat L,u.oneCell'=true:=by
 induction L with
 | nil=>intro u hu;cases hu
 | cons x r ih=>
  have e:nflat (x::r)=.int .i64 x::nflat r:=rfl;rw[e];intro u hu;simp only[List.mem_cons]at hu;rcases hu with rfl | hu
  ·rfl
  ·exact ih u hu
theorem num_cells{n₀:Nat}{w:World}{b off:Nat}{L:List (Int)}(h:Nums n₀ w (some ⟨b,off,none⟩) L):∀j u,(nflat L)[j]? =some u→w.cell? ((⟨b,off,none⟩:Addr).add j)=some u:=by
 intro j u hj
 have hlt:j<L.length:=by
  rw[←num_len];exact(List.getElem?_eq_some_iff.1 hj).1
 obtain⟨b',off',e,_,hc⟩:=h (by omega);simp only[Option.some.injEq,Addr.mk.injEq,and_true]at e;obtain⟨rfl,rfl⟩:=e;rw[Go.WideShapes.add_plain];have f0:=nflat_at L j hlt;have c0:=hc j hlt;rw[f0]at hj;rw[c0];exact hj
theorem num_of_row{w:World}{base:Nat}{v:Value}{L:List (Int)}(h:w.ownsRow base 3 1 v L.length (nflat L)):∃a cap,v=.slice a L.length cap∧L.length≤cap∧cap≤maxLen∧(a=none→cap=0)∧Nums w.heap.size w a L:=by
 rcases h.2 with ⟨rfl,h0⟩ | ⟨g,cap,cur,rfl,hb,hg,h1,h2,_⟩
 ·exact⟨none,0,by rw[h0],by omega,by unfold maxLen;omega,fun _=>rfl,fun hl=>by omega⟩
 ·refine⟨_,cap,rfl,h1,h2,(fun e=>by cases e),fun _=>⟨g,0,rfl,(Array.getElem?_eq_some_iff.1 hg).1,fun i hi=>?_⟩⟩
  have f0:=nflat_at L i hi;have c0:=h.cellAt (i) (by omega);rw[f0]at c0;rw[Nat.zero_add];exact c0
def AsksN(g:Nat)(cb:Array Value)(n₀:Nat)(w:World)(p:Int→Bool):Prop:=
 ∀(W:World) (r:Int),Below n₀ w W→Calls Tryz.prog g (#[numV r]++cb) W fun e w'=>e=.returned (.bool (p r))∧Below W.heap.size W w'
def num_first(L:List (Int))(p:Int→Bool):Int:=match (List.range L.length).find? (fun i=>p (ig L i))with
 | some i=>i
 | none=>-1
theorem num_first_hit(L:List (Int))(p:Int→Bool)(k:Nat)(hk:k<L.length)(h:p (ig L k)=true)(hn:∀j,j<k→p (ig L j)=false):num_first L p=k:=by
 unfold num_first
 have:(List.range L.length).find? (fun i=>p (ig L i))=some k:=by
  rw[List.find?_eq_some_iff_getElem];refine⟨by simpa using h,k,by simpa using hk,by simp,fun j hj=>?_⟩
  simpa using hn j hj
 rw[this]
theorem num_first_miss(L:List (Int))(p:Int→Bool)(hn:∀j,j<L.length→p (ig L j)=false):num_first L p=-1:=by
 unfold num_first
 have:(List.range L.length).find? (fun i=>p (ig L i))=none:=by
  rw[List.find?_eq_none];intro x hx
  simpa using hn x (by simpa using hx)
 rw[this]
theorem num_first_cases(L:List (Int))(p:Int→Bool):(num_first L p=-1∧∀j,j<L.length→p (ig L j)=false)∨∃k:Nat,k<L.length∧num_first L p=k∧p (ig L k)=true∧∀j,j<k→p (ig L j)=false:=by
 have main:∀n,n≤L.length→(∀j,j<n→p (ig L j)=false)∨∃k,k<n∧p (ig L k)=true∧∀j,j<k→p (ig L j)=false:=by
  intro n
  induction n with
  | zero=>exact fun _=>.inl fun j hj=>absurd hj (Nat.not_lt_zero _)
  | succ n ih=>
   intro hn;rcases ih (by omega)with h | ⟨k,hk,h1,h2⟩
   ·cases e:p (ig L n)
    ·refine .inl fun j hj=>?_
     rcases Nat.lt_or_ge j n with l | l
     ·exact h j l
     ·obtain rfl:j=n:=by omega
      exact e
    ·exact .inr ⟨n,by omega,e,h⟩
   ·exact .inr ⟨k,by omega,h1,h2⟩
 rcases main L.length (Nat.le_refl _)with h | ⟨k,hk,h1,h2⟩
 ·exact .inl ⟨num_first_miss L p h,h⟩
 ·exact .inr ⟨k,hk,num_first_hit L p k hk h1 h2,h1,h2⟩
def num_any(L:List (Int))(p:Int→Bool):Bool:=decide (0≤num_first L p)
theorem num_any_eq(L:List (Int))(p:Int→Bool):num_any L p=L.any p:=by
 unfold num_any;rw[Bool.eq_iff_iff,List.any_eq_true,decide_eq_true_eq];rcases num_first_cases L p with ⟨h,h2⟩ | ⟨k,hk,h,h1,_⟩
 ·rw[h]
  refine⟨fun h=>by omega,fun ⟨x,hx,hp⟩=>?_⟩;obtain⟨j,hj,e⟩:=List.getElem_of_mem hx;have:=h2 j hj;rw[ig_eq L j hj,e,hp]at this
  cases this
 ·rw[h]
  exact⟨fun _=>⟨_,by rw[ig_eq L k hk];exact List.getElem_mem hk,h1⟩,fun _=>by omega⟩

/-! ### Slices of api.Brick -/

def bg(L:List (BrickR))(i:Nat):BrickR:=(L[i]?).getD ⟨⟨#[]⟩,1,0⟩
theorem bg_eq(L:List (BrickR))(i:Nat)(h:i<L.length):bg L i=L[i]:=by unfold bg;rw[List.getElem?_eq_getElem h];rfl
def kflat(L:List (BrickR)):List Value:=L.flatMap fun r=>[.string r.name,.int .i64 r.weight,.int .i64 r.count]
theorem kflat_at(L:List (BrickR))(i:Nat)(hi:i<L.length):(kflat L)[i*3]? =some (.string (bg L i).name)∧(kflat L)[i*3+1]? =some (.int .i64 (bg L i).weight)∧(kflat L)[i*3+2]? =some (.int .i64 (bg L i).count):=by
 induction L generalizing i with
 | nil=>simp at hi
 | cons x r ih=>
  match i with
  | 0=>exact⟨rfl,rfl,rfl⟩
  | i+1=>
   have:=ih i (by simpa using hi);have e:kflat (x::r)=.string x.name::.int .i64 x.weight::.int .i64 x.count::kflat r:=rfl;rw[e,show(i+1)*3=i*3+1+1+1 by omega]
   simpa[bg]using this
def Bricks(n₀:Nat)(w:World)(a:Option Addr)(L:List (BrickR)):Prop:=
 0<L.length→∃b off,a=some ⟨b,off,none⟩∧b<n₀∧∀i,i<L.length→w.cell? ⟨b,off+i*3,none⟩=some (.string (bg L i).name)∧w.cell? ⟨b,off+i*3+1,none⟩=some (.int .i64 (bg L i).weight)∧w.cell? ⟨b,off+i*3+2,none⟩=some (.int .i64 (bg L i).count)
theorem Bricks.below{n₀:Nat}{w w':World}{a:Option Addr}{L:List (BrickR)}(h:Bricks n₀ w a L)(hb:Below n₀ w w'):Bricks n₀ w' a L:=fun hl=>by
 obtain⟨b,off,rfl,hlt,hc⟩:=h hl;refine⟨b,off,rfl,hlt,fun i hi=>?_⟩;obtain⟨c0,c1,c2⟩:=hc i hi;exact⟨(hb.cell (p:=⟨b,_,none⟩) hlt).trans c0,(hb.cell (p:=⟨b,_,none⟩) hlt).trans c1,(hb.cell (p:=⟨b,_,none⟩) hlt).trans c2⟩
theorem Bricks.mono{n₀ n₁:Nat}{w:World}{a:Option Addr}{L:List (BrickR)}(h:Bricks n₀ w a L)(hn:n₀≤n₁):Bricks n₁ w a L:=fun hl=>by
 obtain⟨b,off,rfl,hlt,hc⟩:=h hl;exact⟨b,off,rfl,by omega,hc⟩
theorem Bricks.grow{w w':World}{a:Option Addr}{L:List (BrickR)}(h:Bricks w.heap.size w a L)(hb:Below w.heap.size w w'):Bricks w'.heap.size w' a L:=(h.below hb).mono hb.size
theorem Bricks.nil{n₀:Nat}{w:World}{a:Option Addr}:Bricks n₀ w a []:=fun h=>absurd h (Nat.not_lt_zero _)
theorem Bricks.take{n₀:Nat}{w:World}{a:Option Addr}{L:List (BrickR)}(h:Bricks n₀ w a L)(n:Nat):Bricks n₀ w a (L.take n):=fun hl=>by
 have hl':0<L.length:=by rw[List.length_take]at hl;omega
 obtain⟨b,off,rfl,hlt,hc⟩:=h hl';refine⟨b,off,rfl,hlt,fun i hi=>?_⟩;rw[List.length_take]at hi;have e:bg (L.take n) i=bg L i:=by unfold bg;rw[List.getElem?_take,if_pos (by omega)]
 rw[e];exact hc i (by omega)
def brick_first(L:List (BrickR))(p:BrickR→Bool):Int:=match (List.range L.length).find? (fun i=>p (bg L i))with
 | some i=>i
 | none=>-1
theorem brick_first_hit(L:List (BrickR))(p:BrickR→Bool)(k:Nat)(hk:k<L.length)(h:p (bg L k)=true)(hn:∀j,j<k→p (bg L j)=false):brick_first L p=k:=by
 unfold brick_first
 have:(List.range L.length).find? (fun i=>p (bg L i))=some k:=by
  rw[List.find?_eq_some_iff_getElem];refine⟨by simpa using h,k,by simpa using hk,by simp,fun j hj=>?_⟩
  simpa using hn j hj
 rw[this]
theorem brick_first_miss(L:List (BrickR))(p:BrickR→Bool)(hn:∀j,j<L.length→p (bg L j)=false):brick_first L p=-1:=by
 unfold brick_first
 have:(List.range L.length).find? (fun i=>p (bg L i))=none:=by
  rw[List.find?_eq_none];intro x hx
  simpa using hn x (by simpa using hx)
 rw[this]
theorem brick_first_cases(L:List (BrickR))(p:BrickR→Bool):(brick_first L p=-1∧∀j,j<L.length→p (bg L j)=false)∨∃k:Nat,k<L.length∧brick_first L p=k∧p (bg L k)=true∧∀j,j<k→p (bg L j)=false:=by
 have main:∀n,n≤L.length→(∀j,j<n→p (bg L j)=false)∨∃k,k<n∧p (bg L k)=true∧∀j,j<k→p (bg L j)=false:=by
  intro n
  induction n with
  | zero=>exact fun _=>.inl fun j hj=>absurd hj (Nat.not_lt_zero _)
  | succ n ih=>
   intro hn;rcases ih (by omega)with h | ⟨k,hk,h1,h2⟩
   ·cases e:p (bg L n)
    ·refine .inl fun j hj=>?_
     rcases Nat.lt_or_ge j n with l | l
     ·exact h j l
     ·obtain rfl:j=n:=by omega
      exact e
    ·exact .inr ⟨n,by omega,e,h⟩
   ·exact .inr ⟨k,by omega,h1,h2⟩
 rcases main L.length (Nat.le_refl _)with h | ⟨k,hk,h1,h2⟩
 ·exact .inl ⟨brick_first_miss L p h,h⟩
 ·exact .inr ⟨k,hk,brick_first_hit L p k hk h1 h2,h1,h2⟩
def brick_any(L:List (BrickR))(p:BrickR→Bool):Bool:=decide (0≤brick_first L p)
theorem brick_any_eq(L:List (BrickR))(p:BrickR→Bool):brick_any L p=L.any p:=by
 unfold brick_any;rw[Bool.eq_iff_iff,List.any_eq_true,decide_eq_true_eq];rcases brick_first_cases L p with ⟨h,h2⟩ | ⟨k,hk,h,h1,_⟩
 ·rw[h]
  refine⟨fun h=>by omega,fun ⟨x,hx,hp⟩=>?_⟩;obtain⟨j,hj,e⟩:=List.getElem_of_mem hx;have:=h2 j hj;rw[bg_eq L j hj,e,hp]at this
  cases this
 ·rw[h]
  exact⟨fun _=>⟨_,by rw[bg_eq L k hk];exact List.getElem_mem hk,h1⟩,fun _=>by omega⟩
end
section
open Go.RowKit Go.Shelf
theorem num_indexFunc(a:Option Addr)(L:List (Int))(cap n₀ g:Nat)(cb:Array Value)(p:Int→Bool)(w:World)(eg:∀args w,(callFunc g args).run Tryz.prog w=.ok (.enter g args) w)
  (hl:L.length≤1100) (hn₀:n₀≤w.heap.size) (hI:Nums n₀ w a L) (hp:AsksN g cb n₀ w p):
  Calls Tryz.prog 58 #[.slice a L.length cap,.func (.func g) #[] cb] w fun e w'=>e=.returned (.int .i64 (num_first L p))∧Below w.heap.size w w':=by
 have HI:=lh hI;clear hI;have HP:=lh hp;clear hp
 go_enter Tryz.func58,Tryz.ntmps58
 go_wp2
 go_loopw [8] (fun i wr=>∃k:Nat,k≤L.length∧i=.int .i64 k∧Below w.heap.size w wr∧Hid (∀j,j<k→p (ig L j)=false)) (fun i _=>L.length-(intOf i).toNat)
 case atStart=>exact⟨0,Nat.zero_le _,rfl,br,lh (fun _ h=>absurd h (Nat.not_lt_zero _))⟩
 case round=>
  obtain⟨k,hk,rfl,hB,HA⟩:=hrel
  by_cases hlt:k<L.length
  ·obtain⟨b,off,rfl,hb,hc⟩:=HI.out (by omega)
   have c0:=hc k hlt;have d0:=(hB.cell (p:=⟨b,off+k,none⟩) (show b<w.heap.size by omega)).trans c0;clear c0 hc;have HC:=lh (show Calls Tryz.prog g (#[.int .i64 (ig L k)]++cb) wr _ from HP.out wr (ig L k) (hB.mono hn₀));obtain⟨bv,hbv⟩:=nm (p (ig L k));rw[hbv]at HC
   cases bv
   ·have HB:Hid (∀j,j<k+1→p (ig L j)=false):=lh fun j hj=>by
     rcases Nat.lt_or_ge j k with l | l
     ·exact HA.out j l
     ·obtain rfl:j=k:=by omega
      exact hbv
    clear hbv
    go_wp2_with ((with_reducible refine HC.out.mono ?_);rintro e w1 ⟨rfl,hb1⟩)
    go_roundw
    case rel=>exact⟨k+1,by omega,by go_num,hB.trans (hb1.mono hB.size),HB⟩
    case measure=>simp[intOf];omega
   ·have H:=lh (num_first_hit L p k hlt hbv HA.out)
    clear hbv
    go_wp2_with ((with_reducible refine HC.out.mono ?_);rintro e w1 ⟨rfl,hb1⟩)
    go_ret;exact⟨ret_int H.out.symm,hB.trans (hb1.mono hB.size)⟩
  ·obtain rfl:k=L.length:=by omega
   have H:=lh (num_first_miss L p HA.out)
   go_wp2
   go_ret;exact⟨ret_int H.out.symm,hB⟩

theorem num_containsFunc(a:Option Addr)(L:List (Int))(cap n₀ g:Nat)(cb:Array Value)(p:Int→Bool)(w:World)(eg:∀args w,(callFunc g args).run Tryz.prog w=.ok (.enter g args) w)
  (hl:L.length≤1100) (hn₀:n₀≤w.heap.size) (hI:Nums n₀ w a L) (hp:AsksN g cb n₀ w p):
  Calls Tryz.prog 21 #[.slice a L.length cap,.func (.func g) #[] cb] w fun e w'=>e=.returned (.bool (num_any L p))∧Below w.heap.size w w':=by
 have HC:=lh (num_indexFunc a L cap n₀ g cb p w eg hl hn₀ hI hp);clear hI hp eg
 go_enter Tryz.func21,Tryz.ntmps21
 go_wp2_with (go_at_call 58;(with_reducible refine HC.out.mono ?_);rintro e w1 ⟨rfl,hb1⟩)
 go_ret;exact⟨rfl,hb1⟩

theorem num_info:(Tryz.prog.info? 3).map (fun i=>(i.zero,i.size,i.bytes))=some (some (.int .i64 0),1,8):=by kernel_rfl

theorem num_clone(a:Option Addr)(L:List (Int))(cap:Nat)(w:World)(hlen:L.length≤1100)(hnil:a=none→cap=0)(hI:Nums w.heap.size w a L):
  Calls Tryz.prog 23 #[.slice a L.length cap] w fun e w'=>Hid (∃v,e=.returned v∧w'.ownsRow w.heap.size 3 1 v L.length (nflat L)∧Below w.heap.size w w'):=by
 obtain⟨i0,hi,hz0,hz1,hz2⟩:=info_parts num_info
 cases a with
 | none=>
  have h0:L.length=0:=by
   rcases Nat.eq_zero_or_pos L.length with h | h
   ·exact h
   ·obtain⟨b,off,e,_⟩:=hI h
    cases e
  obtain rfl:L=[]:=List.eq_nil_of_length_eq_zero h0;obtain rfl:=hnil rfl;clear hI h0 hnil;have hne:=fun (w:World)=>Lib.run_eql_slice_nil (P:=Tryz.prog) w 30 3 none 0 0 0 0 Tryz.underlying30
  go_enter Tryz.func23,Tryz.ntmps23
  go_wp2
  go_ret;exact lh ⟨_,rfl,World.ownsRow_nil _ _ _ _,br⟩
 | some ad=>
  have HI:=lh hI;clear hI;have hne:=fun (w:World)=>Lib.run_eql_slice_nil (P:=Tryz.prog) w 30 3 (some ad) L.length cap 0 0 Tryz.underlying30
  have hnews:∀j u,(nflat L)[j]? =some u→(w.alloc (.cells #[] 3)).cell? (ad.add j)=some u:=fun j u hj=>by
   have hlt:j<L.length:=by
    rw[←num_len];exact(List.getElem?_eq_some_iff.1 hj).1
   obtain⟨b,off,e,_⟩:=HI.out (by omega)
   cases e
   have h1:=num_cells HI.out j u hj;rw[Go.WideShapes.add_plain]at h1⊢;exact(World.cell?_alloc_lt _ _ _ (World.block_lt_of_cell? w _ h1)).trans h1
  have HN:=lh hnews;clear hnews
  go_enter Tryz.func23,Tryz.ntmps23
  go_wp2_with (at_builtin;refine wpList_append_own _ rfl _ _ 30 rfl w.heap.size 3 i0 (.int .i64 0) 1 8 Tryz.underlying30 hi hz0 hz1 hz2 rfl (by decide) _ 0 [] rfl (World.ownsRow_lit w #[] 0 (Nat.le_refl _) (by unfold maxLen;omega) rfl) ad L.length cap (nflat L) rfl (by rw[num_len,Nat.mul_one]) HN.out (num_one L) (by unfold maxLen;omega) (by omega) (by simp) ?_;intro v' w1 hown1 hgrow1 _)
  go_ret;rw[Nat.zero_add,List.nil_append]at hown1;exact lh ⟨_,rfl,hown1,((Below.refl _ w).alloc (Nat.le_refl _) _).grown hgrow1 (by simp) (fun k e=>by cases e;exact Nat.le_refl _)⟩

theorem num_append{ops:Array Oper}{rest:List Oper}{o:Oper}{a:Act}{w:World}{Q:Exit→Act→World→Prop}(hgd:o.guard=none)(s x:Operand)
  (ho:o.op=.call {callee:=.builtin .append,args:=#[s,x],argTypes:=#[30,30]})
  (base:Nat) (v:Value) (L:List (Int)) (hs:a.eval s=v) (hown:w.ownsRow base 3 1 v L.length (nflat L))
  (bl:Nat) (y:Int) (hx:a.eval x=.slice (some ⟨bl,0,none⟩) 1 1) (hc:w.cell? ⟨bl,0,none⟩=some (.int .i64 y)) (hl:L.length≤1000000) (hbase:base≤w.heap.size)
  (h:∀v' w',w'.ownsRow base 3 1 v' (L++[y]).length (nflat (L++[y]))→w.grownBy w' v.ownBlock→wpList Tryz.prog ops Q rest (a.put o.dst v') w'):wpList Tryz.prog ops Q (o::rest) a w:=by
 obtain⟨i0,hi,hz0,hz1,hz2⟩:=info_parts num_info;refine wpList_append_own _ hgd s x 30 ho base 3 i0 _ 1 8 Tryz.underlying30 hi hz0 hz1 hz2 rfl (by decide) v L.length (nflat L) hs hown ⟨bl,0,none⟩ 1 1 [.int .i64 y] hx rfl ?_ (by simp[Value.oneCell']) (by unfold maxLen;omega) (by omega) hbase ?_
 ·have c0:=hc
  intro j u hj;rw[Go.WideShapes.add_plain,Nat.zero_add]
  match j,hj with
  | 0,hj=>simp at hj;subst hj;exact c0
 ·intro v' w' h1 h2 _
  refine h v' w' ?_ h2;rw[nflat_snoc,List.length_append];exact h1
end
section
open Go.RowKit
def letterB(c:Int):Bool:=decide (97≤c∧c≤122∨65≤c∧c≤90)
def digitB(c:Int):Bool:=decide (48≤c∧c≤57)
def wordB(c:Int):Bool:=letterB c||digitB c||c==95
def wordN(l:List UInt8):Nat:=(l.takeWhile fun c=>wordB (c.toNat:Int)).length
def isNameB(s:ByteArray):Bool:=decide (1≤s.size∧s.size≤20)&&letterB ((s.data.toList.headD 0).toNat:Int)&&wordN s.data.toList==s.size

theorem wordN_of(l:List UInt8)(k:Nat)(hk:k≤l.length)(ha:∀j,(h:j<k)→wordB ((l[j]'(by omega)).toNat:Int)=true)
  (hb:(h:k<l.length)→wordB ((l[k]'h).toNat:Int)=false):wordN l=k:=by
 induction l generalizing k with
 | nil=>simp at hk;subst hk;rfl
 | cons x r ih=>
  unfold wordN
  match k,hk,ha,hb with
  | 0,_,_,hb=>have:=hb (by simp);simp at this;simp[this]
  | k+1,hk,ha,hb=>
   have h0:=ha 0 (by omega);simp only[List.getElem_cons_zero]at h0;rw[List.takeWhile_cons,if_pos h0,List.length_cons];have:=ih k (by simp at hk;omega) (fun j h=>by have:=ha (j+1) (by omega);simpa using this) (fun h=>by have:=hb (by simp;omega);simpa using this);unfold wordN at this;rw[this]

theorem letter_any(c:Int)(w:World):
  Calls Tryz.prog 174 #[.int .u8 c] w fun e w'=>e=.returned (.bool (letterB c))∧w=w':=by
 go_enter Tryz.func174,Tryz.ntmps174
 go_wp2
 all_goals (go_ret;exact⟨congrArg (fun b=>Ending.returned (.bool b)) (by rw[Bool.eq_iff_iff];simp[letterB];omega),rfl⟩)
theorem digit_any(c:Int)(w:World):
  Calls Tryz.prog 196 #[.int .u8 c] w fun e w'=>e=.returned (.bool (digitB c))∧w=w':=by
 go_enter Tryz.func196,Tryz.ntmps196
 go_wp2
 all_goals (go_ret;exact⟨congrArg (fun b=>Ending.returned (.bool b)) (by rw[Bool.eq_iff_iff];simp[digitB];omega),rfl⟩)
theorem word_any(s:ByteArray)(w:World)(hs:s.size≤20):
  Calls Tryz.prog 175 #[.string s] w fun e w'=>e=.returned (.int .i64 (wordN s.data.toList))∧w=w':=by
 go_enter Tryz.func175,Tryz.ntmps175
 go_wp2
 go_loop [3] (fun i=>∃k:Nat,k≤s.size∧i=.int .i64 k∧Hid (∀j,(h:j<k)→(h':j<s.data.toList.length)→wordB ((s.data.toList[j]'h').toNat:Int)=true)) (fun i=>s.size-(intOf i).toNat)
 case atStart=>exact⟨0,Nat.zero_le _,rfl,lh (fun _ h=>absurd h (Nat.not_lt_zero _))⟩
 case round=>
  obtain⟨k,hk,rfl,HA⟩:=hrel
  by_cases hlt:k<s.size
  ·have hw:∀b,wordB (s[k].toNat:Int)=b→Hid (wordB (s[k].toNat:Int)=b):=fun b h=>lh h
   have Hend:wordB (s[k].toNat:Int)=false→Hid (wordN s.data.toList=k):=fun h=>lh (wordN_of _ k (by simpa using hk) (fun j h=>HA.out j h _) (fun _=>h))
   have Hgo:wordB (s[k].toNat:Int)=true→Hid (∀j,(h:j<k+1)→(h':j<s.data.toList.length)→wordB ((s.data.toList[j]'h').toNat:Int)=true):=fun h=>lh (fun j hj h'=>by
    rcases Nat.lt_or_ge j k with l | l
    ·exact HA.out j l h'
    ·obtain rfl:j=k:=by omega
     exact h)
   clear hw
   by_cases c1:letterB (s[k].toNat:Int)=true
   ·have H:=Hgo (by simp[wordB,c1])
    clear Hend Hgo
    go_wp2_with (go_at_call 174;refine(letter_any _ _).mono ?_;rintro e w' ⟨rfl,rfl⟩)
    go_round
    case rel=>exact⟨k+1,by omega,by go_num,H⟩
    case measure=>simp[intOf];omega
   ·have c1':letterB (s[k].toNat:Int)=false:=by simpa using c1
    by_cases c2:digitB (s[k].toNat:Int)=true
    ·have H:=Hgo (by simp[wordB,c2])
     clear Hend Hgo c1
     go_wp2_with (first | (go_at_call 174;refine(letter_any _ _).mono ?_;rintro e w' ⟨rfl,rfl⟩) | (go_at_call 196;refine(digit_any _ _).mono ?_;rintro e w' ⟨rfl,rfl⟩))
     go_round
     case rel=>exact⟨k+1,by omega,by go_num,H⟩
     case measure=>simp[intOf];omega
    ·have c2':digitB (s[k].toNat:Int)=false:=by simpa using c2
     by_cases c3:((s[k].toNat:Int)==95)=true
     ·have H:=Hgo (by simp[wordB];right;simpa using c3)
      clear Hend Hgo c1 c2
      go_wp2_with (first | (go_at_call 174;refine(letter_any _ _).mono ?_;rintro e w' ⟨rfl,rfl⟩) | (go_at_call 196;refine(digit_any _ _).mono ?_;rintro e w' ⟨rfl,rfl⟩))
      go_round
      case rel=>exact⟨k+1,by omega,by go_num,H⟩
      case measure=>simp[intOf];omega
     ·have c3':((s[k].toNat:Int)==95)=false:=by simpa using c3
      have H:=Hend (by simp only[wordB,c1',c2',c3'];rfl);clear Hend Hgo c1 c2 c3
      go_wp2_with (first | (go_at_call 174;refine(letter_any _ _).mono ?_;rintro e w' ⟨rfl,rfl⟩) | (go_at_call 196;refine(digit_any _ _).mono ?_;rintro e w' ⟨rfl,rfl⟩))
      go_ret;exact⟨congrArg (fun n:Nat=>Ending.returned (.int .i64 n)) H.out.symm,rfl⟩
  ·obtain rfl:k=s.size:=by omega
   have H:Hid (wordN s.data.toList=s.size):=lh (wordN_of _ _ (by simp) (fun j h=>HA.out j h _) (fun h'=>absurd h' (by simp)))
   go_wp2
   go_ret;exact⟨congrArg (fun n:Nat=>Ending.returned (.int .i64 n)) H.out.symm,rfl⟩

theorem head_eq(s:ByteArray)(h:0<s.size):s.data.toList.headD 0=s[0]:=by
 obtain⟨⟨l⟩⟩:=s
 cases l with
 | nil=>simp[ByteArray.size]at h
 | cons x r=>rfl

theorem empty_of(s:ByteArray)(h:s.toList=[]):s.size=0:=by
 rw[ByteArray.toList_eq]at h;have:s.data.toList.length=0:=by rw[h];rfl
 simpa using this
theorem not_empty_of(s:ByteArray)(h:¬s.toList=[]):0<s.size:=by
 rw[ByteArray.toList_eq]at h;have:s.data.toList.length≠0:=fun e=>h (List.eq_nil_of_length_eq_zero e);have e:s.data.toList.length=s.size:=by simp
 omega

theorem name_yes(s:ByteArray)(h0:0<s.size)(h1:s.size≤20)(h2:letterB (s[0].toNat:Int)=true):isNameB s=(wordN s.data.toList==s.size):=by
 simp only[isNameB,head_eq s h0,h2];rw[dT (show 1≤s.size∧s.size≤20 by omega)];rfl
theorem name_no(s:ByteArray)(h0:0<s.size)(h2:letterB (s[0].toNat:Int)=false):isNameB s=false:=by
 simp only[isNameB,head_eq s h0,h2];simp
theorem name_long(s:ByteArray)(h:s.size=0∨20<s.size):isNameB s=false:=by
 unfold isNameB;rw[dF (show ¬(1≤s.size∧s.size≤20)by omega)]
 rfl

theorem isName_any(s:ByteArray)(w:World):
  Calls Tryz.prog 143 #[.string s] w fun e w'=>e=.returned (.bool (isNameB s))∧w=w':=by
 by_cases h0:s.toList=[]
 ·have H:=lh (name_long s (.inl (empty_of s h0)))
  go_enter Tryz.func143,Tryz.ntmps143
  go_wp2_with fail
  go_ret;exact⟨by rw[H.out];rfl,rfl⟩
 ·have hp:=not_empty_of s h0
  by_cases h1:(s.size:Int)≤20
  ·by_cases h2:letterB (s[0].toNat:Int)=true
   ·have H:=lh (name_yes s hp (by omega) h2)
    obtain⟨b,H3,h3⟩:∃b:Bool,Hid ((wordN s.data.toList==s.size)=b)∧(((wordN s.data.toList:Nat):Int)==(s.size:Int))=b:=by
     by_cases e:wordN s.data.toList=s.size
     ·exact⟨true,lh (beq_iff_eq.2 e),beq_iff_eq.2 (by omega)⟩
     ·exact⟨false,lh (beq_eq_false_iff_ne.2 e),beq_eq_false_iff_ne.2 (by omega)⟩
    cases b
    all_goals
     go_enter Tryz.func143,Tryz.ntmps143
     go_wp2_with (first | (go_at_call 174;refine(letter_any _ _).mono ?_;rintro e w' ⟨rfl,rfl⟩) | (go_at_call 175;refine(word_any _ _ (by omega)).mono ?_;rintro e w' ⟨rfl,rfl⟩))
     go_ret;exact⟨congrArg (fun b=>Ending.returned (.bool b)) (by first | (rw[H.out,H3.out];done) | (rw[H.out,H3.out];simpa using h0)),rfl⟩
   ·have h2':letterB (s[0].toNat:Int)=false:=by simpa using h2
    have H:=lh (name_no s hp h2');clear h2
    go_enter Tryz.func143,Tryz.ntmps143
    go_wp2_with (go_at_call 174;refine(letter_any _ _).mono ?_;rintro e w' ⟨rfl,rfl⟩)
    go_ret;exact⟨by rw[H.out];rfl,rfl⟩
  ·have H:=lh (name_long s (.inr (by omega)))
   go_enter Tryz.func143,Tryz.ntmps143
   go_wp2_with fail
   go_ret;exact⟨by rw[H.out];rfl,rfl⟩
end
section
open Go.RowKit Go.Shelf
theorem str_eq(a b:ByteArray):(a.toList==b.toList)=decide (a=b):=by
 rw[Bool.eq_iff_iff,beq_iff_eq,decide_eq_true_eq,ByteArray.toList_eq,ByteArray.toList_eq]
 constructor
 ·intro h
  obtain⟨⟨x⟩⟩:=a;obtain⟨⟨y⟩⟩:=b
  simpa using h
 ·exact fun h=>by rw[h]
def sameN(s:ByteArray)(r:BrickR):Bool:=decide (r.name=s)
def brick1(b:BrickR):Bool:=isNameB b.name&&(decide (1≤b.weight)&&(decide (b.weight≤1048576)&&(decide (0≤b.count)&&decide (b.count≤60))))
def brickK(L:List BrickR)(k:Nat):Bool:=brick1 (bg L k)&&!(brick_any (L.take k) (sameN (bg L k).name))
def okTo(L:List BrickR):Nat→Bool
 | 0=>true
 | k+1=>okTo L k&&brickK L k
def cntTo(L:List BrickR):Nat→Int
 | 0=>0
 | k+1=>cntTo L k+(bg L k).count
def brickB(L:List BrickR):Bool:=decide (L.length≤8)&&(okTo L L.length&&decide (cntTo L L.length≤60))
theorem brick1_iff(b:BrickR):brick1 b=true↔isNameB b.name=true∧1≤b.weight∧b.weight≤1048576∧0≤b.count∧b.count≤60:=by
 unfold brick1;simp only[Bool.and_eq_true,decide_eq_true_eq]
structure ItemR where
 name:ByteArray
 pos:Int
 width:Int
 weight:Int
 hang:Int
 front:Int
 back:Int
structure SetR where
 name:ByteArray
 depth:Int
 low:Int
 high:Int
 length:Int
 la:Option Addr
 lines:List Int
 lc:Nat
 pipe:Int
 arbor:Int
 purchase:Int
 most:Int
 brake:Int
 ia:Option Addr
 items:List ItemR
 ic:Nat
 ba:Option Addr
 bricks:List BrickR
 bc:Nat
def betB(n lo hi:Int):Bool:=decide (lo≤n)&&decide (n≤hi)
theorem betB_iff{n lo hi:Int}:betB n lo hi=true↔lo≤n∧n≤hi:=by unfold betB;rw[Bool.and_eq_true,decide_eq_true_eq,decide_eq_true_eq]
def aloneB(x:ItemR):Bool:=isNameB x.name&&(betB x.weight 0 1048576&&(betB x.hang 0 1048576&&(betB x.front 0 1048576&&betB x.back 0 1048576)))
def insideB(x:ItemR)(len:Int):Bool:=decide (0≤x.pos)&&(betB x.width 1 1048576&&decide (x.pos≤len-x.width))
def apartB(x y:ItemR):Bool:=decide (x.pos+x.width≤y.pos)||decide (y.pos+y.width≤x.pos)
def item1(len:Int)(x:ItemR):Bool:=aloneB x&&insideB x len
theorem apart_symm(x y:ItemR):apartB x y=apartB y x:=by unfold apartB;rw[Bool.or_comm]
def itemsB(I:List ItemR)(len:Int):Bool:=decide (I.length≤40)&&(I.all (item1 len)&&decide (I.Pairwise fun x y=>x.name≠y.name∧apartB x y=true))
def linesB(L:List Int)(len:Int):Bool:=betB L.length 2 10&&(L.all (fun n=>betB n 0 len)&&decide (L.Pairwise (·<·)))
def setB(r:SetR):Bool:=
 isNameB r.name&&(betB r.depth 0 1048576&&(decide (0≤r.low)&&(decide (r.low≤r.high)&&(decide (r.high≤1048576)&&(betB r.length 1000 1048576&&((r.length%1000==0)&&(linesB r.lines r.length&&
  (betB r.pipe 0 1048576&&(betB r.arbor 0 1048576&&(betB r.purchase 1 2&&(betB r.most 1 67108864&&(betB r.brake 0 67108864&&(itemsB r.items r.length&&brickB r.bricks)))))))))))))
structure SetOK(r:SetR):Prop where
 name:isNameB r.name=true
 depth:0≤r.depth∧r.depth≤1048576
 low:0≤r.low∧r.low≤r.high∧r.high≤1048576
 length:1000≤r.length∧r.length≤1048576∧r.length%1000=0
 lines:linesB r.lines r.length=true
 pipe:0≤r.pipe∧r.pipe≤1048576
 arbor:0≤r.arbor∧r.arbor≤1048576
 purchase:1≤r.purchase∧r.purchase≤2
 most:1≤r.most∧r.most≤67108864
 brake:0≤r.brake∧r.brake≤67108864
 items:itemsB r.items r.length=true
 bricks:brickB r.bricks=true
theorem setB_iff{r:SetR}:setB r=true↔SetOK r:=by
 unfold setB;simp only[Bool.and_eq_true,betB_iff,decide_eq_true_eq,beq_iff_eq]
 constructor
 ·rintro ⟨h1,h2,h3,h4,h5,h6,h7,h8,h9,h10,h11,h12,h13,h14,h15⟩
  exact⟨h1,h2,⟨h3,h4,h5⟩,⟨h6.1,h6.2,h7⟩,h8,h9,h10,h11,h12,h13,h14,h15⟩
 ·rintro ⟨h1,h2,⟨h3,h4,h5⟩,⟨h6,h6',h7⟩,h8,h9,h10,h11,h12,h13,h14,h15⟩
  exact⟨h1,h2,h3,h4,h5,⟨h6,h6'⟩,h7,h8,h9,h10,h11,h12,h13,h14,h15⟩
theorem item1_iff{len:Int}{x:ItemR}:item1 len x=true↔isNameB x.name=true∧(0≤x.weight∧x.weight≤1048576)∧(0≤x.hang∧x.hang≤1048576)∧(0≤x.front∧x.front≤1048576)∧(0≤x.back∧x.back≤1048576)∧0≤x.pos∧(1≤x.width∧x.width≤1048576)∧x.pos≤len-x.width:=by
 unfold item1 aloneB insideB;simp only[Bool.and_eq_true,betB_iff,decide_eq_true_eq]
 constructor
 ·rintro ⟨⟨a,b,c,d,e⟩,f,g,h⟩;exact⟨a,b,c,d,e,f,g,h⟩
 ·rintro ⟨a,b,c,d,e,f,g,h⟩;exact⟨⟨a,b,c,d,e⟩,f,g,h⟩
theorem items_iff{I:List ItemR}{len:Int}:itemsB I len=true↔I.length≤40∧(∀x∈I,item1 len x=true)∧I.Pairwise fun x y=>x.name≠y.name∧apartB x y=true:=by
 unfold itemsB;simp only[Bool.and_eq_true,decide_eq_true_eq,List.all_eq_true]
abbrev LSe(r:SetR):Obj:=.cells #[.string r.name,.int .i64 r.depth,.int .i64 r.low,.int .i64 r.high,.int .i64 r.length,.slice r.la r.lines.length r.lc,.int .i64 r.pipe,.int .i64 r.arbor,.int .i64 r.purchase,.int .i64 r.most,.int .i64 r.brake,.slice r.ia r.items.length r.ic,.slice r.ba r.bricks.length r.bc] 59
end
section
open Go.RowKit Go.Shelf
attribute [local go_sem] Oper.semAt_some
/-! ### Slices of api.Item -/

def tg(L:List (ItemR))(i:Nat):ItemR:=(L[i]?).getD ⟨⟨#[]⟩,0,0,0,0,0,0⟩
theorem tg_eq(L:List (ItemR))(i:Nat)(h:i<L.length):tg L i=L[i]:=by unfold tg;rw[List.getElem?_eq_getElem h];rfl
def itemV(r:ItemR):Value:=.agg #[.string r.name,.int .i64 r.pos,.int .i64 r.width,.int .i64 r.weight,.int .i64 r.hang,.int .i64 r.front,.int .i64 r.back]
def tflat(L:List (ItemR)):List Value:=L.flatMap fun r=>[.string r.name,.int .i64 r.pos,.int .i64 r.width,.int .i64 r.weight,.int .i64 r.hang,.int .i64 r.front,.int .i64 r.back]
theorem tflat_at(L:List (ItemR))(i:Nat)(hi:i<L.length):(tflat L)[i*7]? =some (.string (tg L i).name)∧(tflat L)[i*7+1]? =some (.int .i64 (tg L i).pos)∧(tflat L)[i*7+2]? =some (.int .i64 (tg L i).width)∧(tflat L)[i*7+3]? =some (.int .i64 (tg L i).weight)∧(tflat L)[i*7+4]? =some (.int .i64 (tg L i).hang)∧(tflat L)[i*7+5]? =some (.int .i64 (tg L i).front)∧(tflat L)[i*7+6]? =some (.int .i64 (tg L i).back):=by
 induction L generalizing i with
 | nil=>simp at hi
 | cons x r ih=>
  match i with
  | 0=>exact⟨rfl,rfl,rfl,rfl,rfl,rfl,rfl⟩
  | i+1=>
   have:=ih i (by simpa using hi);have e:tflat (x::r)=.string x.name::.int .i64 x.pos::.int .i64 x.width::.int .i64 x.weight::.int .i64 x.hang::.int .i64 x.front::.int .i64 x.back::tflat r:=rfl;rw[e,show(i+1)*7=i*7+1+1+1+1+1+1+1 by omega]
   simpa[tg]using this
def Items(n₀:Nat)(w:World)(a:Option Addr)(L:List (ItemR)):Prop:=
 0<L.length→∃b off,a=some ⟨b,off,none⟩∧b<n₀∧∀i,i<L.length→w.cell? ⟨b,off+i*7,none⟩=some (.string (tg L i).name)∧w.cell? ⟨b,off+i*7+1,none⟩=some (.int .i64 (tg L i).pos)∧w.cell? ⟨b,off+i*7+2,none⟩=some (.int .i64 (tg L i).width)∧w.cell? ⟨b,off+i*7+3,none⟩=some (.int .i64 (tg L i).weight)∧w.cell? ⟨b,off+i*7+4,none⟩=some (.int .i64 (tg L i).hang)∧w.cell? ⟨b,off+i*7+5,none⟩=some (.int .i64 (tg L i).front)∧w.cell? ⟨b,off+i*7+6,none⟩=some (.int .i64 (tg L i).back)
theorem Items.below{n₀:Nat}{w w':World}{a:Option Addr}{L:List (ItemR)}(h:Items n₀ w a L)(hb:Below n₀ w w'):Items n₀ w' a L:=fun hl=>by
 obtain⟨b,off,rfl,hlt,hc⟩:=h hl;refine⟨b,off,rfl,hlt,fun i hi=>?_⟩;obtain⟨c0,c1,c2,c3,c4,c5,c6⟩:=hc i hi;exact⟨(hb.cell (p:=⟨b,_,none⟩) hlt).trans c0,(hb.cell (p:=⟨b,_,none⟩) hlt).trans c1,(hb.cell (p:=⟨b,_,none⟩) hlt).trans c2,(hb.cell (p:=⟨b,_,none⟩) hlt).trans c3,(hb.cell (p:=⟨b,_,none⟩) hlt).trans c4,(hb.cell (p:=⟨b,_,none⟩) hlt).trans c5,(hb.cell (p:=⟨b,_,none⟩) hlt).trans c6⟩
theorem Items.mono{n₀ n₁:Nat}{w:World}{a:Option Addr}{L:List (ItemR)}(h:Items n₀ w a L)(hn:n₀≤n₁):Items n₁ w a L:=fun hl=>by
 obtain⟨b,off,rfl,hlt,hc⟩:=h hl;exact⟨b,off,rfl,by omega,hc⟩
theorem Items.grow{w w':World}{a:Option Addr}{L:List (ItemR)}(h:Items w.heap.size w a L)(hb:Below w.heap.size w w'):Items w'.heap.size w' a L:=(h.below hb).mono hb.size
theorem Items.nil{n₀:Nat}{w:World}{a:Option Addr}:Items n₀ w a []:=fun h=>absurd h (Nat.not_lt_zero _)
theorem Items.take{n₀:Nat}{w:World}{a:Option Addr}{L:List (ItemR)}(h:Items n₀ w a L)(n:Nat):Items n₀ w a (L.take n):=fun hl=>by
 have hl':0<L.length:=by rw[List.length_take]at hl;omega
 obtain⟨b,off,rfl,hlt,hc⟩:=h hl';refine⟨b,off,rfl,hlt,fun i hi=>?_⟩;rw[List.length_take]at hi;have e:tg (L.take n) i=tg L i:=by unfold tg;rw[List.getElem?_take,if_pos (by omega)]
 rw[e];exact hc i (by omega)
def AsksI(g:Nat)(cb:Array Value)(n₀:Nat)(w:World)(p:ItemR→Bool):Prop:=
 ∀(W:World) (r:ItemR),Below n₀ w W→Calls Tryz.prog g (#[itemV r]++cb) W fun e w'=>e=.returned (.bool (p r))∧Below W.heap.size W w'
def item_first(L:List (ItemR))(p:ItemR→Bool):Int:=match (List.range L.length).find? (fun i=>p (tg L i))with
 | some i=>i
 | none=>-1
theorem item_first_hit(L:List (ItemR))(p:ItemR→Bool)(k:Nat)(hk:k<L.length)(h:p (tg L k)=true)(hn:∀j,j<k→p (tg L j)=false):item_first L p=k:=by
 unfold item_first
 have:(List.range L.length).find? (fun i=>p (tg L i))=some k:=by
  rw[List.find?_eq_some_iff_getElem];refine⟨by simpa using h,k,by simpa using hk,by simp,fun j hj=>?_⟩
  simpa using hn j hj
 rw[this]
theorem item_first_miss(L:List (ItemR))(p:ItemR→Bool)(hn:∀j,j<L.length→p (tg L j)=false):item_first L p=-1:=by
 unfold item_first
 have:(List.range L.length).find? (fun i=>p (tg L i))=none:=by
  rw[List.find?_eq_none];intro x hx
  simpa using hn x (by simpa using hx)
 rw[this]
theorem item_first_cases(L:List (ItemR))(p:ItemR→Bool):(item_first L p=-1∧∀j,j<L.length→p (tg L j)=false)∨∃k:Nat,k<L.length∧item_first L p=k∧p (tg L k)=true∧∀j,j<k→p (tg L j)=false:=by
 have main:∀n,n≤L.length→(∀j,j<n→p (tg L j)=false)∨∃k,k<n∧p (tg L k)=true∧∀j,j<k→p (tg L j)=false:=by
  intro n
  induction n with
  | zero=>exact fun _=>.inl fun j hj=>absurd hj (Nat.not_lt_zero _)
  | succ n ih=>
   intro hn;rcases ih (by omega)with h | ⟨k,hk,h1,h2⟩
   ·cases e:p (tg L n)
    ·refine .inl fun j hj=>?_
     rcases Nat.lt_or_ge j n with l | l
     ·exact h j l
     ·obtain rfl:j=n:=by omega
      exact e
    ·exact .inr ⟨n,by omega,e,h⟩
   ·exact .inr ⟨k,by omega,h1,h2⟩
 rcases main L.length (Nat.le_refl _)with h | ⟨k,hk,h1,h2⟩
 ·exact .inl ⟨item_first_miss L p h,h⟩
 ·exact .inr ⟨k,hk,item_first_hit L p k hk h1 h2,h1,h2⟩
def item_any(L:List (ItemR))(p:ItemR→Bool):Bool:=decide (0≤item_first L p)
theorem item_any_eq(L:List (ItemR))(p:ItemR→Bool):item_any L p=L.any p:=by
 unfold item_any;rw[Bool.eq_iff_iff,List.any_eq_true,decide_eq_true_eq];rcases item_first_cases L p with ⟨h,h2⟩ | ⟨k,hk,h,h1,_⟩
 ·rw[h]
  refine⟨fun h=>by omega,fun ⟨x,hx,hp⟩=>?_⟩;obtain⟨j,hj,e⟩:=List.getElem_of_mem hx;have:=h2 j hj;rw[tg_eq L j hj,e,hp]at this
  cases this
 ·rw[h]
  exact⟨fun _=>⟨_,by rw[tg_eq L k hk];exact List.getElem_mem hk,h1⟩,fun _=>by omega⟩

theorem item_indexFunc(a:Option Addr)(L:List (ItemR))(cap n₀ g:Nat)(cb:Array Value)(p:ItemR→Bool)(w:World)(eg:∀args w,(callFunc g args).run Tryz.prog w=.ok (.enter g args) w)
  (hl:L.length≤1100) (hn₀:n₀≤w.heap.size) (hI:Items n₀ w a L) (hp:AsksI g cb n₀ w p):
  Calls Tryz.prog 211 #[.slice a L.length cap,.func (.func g) #[] cb] w fun e w'=>e=.returned (.int .i64 (item_first L p))∧Below w.heap.size w w':=by
 have HI:=lh hI;clear hI;have HP:=lh hp;clear hp
 go_enter Tryz.func211,Tryz.ntmps211
 go_wp2
 go_loopw [8] (fun i wr=>∃k:Nat,k≤L.length∧i=.int .i64 k∧Below w.heap.size w wr∧Hid (∀j,j<k→p (tg L j)=false)) (fun i _=>L.length-(intOf i).toNat)
 case atStart=>exact⟨0,Nat.zero_le _,rfl,br,lh (fun _ h=>absurd h (Nat.not_lt_zero _))⟩
 case round=>
  obtain⟨k,hk,rfl,hB,HA⟩:=hrel
  by_cases hlt:k<L.length
  ·obtain⟨b,off,rfl,hb,hc⟩:=HI.out (by omega)
   obtain⟨c0,c1,c2,c3,c4,c5,c6⟩:=hc k hlt;have d0:=(hB.cell (p:=⟨b,off+k*7,none⟩) (show b<w.heap.size by omega)).trans c0;have d1:=(hB.cell (p:=⟨b,off+k*7+1,none⟩) (show b<w.heap.size by omega)).trans c1;have d2:=(hB.cell (p:=⟨b,off+k*7+2,none⟩) (show b<w.heap.size by omega)).trans c2;have d3:=(hB.cell (p:=⟨b,off+k*7+3,none⟩) (show b<w.heap.size by omega)).trans c3;have d4:=(hB.cell (p:=⟨b,off+k*7+4,none⟩) (show b<w.heap.size by omega)).trans c4;have d5:=(hB.cell (p:=⟨b,off+k*7+5,none⟩) (show b<w.heap.size by omega)).trans c5;have d6:=(hB.cell (p:=⟨b,off+k*7+6,none⟩) (show b<w.heap.size by omega)).trans c6;clear c0 c1 c2 c3 c4 c5 c6 hc;have HC:=lh (show Calls Tryz.prog g (#[.agg #[.string (tg L k).name,.int .i64 (tg L k).pos,.int .i64 (tg L k).width,.int .i64 (tg L k).weight,.int .i64 (tg L k).hang,.int .i64 (tg L k).front,.int .i64 (tg L k).back]]++cb) wr _ from HP.out wr (tg L k) (hB.mono hn₀));obtain⟨bv,hbv⟩:=nm (p (tg L k));rw[hbv]at HC
   cases bv
   ·have HB:Hid (∀j,j<k+1→p (tg L j)=false):=lh fun j hj=>by
     rcases Nat.lt_or_ge j k with l | l
     ·exact HA.out j l
     ·obtain rfl:j=k:=by omega
      exact hbv
    clear hbv
    go_wp2_with ((with_reducible refine HC.out.mono ?_);rintro e w1 ⟨rfl,hb1⟩)
    go_roundw
    case rel=>exact⟨k+1,by omega,by go_num,hB.trans (hb1.mono hB.size),HB⟩
    case measure=>simp[intOf];omega
   ·have H:=lh (item_first_hit L p k hlt hbv HA.out)
    clear hbv
    go_wp2_with ((with_reducible refine HC.out.mono ?_);rintro e w1 ⟨rfl,hb1⟩)
    go_ret;exact⟨ret_int H.out.symm,hB.trans (hb1.mono hB.size)⟩
  ·obtain rfl:k=L.length:=by omega
   have H:=lh (item_first_miss L p HA.out)
   go_wp2
   go_ret;exact⟨ret_int H.out.symm,hB⟩

theorem item_containsFunc(a:Option Addr)(L:List (ItemR))(cap n₀ g:Nat)(cb:Array Value)(p:ItemR→Bool)(w:World)(eg:∀args w,(callFunc g args).run Tryz.prog w=.ok (.enter g args) w)
  (hl:L.length≤1100) (hn₀:n₀≤w.heap.size) (hI:Items n₀ w a L) (hp:AsksI g cb n₀ w p):
  Calls Tryz.prog 202 #[.slice a L.length cap,.func (.func g) #[] cb] w fun e w'=>e=.returned (.bool (item_any L p))∧Below w.heap.size w w':=by
 have HC:=lh (item_indexFunc a L cap n₀ g cb p w eg hl hn₀ hI hp);clear hI hp eg
 go_enter Tryz.func202,Tryz.ntmps202
 go_wp2_with (go_at_call 211;(with_reducible refine HC.out.mono ?_);rintro e w1 ⟨rfl,hb1⟩)
 go_ret;exact⟨rfl,hb1⟩
end
end Go.Proofs.YtebofaenlhhkaaaGreat
