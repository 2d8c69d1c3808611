import Derived.Maps.AppendAt
import Derived.Deep.AppendLies
import Derived.Deep.RegionLaw
import Derived.Deep.RegionLawGrows
import Derived.IntWalk
import Derived.Test.YtebofaenlhhkaaaGreatY1
namespace Go.Proofs.YtebofaenlhhkaaaGreat
set_option maxRecDepth 100000
set_option maxHeartbeats 80000000
section
open Go.RowKit Go.Shelf
attribute [local go_sem] Oper.semAt_some
theorem Cu{k:IntKind}{a b:Int}(h:a=b):Ending.returned (.int k a)=.returned (.int k b):=by rw[h]
theorem Ab{a b:Bool}(h:a=b):Ending.returned (.bool a)=.returned (.bool b):=by rw[h]
theorem Dh{w w':World}(o:Obj)(h:Below (w.alloc o).heap.size (w.alloc o) w'):Below w.heap.size w w':=((br).alloc nr o).trans (h.mono (by simp))
theorem Ws{w:World}{base n cap size:Nat}{e:TypeId}{a:Option Addr}{xs:List Value}(h:w.ownsRow base e size (.slice a n cap) n xs)(hn:0<n):∃g,a=some ⟨g,0,none⟩∧base≤g∧g<w.heap.size:=by
 rcases h.2 with ⟨e,h0⟩ | ⟨g,cap',cur,e,hb,hg,_⟩
 ·omega
 ·cases e;exact⟨g,rfl,hb,(Array.getElem?_eq_some_iff.1 hg).1⟩

/-! ### Slices of api.Piece3 -/
structure Pc where
 f0:Int
 f1:Int
 a0:Int
 a1:Int
 b0:Int
 b1:Int
 c0:Int
 c1:Int
def Al(L:List (Pc))(i:Nat):Pc:=(L[i]?).getD ⟨0,1,0,1,0,1,0,1⟩
def Ce(L:List (Pc)):List Value:=L.flatMap fun r=>[.int .i64 r.f0,.int .i64 r.f1,.int .i64 r.a0,.int .i64 r.a1,.int .i64 r.b0,.int .i64 r.b1,.int .i64 r.c0,.int .i64 r.c1]
theorem AJy(L:List (Pc))(i:Nat)(hi:i<L.length):(Ce L)[i*8]? =some (.int .i64 (Al L i).f0)∧(Ce L)[i*8+1]? =some (.int .i64 (Al L i).f1)∧(Ce L)[i*8+2]? =some (.int .i64 (Al L i).a0)∧(Ce L)[i*8+3]? =some (.int .i64 (Al L i).a1)∧(Ce L)[i*8+4]? =some (.int .i64 (Al L i).b0)∧(Ce L)[i*8+5]? =some (.int .i64 (Al L i).b1)∧(Ce L)[i*8+6]? =some (.int .i64 (Al L i).c0)∧(Ce L)[i*8+7]? =some (.int .i64 (Al L i).c1):=by
 induction L generalizing i with
 | nil=>simp at hi
 | cons x r ih=>
  match i with
  | 0=>exact⟨rfl,rfl,rfl,rfl,rfl,rfl,rfl,rfl⟩
  | i+1=>
   have:=ih i (by simpa using hi);have e:Ce (x::r)=.int .i64 x.f0::.int .i64 x.f1::.int .i64 x.a0::.int .i64 x.a1::.int .i64 x.b0::.int .i64 x.b1::.int .i64 x.c0::.int .i64 x.c1::Ce r:=rfl;rw[e,show(i+1)*8=i*8+1+1+1+1+1+1+1+1 by omega]
   simpa[Al]using this
theorem ADz(L:List (Pc))(r:Pc):Ce (L++[r])=Ce L++[.int .i64 r.f0,.int .i64 r.f1,.int .i64 r.a0,.int .i64 r.a1,.int .i64 r.b0,.int .i64 r.b1,.int .i64 r.c0,.int .i64 r.c1]:=by simp[Ce]
def Yi(n₀:Nat)(w:World)(a:Option Addr)(L:List (Pc)):Prop:=
 0<L.length→∃b off,a=some ⟨b,off,none⟩∧b<n₀∧∀i,i<L.length→w.cell? ⟨b,off+i*8,none⟩=some (.int .i64 (Al L i).f0)∧w.cell? ⟨b,off+i*8+1,none⟩=some (.int .i64 (Al L i).f1)∧w.cell? ⟨b,off+i*8+2,none⟩=some (.int .i64 (Al L i).a0)∧w.cell? ⟨b,off+i*8+3,none⟩=some (.int .i64 (Al L i).a1)∧w.cell? ⟨b,off+i*8+4,none⟩=some (.int .i64 (Al L i).b0)∧w.cell? ⟨b,off+i*8+5,none⟩=some (.int .i64 (Al L i).b1)∧w.cell? ⟨b,off+i*8+6,none⟩=some (.int .i64 (Al L i).c0)∧w.cell? ⟨b,off+i*8+7,none⟩=some (.int .i64 (Al L i).c1)
theorem Yi.below{n₀:Nat}{w w':World}{a:Option Addr}{L:List (Pc)}(h:Yi n₀ w a L)(hb:Below n₀ w w'):Yi n₀ w' a L:=fun hl=>by
 obtain⟨b,off,rfl,hlt,hc⟩:=h hl;refine⟨b,off,rfl,hlt,fun i hi=>?_⟩;obtain⟨c0,c1,c2,c3,c4,c5,c6,c7⟩:=hc i hi;exact⟨ct hb c0 hlt,ct hb c1 hlt,ct hb c2 hlt,ct hb c3 hlt,ct hb c4 hlt,ct hb c5 hlt,ct hb c6 hlt,ct hb c7 hlt⟩
theorem Yi.mono{n₀ n₁:Nat}{w:World}{a:Option Addr}{L:List (Pc)}(h:Yi n₀ w a L)(hn:n₀≤n₁):Yi n₁ w a L:=fun hl=>by
 obtain⟨b,off,rfl,hlt,hc⟩:=h hl;exact⟨b,off,rfl,by omega,hc⟩
theorem Yi.grow{w w':World}{a:Option Addr}{L:List (Pc)}(h:Yi w.heap.size w a L)(hb:Below w.heap.size w w'):Yi w'.heap.size w' a L:=(h.below hb).mono hb.size
theorem Yi.nil{n₀:Nat}{w:World}{a:Option Addr}:Yi n₀ w a []:=fun h=>absurd h (Nat.not_lt_zero _)
theorem Yi.take{n₀:Nat}{w:World}{a:Option Addr}{L:List (Pc)}(h:Yi n₀ w a L)(n:Nat):Yi n₀ w a (L.take n):=fun hl=>by
 have hl':0<L.length:=by rw[List.length_take]at hl;omega
 obtain⟨b,off,rfl,hlt,hc⟩:=h hl';refine⟨b,off,rfl,hlt,fun i hi=>?_⟩;rw[List.length_take]at hi;have e:Al (L.take n) i=Al L i:=by unfold Al;rw[List.getElem?_take,if_pos (by omega)]
 rw[e];exact hc i (by omega)
theorem Ia{w:World}{base:Nat}{v:Value}{L:List (Pc)}(h:w.ownsRow base 122 8 v L.length (Ce L)):∃a cap,v=.slice a L.length cap∧L.length≤cap∧cap≤maxLen∧(a=none→cap=0)∧Yi w.heap.size w a L:=by
 rcases h.2 with ⟨rfl,h0⟩ | ⟨g,cap,cur,rfl,hb,hg,h1,h2,_⟩
 ·exact⟨none,0,by rw[h0],by omega,by unfold maxLen;omega,fun _=>rfl,fun hl=>by omega⟩
 ·refine⟨_,cap,rfl,h1,h2,(fun e=>by cases e),fun _=>⟨g,0,rfl,(Array.getElem?_eq_some_iff.1 hg).1,fun i hi=>?_⟩⟩
  obtain⟨f0,f1,f2,f3,f4,f5,f6,f7⟩:=AJy L i hi;have c0:=h.cellAt (i*8) (by omega);have c1:=h.cellAt (i*8+1) (by omega);have c2:=h.cellAt (i*8+2) (by omega);have c3:=h.cellAt (i*8+3) (by omega);have c4:=h.cellAt (i*8+4) (by omega);have c5:=h.cellAt (i*8+5) (by omega);have c6:=h.cellAt (i*8+6) (by omega);have c7:=h.cellAt (i*8+7) (by omega);rw[f0]at c0;rw[f1]at c1;rw[f2]at c2;rw[f3]at c3;rw[f4]at c4;rw[f5]at c5;rw[f6]at c6;rw[f7]at c7;rw[Nat.zero_add];exact⟨c0,c1,c2,c3,c4,c5,c6,c7⟩
/-! ### Slices of api.Frac -/

def Ks(L:List (Int×Int))(i:Nat):Int×Int:=(L[i]?).getD (0,1)
theorem AMp(L:List (Int×Int))(i:Nat)(h:i<L.length):Ks L i=L[i]:=by unfold Ks;rw[List.getElem?_eq_getElem h];rfl
theorem ARq(F1 F2:List (Int×Int))(hl:F1.length=F2.length)(h:∀j,j<F1.length→Ks F1 j=Ks F2 j):F1=F2:=by
 refine List.ext_getElem hl fun i h1 h2=>?_;have:=h i h1
 rwa [AMp F1 i h1,AMp F2 i h2]at this
theorem ARi(L:List (Int×Int))(x:Int×Int)(i:Nat)(h:i<L.length):Ks (L++[x]) i=Ks L i:=by unfold Ks;rw[List.getElem?_append_left h]
theorem AQz(L:List (Int×Int))(x:Int×Int):Ks (L++[x]) L.length=x:=by unfold Ks;simp
def Ek(L:List (Int×Int)):List Value:=L.flatMap fun r=>[.int .i64 r.1,.int .i64 r.2]
theorem AKa(L:List (Int×Int))(i:Nat)(hi:i<L.length):(Ek L)[i*2]? =some (.int .i64 (Ks L i).1)∧(Ek L)[i*2+1]? =some (.int .i64 (Ks L i).2):=by
 induction L generalizing i with
 | nil=>simp at hi
 | cons x r ih=>
  match i with
  | 0=>exact⟨rfl,rfl⟩
  | i+1=>
   have:=ih i (by simpa using hi);have e:Ek (x::r)=.int .i64 x.1::.int .i64 x.2::Ek r:=rfl;rw[e,show(i+1)*2=i*2+1+1 by omega]
   simpa[Ks]using this
theorem ADu(L:List (Int×Int))(r:Int×Int):Ek (L++[r])=Ek L++[.int .i64 r.1,.int .i64 r.2]:=by simp[Ek]
def Yj(n₀:Nat)(w:World)(a:Option Addr)(L:List (Int×Int)):Prop:=
 0<L.length→∃b off,a=some ⟨b,off,none⟩∧b<n₀∧∀i,i<L.length→w.cell? ⟨b,off+i*2,none⟩=some (.int .i64 (Ks L i).1)∧w.cell? ⟨b,off+i*2+1,none⟩=some (.int .i64 (Ks L i).2)
theorem Yj.below{n₀:Nat}{w w':World}{a:Option Addr}{L:List (Int×Int)}(h:Yj n₀ w a L)(hb:Below n₀ w w'):Yj n₀ w' a L:=fun hl=>by
 obtain⟨b,off,rfl,hlt,hc⟩:=h hl;refine⟨b,off,rfl,hlt,fun i hi=>?_⟩;obtain⟨c0,c1⟩:=hc i hi;exact⟨ct hb c0 hlt,ct hb c1 hlt⟩
theorem Yj.mono{n₀ n₁:Nat}{w:World}{a:Option Addr}{L:List (Int×Int)}(h:Yj n₀ w a L)(hn:n₀≤n₁):Yj n₁ w a L:=fun hl=>by
 obtain⟨b,off,rfl,hlt,hc⟩:=h hl;exact⟨b,off,rfl,by omega,hc⟩
theorem Yj.grow{w w':World}{a:Option Addr}{L:List (Int×Int)}(h:Yj w.heap.size w a L)(hb:Below w.heap.size w w'):Yj w'.heap.size w' a L:=(h.below hb).mono hb.size
theorem Yj.nil{n₀:Nat}{w:World}{a:Option Addr}:Yj n₀ w a []:=fun h=>absurd h (Nat.not_lt_zero _)
theorem Yj.take{n₀:Nat}{w:World}{a:Option Addr}{L:List (Int×Int)}(h:Yj n₀ w a L)(n:Nat):Yj n₀ w a (L.take n):=fun hl=>by
 have hl':0<L.length:=by rw[List.length_take]at hl;omega
 obtain⟨b,off,rfl,hlt,hc⟩:=h hl';refine⟨b,off,rfl,hlt,fun i hi=>?_⟩;rw[List.length_take]at hi;have e:Ks (L.take n) i=Ks L i:=by unfold Ks;rw[List.getElem?_take,if_pos (by omega)]
 rw[e];exact hc i (by omega)
theorem AUs(L:List (Int×Int)):(Ek L).length=L.length*2:=by
 induction L with
 | nil=>rfl
 | cons x r ih=>
  have e:Ek (x::r)=.int .i64 x.1::.int .i64 x.2::Ek r:=rfl;rw[e];simp only[List.length_cons,ih]
  try omega
theorem Tj{w:World}{base:Nat}{v:Value}{L:List (Int×Int)}(h:w.ownsRow base 49 2 v L.length (Ek L)):∃a cap,v=.slice a L.length cap∧L.length≤cap∧cap≤maxLen∧(a=none→cap=0)∧Yj w.heap.size w a L:=by
 rcases h.2 with ⟨rfl,h0⟩ | ⟨g,cap,cur,rfl,hb,hg,h1,h2,_⟩
 ·exact⟨none,0,by rw[h0],by omega,by unfold maxLen;omega,fun _=>rfl,fun hl=>by omega⟩
 ·refine⟨_,cap,rfl,h1,h2,(fun e=>by cases e),fun _=>⟨g,0,rfl,(Array.getElem?_eq_some_iff.1 hg).1,fun i hi=>?_⟩⟩
  obtain⟨f0,f1⟩:=AKa L i hi;have c0:=h.cellAt (i*2) (by omega);have c1:=h.cellAt (i*2+1) (by omega);rw[f0]at c0;rw[f1]at c1;rw[Nat.zero_add];exact⟨c0,c1⟩
/-! ### Slices of int -/

def ig(L:List (Int))(i:Nat):Int:=(L[i]?).getD 0
theorem Ie(L:List (Int))(i:Nat)(h:i<L.length):ig L i=L[i]:=by unfold ig;rw[List.getElem?_eq_getElem h];rfl
theorem AMi{L:List (Int)}{i:Nat}(h:i<L.length):L[i]? =some (ig L i):=by rw[Ie L i h,List.getElem?_eq_getElem h]
theorem AFl(F1 F2:List (Int))(hl:F1.length=F2.length)(h:∀j,j<F1.length→ig F1 j=ig F2 j):F1=F2:=by
 refine List.ext_getElem hl fun i h1 h2=>?_;have:=h i h1
 rwa [Ie F1 i h1,Ie F2 i h2]at this
theorem AUj(L:List (Int))(x:Int)(i:Nat)(h:i<L.length):ig (L++[x]) i=ig L i:=by unfold ig;rw[List.getElem?_append_left h]
theorem AUr(L:List (Int))(x:Int):ig (L++[x]) L.length=x:=by unfold ig;simp
def ATh(r:Int):Value:=.int .i64 r
def Ap(L:List (Int)):List Value:=L.flatMap fun r=>[.int .i64 r]
theorem Eb(L:List (Int))(i:Nat)(hi:i<L.length):(Ap L)[i]? =some (.int .i64 (ig L i)):=by
 induction L generalizing i with
 | nil=>simp at hi
 | cons x r ih=>
  match i with
  | 0=>exact rfl
  | i+1=>
   have:=ih i (by simpa using hi);have e:Ap (x::r)=.int .i64 x::Ap r:=rfl;rw[e,show(i+1)=i+1 by omega]
   simpa[ig]using this
theorem Ww(L:List (Int))(r:Int):Ap (L++[r])=Ap L++[.int .i64 r]:=by simp[Ap]
def Bl(n₀:Nat)(w:World)(a:Option Addr)(L:List (Int)):Prop:=
 0<L.length→∃b off,a=some ⟨b,off,none⟩∧b<n₀∧∀i,i<L.length→w.cell? ⟨b,off+i,none⟩=some (.int .i64 (ig L i))
theorem Bl.below{n₀:Nat}{w w':World}{a:Option Addr}{L:List (Int)}(h:Bl n₀ w a L)(hb:Below n₀ w w'):Bl n₀ w' a L:=fun hl=>by
 obtain⟨b,off,rfl,hlt,hc⟩:=h hl;refine⟨b,off,rfl,hlt,fun i hi=>?_⟩;have c0:=hc i hi;exact(ct hb c0 hlt)
theorem Bl.mono{n₀ n₁:Nat}{w:World}{a:Option Addr}{L:List (Int)}(h:Bl n₀ w a L)(hn:n₀≤n₁):Bl n₁ w a L:=fun hl=>by
 obtain⟨b,off,rfl,hlt,hc⟩:=h hl;exact⟨b,off,rfl,by omega,hc⟩
theorem Bl.grow{w w':World}{a:Option Addr}{L:List (Int)}(h:Bl w.heap.size w a L)(hb:Below w.heap.size w w'):Bl w'.heap.size w' a L:=(h.below hb).mono hb.size
theorem Bl.nil{n₀:Nat}{w:World}{a:Option Addr}:Bl n₀ w a []:=fun h=>absurd h (Nat.not_lt_zero _)
theorem Bl.take{n₀:Nat}{w:World}{a:Option Addr}{L:List (Int)}(h:Bl n₀ w a L)(n:Nat):Bl n₀ w a (L.take n):=fun hl=>by
 have hl':0<L.length:=by rw[List.length_take]at hl;omega
 obtain⟨b,off,rfl,hlt,hc⟩:=h hl';refine⟨b,off,rfl,hlt,fun i hi=>?_⟩;rw[List.length_take]at hi;have e:ig (L.take n) i=ig L i:=by unfold ig;rw[List.getElem?_take,if_pos (by omega)]
 rw[e];exact hc i (by omega)
theorem Pz(L:List (Int)):(Ap L).length=L.length:=by
 induction L with
 | nil=>rfl
 | cons x r ih=>
  have e:Ap (x::r)=.int .i64 x::Ap r:=rfl;rw[e];simp only[List.length_cons,ih]
  try omega
theorem AIy(L:List (Int)):∀u∈Ap L,u.oneCell'=true:=by
 induction L with
 | nil=>intro u hu;cases hu
 | cons x r ih=>
  have e:Ap (x::r)=.int .i64 x::Ap r:=rfl;rw[e];intro u hu;simp only[List.mem_cons]at hu;rcases hu with rfl | hu
  ·rfl
  ·exact ih u hu
theorem AAi{n₀:Nat}{w:World}{b off:Nat}{L:List (Int)}(h:Bl n₀ w (some ⟨b,off,none⟩) L):∀j u,(Ap L)[j]? =some u→w.cell? ((⟨b,off,none⟩:Addr).add j)=some u:=by
 intro j u hj
 have hlt:j<L.length:=by
  rw[←Pz];exact(List.getElem?_eq_some_iff.1 hj).1
 obtain⟨b',off',e,_,hc⟩:=h (by omega);simp only[Option.some.injEq,Addr.mk.injEq,and_true]at e;obtain⟨rfl,rfl⟩:=e;rw[Go.WideShapes.add_plain];have f0:=Eb L j hlt;have c0:=hc j hlt;rw[f0]at hj;rw[c0];exact hj
theorem Be{w:World}{base:Nat}{v:Value}{L:List (Int)}(h:w.ownsRow base 3 1 v L.length (Ap L)):∃a cap,v=.slice a L.length cap∧L.length≤cap∧cap≤maxLen∧(a=none→cap=0)∧Bl w.heap.size w a L:=by
 rcases h.2 with ⟨rfl,h0⟩ | ⟨g,cap,cur,rfl,hb,hg,h1,h2,_⟩
 ·exact⟨none,0,by rw[h0],by omega,by unfold maxLen;omega,fun _=>rfl,fun hl=>by omega⟩
 ·refine⟨_,cap,rfl,h1,h2,(fun e=>by cases e),fun _=>⟨g,0,rfl,(Array.getElem?_eq_some_iff.1 hg).1,fun i hi=>?_⟩⟩
  have f0:=Eb L i hi;have c0:=h.cellAt (i) (by omega);rw[f0]at c0;rw[Nat.zero_add];exact c0
def APs(g:Nat)(cb:Array Value)(n₀:Nat)(w:World)(p:Int→Bool):Prop:=
 ∀(W:World) (r:Int),Below n₀ w W→Calls Tryz.prog g (#[ATh r]++cb) W fun e w'=>e=.returned (.bool (p r))∧Below W.heap.size W w'
def Ih(L:List (Int))(p:Int→Bool):Int:=match (List.range L.length).find? (fun i=>p (ig L i))with
 | some i=>i
 | none=>-1
theorem Qr(L:List (Int))(p:Int→Bool)(k:Nat)(hk:k<L.length)(h:p (ig L k)=true)(hn:∀j,j<k→p (ig L j)=false):Ih L p=k:=by
 unfold Ih
 have:(List.range L.length).find? (fun i=>p (ig L i))=some k:=by
  rw[List.find?_eq_some_iff_getElem];refine⟨by simpa using h,k,by simpa using hk,by simp,fun j hj=>?_⟩
  simpa using hn j hj
 rw[this]
theorem Oy(L:List (Int))(p:Int→Bool)(hn:∀j,j<L.length→p (ig L j)=false):Ih L p=-1:=by
 unfold Ih
 have:(List.range L.length).find? (fun i=>p (ig L i))=none:=by
  rw[List.find?_eq_none];intro x hx
  simpa using hn x (by simpa using hx)
 rw[this]
theorem Uy(L:List (Int))(p:Int→Bool):(Ih L p=-1∧∀j,j<L.length→p (ig L j)=false)∨∃k:Nat,k<L.length∧Ih L p=k∧p (ig L k)=true∧∀j,j<k→p (ig L j)=false:=by
 have main:∀n,n≤L.length→(∀j,j<n→p (ig L j)=false)∨∃k,k<n∧p (ig L k)=true∧∀j,j<k→p (ig L j)=false:=by
  intro n
  induction n with
  | zero=>exact fun _=>.inl fun j hj=>absurd hj (Nat.not_lt_zero _)
  | succ n ih=>
   intro hn;rcases ih (by omega)with h | ⟨k,hk,h1,h2⟩
   ·cases e:p (ig L n)
    ·refine .inl fun j hj=>?_
     rcases Nat.lt_or_ge j n with l | l
     ·exact h j l
     ·obtain rfl:j=n:=by omega
      exact e
    ·exact .inr ⟨n,by omega,e,h⟩
   ·exact .inr ⟨k,by omega,h1,h2⟩
 rcases main L.length nr with h | ⟨k,hk,h1,h2⟩
 ·exact .inl ⟨Oy L p h,h⟩
 ·exact .inr ⟨k,hk,Qr L p k hk h1 h2,h1,h2⟩
def Vi(L:List (Int))(p:Int→Bool):Bool:=decide (0≤Ih L p)
theorem AGb(L:List (Int))(p:Int→Bool):Vi L p=L.any p:=by
 unfold Vi;rw[Bool.eq_iff_iff,List.any_eq_true,decide_eq_true_eq];rcases Uy L p with ⟨h,h2⟩ | ⟨k,hk,h,h1,_⟩
 ·rw[h]
  refine⟨fun h=>by omega,fun ⟨x,hx,hp⟩=>?_⟩;obtain⟨j,hj,e⟩:=List.getElem_of_mem hx;have:=h2 j hj;rw[Ie L j hj,e,hp]at this
  cases this
 ·rw[h]
  exact⟨fun _=>⟨_,by rw[Ie L k hk];exact List.getElem_mem hk,h1⟩,fun _=>by omega⟩

/-! ### Slices of api.Brick -/

def bg(L:List (Cb))(i:Nat):Cb:=(L[i]?).getD ⟨⟨#[]⟩,1,0⟩
theorem AEn(L:List (Cb))(i:Nat)(h:i<L.length):bg L i=L[i]:=by unfold bg;rw[List.getElem?_eq_getElem h];rfl
def Yw(L:List (Cb)):List Value:=L.flatMap fun r=>[.string r.name,.int .i64 r.weight,.int .i64 r.count]
theorem ANc(L:List (Cb))(i:Nat)(hi:i<L.length):(Yw L)[i*3]? =some (.string (bg L i).name)∧(Yw L)[i*3+1]? =some (.int .i64 (bg L i).weight)∧(Yw L)[i*3+2]? =some (.int .i64 (bg L i).count):=by
 induction L generalizing i with
 | nil=>simp at hi
 | cons x r ih=>
  match i with
  | 0=>exact⟨rfl,rfl,rfl⟩
  | i+1=>
   have:=ih i (by simpa using hi);have e:Yw (x::r)=.string x.name::.int .i64 x.weight::.int .i64 x.count::Yw r:=rfl;rw[e,show(i+1)*3=i*3+1+1+1 by omega]
   simpa[bg]using this
def Fm(n₀:Nat)(w:World)(a:Option Addr)(L:List (Cb)):Prop:=
 0<L.length→∃b off,a=some ⟨b,off,none⟩∧b<n₀∧∀i,i<L.length→w.cell? ⟨b,off+i*3,none⟩=some (.string (bg L i).name)∧w.cell? ⟨b,off+i*3+1,none⟩=some (.int .i64 (bg L i).weight)∧w.cell? ⟨b,off+i*3+2,none⟩=some (.int .i64 (bg L i).count)
theorem Fm.below{n₀:Nat}{w w':World}{a:Option Addr}{L:List (Cb)}(h:Fm n₀ w a L)(hb:Below n₀ w w'):Fm n₀ w' a L:=fun hl=>by
 obtain⟨b,off,rfl,hlt,hc⟩:=h hl;refine⟨b,off,rfl,hlt,fun i hi=>?_⟩;obtain⟨c0,c1,c2⟩:=hc i hi;exact⟨ct hb c0 hlt,ct hb c1 hlt,ct hb c2 hlt⟩
theorem Fm.mono{n₀ n₁:Nat}{w:World}{a:Option Addr}{L:List (Cb)}(h:Fm n₀ w a L)(hn:n₀≤n₁):Fm n₁ w a L:=fun hl=>by
 obtain⟨b,off,rfl,hlt,hc⟩:=h hl;exact⟨b,off,rfl,by omega,hc⟩
theorem Fm.grow{w w':World}{a:Option Addr}{L:List (Cb)}(h:Fm w.heap.size w a L)(hb:Below w.heap.size w w'):Fm w'.heap.size w' a L:=(h.below hb).mono hb.size
theorem Fm.nil{n₀:Nat}{w:World}{a:Option Addr}:Fm n₀ w a []:=fun h=>absurd h (Nat.not_lt_zero _)
theorem Fm.take{n₀:Nat}{w:World}{a:Option Addr}{L:List (Cb)}(h:Fm n₀ w a L)(n:Nat):Fm n₀ w a (L.take n):=fun hl=>by
 have hl':0<L.length:=by rw[List.length_take]at hl;omega
 obtain⟨b,off,rfl,hlt,hc⟩:=h hl';refine⟨b,off,rfl,hlt,fun i hi=>?_⟩;rw[List.length_take]at hi;have e:bg (L.take n) i=bg L i:=by unfold bg;rw[List.getElem?_take,if_pos (by omega)]
 rw[e];exact hc i (by omega)
def Gm(L:List (Cb))(p:Cb→Bool):Int:=match (List.range L.length).find? (fun i=>p (bg L i))with
 | some i=>i
 | none=>-1
theorem Vb(L:List (Cb))(p:Cb→Bool)(k:Nat)(hk:k<L.length)(h:p (bg L k)=true)(hn:∀j,j<k→p (bg L j)=false):Gm L p=k:=by
 unfold Gm
 have:(List.range L.length).find? (fun i=>p (bg L i))=some k:=by
  rw[List.find?_eq_some_iff_getElem];refine⟨by simpa using h,k,by simpa using hk,by simp,fun j hj=>?_⟩
  simpa using hn j hj
 rw[this]
theorem Ta(L:List (Cb))(p:Cb→Bool)(hn:∀j,j<L.length→p (bg L j)=false):Gm L p=-1:=by
 unfold Gm
 have:(List.range L.length).find? (fun i=>p (bg L i))=none:=by
  rw[List.find?_eq_none];intro x hx
  simpa using hn x (by simpa using hx)
 rw[this]
theorem Ll(L:List (Cb))(p:Cb→Bool):(Gm L p=-1∧∀j,j<L.length→p (bg L j)=false)∨∃k:Nat,k<L.length∧Gm L p=k∧p (bg L k)=true∧∀j,j<k→p (bg L j)=false:=by
 have main:∀n,n≤L.length→(∀j,j<n→p (bg L j)=false)∨∃k,k<n∧p (bg L k)=true∧∀j,j<k→p (bg L j)=false:=by
  intro n
  induction n with
  | zero=>exact fun _=>.inl fun j hj=>absurd hj (Nat.not_lt_zero _)
  | succ n ih=>
   intro hn;rcases ih (by omega)with h | ⟨k,hk,h1,h2⟩
   ·cases e:p (bg L n)
    ·refine .inl fun j hj=>?_
     rcases Nat.lt_or_ge j n with l | l
     ·exact h j l
     ·obtain rfl:j=n:=by omega
      exact e
    ·exact .inr ⟨n,by omega,e,h⟩
   ·exact .inr ⟨k,by omega,h1,h2⟩
 rcases main L.length nr with h | ⟨k,hk,h1,h2⟩
 ·exact .inl ⟨Ta L p h,h⟩
 ·exact .inr ⟨k,hk,Vb L p k hk h1 h2,h1,h2⟩
def Gy(L:List (Cb))(p:Cb→Bool):Bool:=decide (0≤Gm L p)
theorem AAt(L:List (Cb))(p:Cb→Bool):Gy L p=L.any p:=by
 unfold Gy;rw[Bool.eq_iff_iff,List.any_eq_true,decide_eq_true_eq];rcases Ll L p with ⟨h,h2⟩ | ⟨k,hk,h,h1,_⟩
 ·rw[h]
  refine⟨fun h=>by omega,fun ⟨x,hx,hp⟩=>?_⟩;obtain⟨j,hj,e⟩:=List.getElem_of_mem hx;have:=h2 j hj;rw[AEn L j hj,e,hp]at this
  cases this
 ·rw[h]
  exact⟨fun _=>⟨_,by rw[AEn L k hk];exact List.getElem_mem hk,h1⟩,fun _=>by omega⟩
end
section
open Go.RowKit Go.Shelf
theorem Yp(a:Option Addr)(L:List (Int))(cap n₀ g:Nat)(cb:Array Value)(p:Int→Bool)(w:World)(eg:∀args w,(callFunc g args).run Tryz.prog w=.ok (.enter g args) w)
  (hl:L.length≤1100) (hn₀:n₀≤w.heap.size) (hI:Bl n₀ w a L) (hp:APs g cb n₀ w p):
  Calls Tryz.prog 58 #[.slice a L.length cap,.func (.func g) #[] cb] w fun e w'=>e=.returned (.int .i64 (Ih L p))∧Below w.heap.size w w':=by
 have HI:=lh hI;clear hI;have HP:=lh hp;clear hp
 go_enter Tryz.func58,Tryz.ntmps58
 go_wp2
 go_loopw [8] (fun i wr=>∃k:Nat,k≤L.length∧i=.int .i64 k∧Below w.heap.size w wr∧Hid (∀j,j<k→p (ig L j)=false)) (fun i _=>L.length-(intOf i).toNat)
 case atStart=>exact⟨0,nz,rfl,br,lh (fun _ h=>absurd h (Nat.not_lt_zero _))⟩
 case round=>
  obtain⟨k,hk,rfl,hB,HA⟩:=hrel
  by_cases hlt:k<L.length
  ·obtain⟨b,off,rfl,hb,hc⟩:=HI.out (by omega)
   have c0:=hc k hlt;have d0:=(ct hB c0 (show b<w.heap.size by omega));clear c0 hc;have HC:=lh (show Calls Tryz.prog g (#[.int .i64 (ig L k)]++cb) wr _ from HP.out wr (ig L k) (hB.mono hn₀));obtain⟨bv,hbv⟩:=nm (p (ig L k));rw[hbv]at HC
   cases bv
   ·have HB:Hid (∀j,j<k+1→p (ig L j)=false):=lh fun j hj=>by
     rcases Nat.lt_or_ge j k with l | l
     ·exact HA.out j l
     ·obtain rfl:j=k:=by omega
      exact hbv
    clear hbv
    go_wp2_with (go_fit HC.out;rintro e w1 ⟨rfl,hb1⟩)
    go_roundw
    case rel=>exact⟨k+1,by omega,by go_num,hB.trans (hb1.mono hB.size),HB⟩
    case measure=>simp[intOf];omega
   ·have H:=lh (Qr L p k hlt hbv HA.out)
    clear hbv
    go_wp2_with (go_fit HC.out;rintro e w1 ⟨rfl,hb1⟩)
    go_ret;exact⟨Cu H.out.symm,hB.trans (hb1.mono hB.size)⟩
  ·obtain rfl:k=L.length:=by omega
   have H:=lh (Oy L p HA.out)
   go_wp2
   go_ret;exact⟨Cu H.out.symm,hB⟩

theorem Dd(a:Option Addr)(L:List (Int))(cap n₀ g:Nat)(cb:Array Value)(p:Int→Bool)(w:World)(eg:∀args w,(callFunc g args).run Tryz.prog w=.ok (.enter g args) w)
  (hl:L.length≤1100) (hn₀:n₀≤w.heap.size) (hI:Bl n₀ w a L) (hp:APs g cb n₀ w p):
  Calls Tryz.prog 21 #[.slice a L.length cap,.func (.func g) #[] cb] w fun e w'=>e=.returned (.bool (Vi L p))∧Below w.heap.size w w':=by
 have HC:=lh (Yp a L cap n₀ g cb p w eg hl hn₀ hI hp);clear hI hp eg
 go_enter Tryz.func21,Tryz.ntmps21
 go_wp2_with (go_at_call 58;go_fit HC.out;rintro e w1 ⟨rfl,hb1⟩)
 go_ret;exact⟨rfl,hb1⟩

theorem Mi:(Tryz.prog.info? 3).map (fun i=>(i.zero,i.size,i.bytes))=some (some (.int .i64 0),1,8):=by kernel_rfl

theorem AJh(a:Option Addr)(L:List (Int))(cap:Nat)(w:World)(hlen:L.length≤1100)(hnil:a=none→cap=0)(hI:Bl w.heap.size w a L):
  Calls Tryz.prog 23 #[.slice a L.length cap] w fun e w'=>Hid (∃v,e=.returned v∧w'.ownsRow w.heap.size 3 1 v L.length (Ap L)∧Below w.heap.size w w'):=by
 obtain⟨i0,hi,hz0,hz1,hz2⟩:=info_parts Mi
 cases a with
 | none=>
  have h0:L.length=0:=by
   rcases Nat.eq_zero_or_pos L.length with h | h
   ·exact h
   ·obtain⟨b,off,e,_⟩:=hI h
    cases e
  obtain rfl:L=[]:=List.eq_nil_of_length_eq_zero h0;obtain rfl:=hnil rfl;clear hI h0 hnil;have hne:=fun (w:World)=>Lib.run_eql_slice_nil (P:=Tryz.prog) w 30 3 none 0 0 0 0 Tryz.underlying30
  go_enter Tryz.func23,Tryz.ntmps23
  go_wp2
  go_ret;exact lh ⟨_,rfl,World.ownsRow_nil _ _ _ _,br⟩
 | some ad=>
  have HI:=lh hI;clear hI;have hne:=fun (w:World)=>Lib.run_eql_slice_nil (P:=Tryz.prog) w 30 3 (some ad) L.length cap 0 0 Tryz.underlying30
  have hnews:∀j u,(Ap L)[j]? =some u→(w.alloc (.cells #[] 3)).cell? (ad.add j)=some u:=fun j u hj=>by
   have hlt:j<L.length:=by
    rw[←Pz];exact(List.getElem?_eq_some_iff.1 hj).1
   obtain⟨b,off,e,_⟩:=HI.out (by omega)
   cases e
   have h1:=AAi HI.out j u hj;rw[Go.WideShapes.add_plain]at h1⊢;exact(World.cell?_alloc_lt _ _ _ (World.block_lt_of_cell? w _ h1)).trans h1
  have HN:=lh hnews;clear hnews
  go_enter Tryz.func23,Tryz.ntmps23
  go_wp2_with (at_builtin;refine wpList_append_own _ rfl _ _ 30 rfl w.heap.size 3 i0 (.int .i64 0) 1 8 Tryz.underlying30 hi hz0 hz1 hz2 rfl (by decide) _ 0 [] rfl (World.ownsRow_lit w #[] 0 nr (by unfold maxLen;omega) rfl) ad L.length cap (Ap L) rfl (by rw[Pz,Nat.mul_one]) HN.out (AIy L) (by unfold maxLen;omega) (by omega) (by simp) ?_;intro v' w1 hown1 hgrow1 _)
  go_ret;rw[Nat.zero_add,List.nil_append]at hown1;exact lh ⟨_,rfl,hown1,((Below.refl _ w).alloc nr _).grown hgrow1 (by simp) (fun k e=>by cases e;exact nr)⟩

theorem Fe{ops:Array Oper}{rest:List Oper}{o:Oper}{a:Act}{w:World}{Q:Exit→Act→World→Prop}(hgd:o.guard=none)(s x:Operand)
  (ho:o.op=.call {callee:=.builtin .append,args:=#[s,x],argTypes:=#[30,30]})
  (base:Nat) (v:Value) (L:List (Int)) (hs:a.eval s=v) (hown:w.ownsRow base 3 1 v L.length (Ap L))
  (bl:Nat) (y:Int) (hx:a.eval x=.slice (some ⟨bl,0,none⟩) 1 1) (hc:w.cell? ⟨bl,0,none⟩=some (.int .i64 y)) (hl:L.length≤1000000) (hbase:base≤w.heap.size)
  (h:∀v' w',w'.ownsRow base 3 1 v' (L++[y]).length (Ap (L++[y]))→w.grownBy w' v.ownBlock→wpList Tryz.prog ops Q rest (a.put o.dst v') w'):wpList Tryz.prog ops Q (o::rest) a w:=by
 obtain⟨i0,hi,hz0,hz1,hz2⟩:=info_parts Mi;refine wpList_append_own _ hgd s x 30 ho base 3 i0 _ 1 8 Tryz.underlying30 hi hz0 hz1 hz2 rfl (by decide) v L.length (Ap L) hs hown ⟨bl,0,none⟩ 1 1 [.int .i64 y] hx rfl ?_ (by simp[Value.oneCell']) (by unfold maxLen;omega) (by omega) hbase ?_
 ·have c0:=hc
  intro j u hj;rw[Go.WideShapes.add_plain,Nat.zero_add]
  match j,hj with
  | 0,hj=>simp at hj;subst hj;exact c0
 ·intro v' w' h1 h2 _
  refine h v' w' ?_ h2;rw[Ww,List.length_append];exact h1
end
section
open Go.RowKit
def Fk(c:Int):Bool:=decide (97≤c∧c≤122∨65≤c∧c≤90)
def Nt(c:Int):Bool:=decide (48≤c∧c≤57)
def Ho(c:Int):Bool:=Fk c||Nt c||c==95
def Ju(l:List UInt8):Nat:=(l.takeWhile fun c=>Ho (c.toNat:Int)).length
def Ao(s:ByteArray):Bool:=decide (1≤s.size∧s.size≤20)&&Fk ((s.data.toList.headD 0).toNat:Int)&&Ju s.data.toList==s.size

theorem Sl(l:List UInt8)(k:Nat)(hk:k≤l.length)(ha:∀j,(h:j<k)→Ho ((l[j]'(by omega)).toNat:Int)=true)
  (hb:(h:k<l.length)→Ho ((l[k]'h).toNat:Int)=false):Ju l=k:=by
 induction l generalizing k with
 | nil=>simp at hk;subst hk;rfl
 | cons x r ih=>
  unfold Ju
  match k,hk,ha,hb with
  | 0,_,_,hb=>have:=hb (by simp);simp at this;simp[this]
  | k+1,hk,ha,hb=>
   have h0:=ha 0 (by omega);simp only[List.getElem_cons_zero]at h0;rw[List.takeWhile_cons,if_pos h0,List.length_cons];have:=ih k (by simp at hk;omega) (fun j h=>by have:=ha (j+1) (by omega);simpa using this) (fun h=>by have:=hb (by simp;omega);simpa using this);unfold Ju at this;rw[this]

theorem Ja(c:Int)(w:World):
  Calls Tryz.prog 174 #[.int .u8 c] w fun e w'=>e=.returned (.bool (Fk c))∧w=w':=by
 go_enter Tryz.func174,Tryz.ntmps174
 go_wp2
 all_goals (go_ret;exact⟨congrArg (fun b=>Ending.returned (.bool b)) (by rw[Bool.eq_iff_iff];simp[Fk];omega),rfl⟩)
theorem Sy(c:Int)(w:World):
  Calls Tryz.prog 196 #[.int .u8 c] w fun e w'=>e=.returned (.bool (Nt c))∧w=w':=by
 go_enter Tryz.func196,Tryz.ntmps196
 go_wp2
 all_goals (go_ret;exact⟨congrArg (fun b=>Ending.returned (.bool b)) (by rw[Bool.eq_iff_iff];simp[Nt];omega),rfl⟩)
theorem Gc(c:Int)(w:World):
  Calls Tryz.prog 189 #[.int .u8 c] w fun e w'=>e=.returned (.bool (Fk c))∧w=w':=by
 go_enter Tryz.func189,Tryz.ntmps189
 go_wp2
 all_goals (go_ret;exact⟨congrArg (fun b=>Ending.returned (.bool b)) (by rw[Bool.eq_iff_iff];simp[Fk];omega),rfl⟩)
theorem Nr(c:Int)(w:World):
  Calls Tryz.prog 208 #[.int .u8 c] w fun e w'=>e=.returned (.bool (Nt c))∧w=w':=by
 go_enter Tryz.func208,Tryz.ntmps208
 go_wp2
 all_goals (go_ret;exact⟨congrArg (fun b=>Ending.returned (.bool b)) (by rw[Bool.eq_iff_iff];simp[Nt];omega),rfl⟩)

theorem APb(s:ByteArray)(w:World)(hs:s.size≤20):
  Calls Tryz.prog 175 #[.string s] w fun e w'=>e=.returned (.int .i64 (Ju s.data.toList))∧w=w':=by
 go_enter Tryz.func175,Tryz.ntmps175
 go_wp2
 go_loop [3] (fun i=>∃k:Nat,k≤s.size∧i=.int .i64 k∧Hid (∀j,(h:j<k)→(h':j<s.data.toList.length)→Ho ((s.data.toList[j]'h').toNat:Int)=true)) (fun i=>s.size-(intOf i).toNat)
 case atStart=>exact⟨0,nz,rfl,lh (fun _ h=>absurd h (Nat.not_lt_zero _))⟩
 case round=>
  obtain⟨k,hk,rfl,HA⟩:=hrel
  by_cases hlt:k<s.size
  ·have hw:∀b,Ho (s[k].toNat:Int)=b→Hid (Ho (s[k].toNat:Int)=b):=fun b h=>lh h
   have Hend:Ho (s[k].toNat:Int)=false→Hid (Ju s.data.toList=k):=fun h=>lh (Sl _ k (by simpa using hk) (fun j h=>HA.out j h _) (fun _=>h))
   have Hgo:Ho (s[k].toNat:Int)=true→Hid (∀j,(h:j<k+1)→(h':j<s.data.toList.length)→Ho ((s.data.toList[j]'h').toNat:Int)=true):=fun h=>lh (fun j hj h'=>by
    rcases Nat.lt_or_ge j k with l | l
    ·exact HA.out j l h'
    ·obtain rfl:j=k:=by omega
     exact h)
   clear hw
   by_cases c1:Fk (s[k].toNat:Int)=true
   ·have H:=Hgo (by simp[Ho,c1])
    clear Hend Hgo
    go_wp2_with (go_at_call 174;refine(Ja _ _).mono ?_;rintro e w' ⟨rfl,rfl⟩)
    go_round
    case rel=>exact⟨k+1,by omega,by go_num,H⟩
    case measure=>simp[intOf];omega
   ·have c1':Fk (s[k].toNat:Int)=false:=by simpa using c1
    by_cases c2:Nt (s[k].toNat:Int)=true
    ·have H:=Hgo (by simp[Ho,c2])
     clear Hend Hgo c1
     go_wp2_with (first | (go_at_call 174;refine(Ja _ _).mono ?_;rintro e w' ⟨rfl,rfl⟩) | (go_at_call 196;refine(Sy _ _).mono ?_;rintro e w' ⟨rfl,rfl⟩))
     go_round
     case rel=>exact⟨k+1,by omega,by go_num,H⟩
     case measure=>simp[intOf];omega
    ·have c2':Nt (s[k].toNat:Int)=false:=by simpa using c2
     by_cases c3:((s[k].toNat:Int)==95)=true
     ·have H:=Hgo (by simp[Ho];right;simpa using c3)
      clear Hend Hgo c1 c2
      go_wp2_with (first | (go_at_call 174;refine(Ja _ _).mono ?_;rintro e w' ⟨rfl,rfl⟩) | (go_at_call 196;refine(Sy _ _).mono ?_;rintro e w' ⟨rfl,rfl⟩))
      go_round
      case rel=>exact⟨k+1,by omega,by go_num,H⟩
      case measure=>simp[intOf];omega
     ·have c3':((s[k].toNat:Int)==95)=false:=by simpa using c3
      have H:=Hend (by simp only[Ho,c1',c2',c3'];rfl);clear Hend Hgo c1 c2 c3
      go_wp2_with (first | (go_at_call 174;refine(Ja _ _).mono ?_;rintro e w' ⟨rfl,rfl⟩) | (go_at_call 196;refine(Sy _ _).mono ?_;rintro e w' ⟨rfl,rfl⟩))
      go_ret;exact⟨congrArg (fun n:Nat=>Ending.returned (.int .i64 n)) H.out.symm,rfl⟩
  ·obtain rfl:k=s.size:=by omega
   have H:Hid (Ju s.data.toList=s.size):=lh (Sl _ _ (by simp) (fun j h=>HA.out j h _) (fun h'=>absurd h' (by simp)))
   go_wp2
   go_ret;exact⟨congrArg (fun n:Nat=>Ending.returned (.int .i64 n)) H.out.symm,rfl⟩

theorem ACw(s:ByteArray)(w:World)(hs:s.size≤20):
  Calls Tryz.prog 190 #[.string s,.int .i64 0] w fun e w'=>e=.returned (.int .i64 (Ju s.data.toList))∧w=w':=by
 go_enter Tryz.func190,Tryz.ntmps190
 go_wp2
 go_loop [1] (fun i=>∃k:Nat,k≤s.size∧i=.int .i64 k∧Hid (∀j,(h:j<k)→(h':j<s.data.toList.length)→Ho ((s.data.toList[j]'h').toNat:Int)=true)) (fun i=>s.size-(intOf i).toNat)
 case atStart=>exact⟨0,nz,rfl,lh (fun _ h=>absurd h (Nat.not_lt_zero _))⟩
 case round=>
  obtain⟨k,hk,rfl,HA⟩:=hrel
  by_cases hlt:k<s.size
  ·have Hend:Ho (s[k].toNat:Int)=false→Hid (Ju s.data.toList=k):=fun h=>lh (Sl _ k (by simpa using hk) (fun j h=>HA.out j h _) (fun _=>h))
   have Hgo:Ho (s[k].toNat:Int)=true→Hid (∀j,(h:j<k+1)→(h':j<s.data.toList.length)→Ho ((s.data.toList[j]'h').toNat:Int)=true):=fun h=>lh (fun j hj h'=>by
    rcases Nat.lt_or_ge j k with l | l
    ·exact HA.out j l h'
    ·obtain rfl:j=k:=by omega
     exact h)
   by_cases c1:Fk (s[k].toNat:Int)=true
   ·have H:=Hgo (by simp[Ho,c1])
    clear Hend Hgo
    go_wp2_with (go_at_call 189;refine(Gc _ _).mono ?_;rintro e w' ⟨rfl,rfl⟩)
    go_round
    case rel=>exact⟨k+1,by omega,by go_num,H⟩
    case measure=>simp[intOf];omega
   ·have c1':Fk (s[k].toNat:Int)=false:=by simpa using c1
    by_cases c2:Nt (s[k].toNat:Int)=true
    ·have H:=Hgo (by simp[Ho,c2])
     clear Hend Hgo c1
     go_wp2_with (first | (go_at_call 189;refine(Gc _ _).mono ?_;rintro e w' ⟨rfl,rfl⟩) | (go_at_call 208;refine(Nr _ _).mono ?_;rintro e w' ⟨rfl,rfl⟩))
     go_round
     case rel=>exact⟨k+1,by omega,by go_num,H⟩
     case measure=>simp[intOf];omega
    ·have c2':Nt (s[k].toNat:Int)=false:=by simpa using c2
     by_cases c3:((s[k].toNat:Int)==95)=true
     ·have H:=Hgo (by simp[Ho];right;simpa using c3)
      clear Hend Hgo c1 c2
      go_wp2_with (first | (go_at_call 189;refine(Gc _ _).mono ?_;rintro e w' ⟨rfl,rfl⟩) | (go_at_call 208;refine(Nr _ _).mono ?_;rintro e w' ⟨rfl,rfl⟩))
      go_round
      case rel=>exact⟨k+1,by omega,by go_num,H⟩
      case measure=>simp[intOf];omega
     ·have c3':((s[k].toNat:Int)==95)=false:=by simpa using c3
      have H:=Hend (by simp only[Ho,c1',c2',c3'];rfl);clear Hend Hgo c1 c2 c3
      go_wp2_with (first | (go_at_call 189;refine(Gc _ _).mono ?_;rintro e w' ⟨rfl,rfl⟩) | (go_at_call 208;refine(Nr _ _).mono ?_;rintro e w' ⟨rfl,rfl⟩))
      go_ret;exact⟨congrArg (fun n:Nat=>Ending.returned (.int .i64 n)) H.out.symm,rfl⟩
  ·obtain rfl:k=s.size:=by omega
   have H:Hid (Ju s.data.toList=s.size):=lh (Sl _ _ (by simp) (fun j h=>HA.out j h _) (fun h'=>absurd h' (by simp)))
   go_wp2
   go_ret;exact⟨congrArg (fun n:Nat=>Ending.returned (.int .i64 n)) H.out.symm,rfl⟩

theorem AIl(s:ByteArray)(h:0<s.size):s.data.toList.headD 0=s[0]:=by
 obtain⟨⟨l⟩⟩:=s
 cases l with
 | nil=>simp[ByteArray.size]at h
 | cons x r=>rfl

theorem AMr(s:ByteArray)(h:s.toList=[]):s.size=0:=by
 rw[ByteArray.toList_eq]at h;have:s.data.toList.length=0:=by rw[h];rfl
 simpa using this
theorem AAx(s:ByteArray)(h:¬s.toList=[]):0<s.size:=by
 rw[ByteArray.toList_eq]at h;have:s.data.toList.length≠0:=fun e=>h (List.eq_nil_of_length_eq_zero e);have e:s.data.toList.length=s.size:=by simp
 omega

theorem ACc(s:ByteArray)(h0:0<s.size)(h1:s.size≤20)(h2:Fk (s[0].toNat:Int)=true):Ao s=(Ju s.data.toList==s.size):=by
 simp only[Ao,AIl s h0,h2];rw[dT (show 1≤s.size∧s.size≤20 by omega)];rfl
theorem AJa(s:ByteArray)(h0:0<s.size)(h2:Fk (s[0].toNat:Int)=false):Ao s=false:=by
 simp only[Ao,AIl s h0,h2];simp
theorem Pt(s:ByteArray)(h:s.size=0∨20<s.size):Ao s=false:=by
 unfold Ao;rw[dF (show ¬(1≤s.size∧s.size≤20)by omega)]
 rfl

theorem Ah(s:ByteArray)(w:World):
  Calls Tryz.prog 143 #[.string s] w fun e w'=>e=.returned (.bool (Ao s))∧w=w':=by
 by_cases h0:s.toList=[]
 ·have H:=lh (Pt s (.inl (AMr s h0)))
  go_enter Tryz.func143,Tryz.ntmps143
  go_wp2_with fail
  go_ret;exact⟨by rw[H.out];rfl,rfl⟩
 ·have hp:=AAx s h0
  by_cases h1:(s.size:Int)≤20
  ·by_cases h2:Fk (s[0].toNat:Int)=true
   ·have H:=lh (ACc s hp (by omega) h2)
    obtain⟨b,H3,h3⟩:∃b:Bool,Hid ((Ju s.data.toList==s.size)=b)∧(((Ju s.data.toList:Nat):Int)==(s.size:Int))=b:=by
     by_cases e:Ju s.data.toList=s.size
     ·exact⟨true,lh (beq_iff_eq.2 e),beq_iff_eq.2 (by omega)⟩
     ·exact⟨false,lh (beq_eq_false_iff_ne.2 e),beq_eq_false_iff_ne.2 (by omega)⟩
    cases b
    all_goals
     go_enter Tryz.func143,Tryz.ntmps143
     go_wp2_with (first | (go_at_call 174;refine(Ja _ _).mono ?_;rintro e w' ⟨rfl,rfl⟩) | (go_at_call 175;refine(APb _ _ (by omega)).mono ?_;rintro e w' ⟨rfl,rfl⟩))
     go_ret;exact⟨congrArg (fun b=>Ending.returned (.bool b)) (by first | (rw[H.out,H3.out];done) | (rw[H.out,H3.out];simpa using h0)),rfl⟩
   ·have h2':Fk (s[0].toNat:Int)=false:=by simpa using h2
    have H:=lh (AJa s hp h2');clear h2
    go_enter Tryz.func143,Tryz.ntmps143
    go_wp2_with (go_at_call 174;refine(Ja _ _).mono ?_;rintro e w' ⟨rfl,rfl⟩)
    go_ret;exact⟨by rw[H.out];rfl,rfl⟩
  ·have H:=lh (Pt s (.inr (by omega)))
   go_enter Tryz.func143,Tryz.ntmps143
   go_wp2_with fail
   go_ret;exact⟨by rw[H.out];rfl,rfl⟩

theorem Af(s:ByteArray)(w:World):
  Calls Tryz.prog 167 #[.string s] w fun e w'=>e=.returned (.bool (Ao s))∧w=w':=by
 by_cases hz:s.size=0
 ·have H:=lh (Pt s (.inl hz))
  have h0:((s.size:Int)==0)=true:=beq_iff_eq.2 (by omega);clear hz
  go_enter Tryz.func167,Tryz.ntmps167
  go_wp2_with fail
  go_ret;exact⟨by rw[H.out];rfl,rfl⟩
 ·have hp:0<s.size:=by omega
  have h0':((s.size:Int)==0)=false:=beq_eq_false_iff_ne.2 (by omega);clear hz
  by_cases h1:(s.size:Int)≤20
  ·by_cases h2:Fk (s[0].toNat:Int)=true
   ·have H:=lh (ACc s hp (by omega) h2)
    obtain⟨b,H3,h3⟩:∃b:Bool,Hid ((Ju s.data.toList==s.size)=b)∧(((Ju s.data.toList:Nat):Int)==(s.size:Int))=b:=by
     by_cases e:Ju s.data.toList=s.size
     ·exact⟨true,lh (beq_iff_eq.2 e),beq_iff_eq.2 (by omega)⟩
     ·exact⟨false,lh (beq_eq_false_iff_ne.2 e),beq_eq_false_iff_ne.2 (by omega)⟩
    cases b
    all_goals
     go_enter Tryz.func167,Tryz.ntmps167
     go_wp2_with (first | (go_at_call 189;refine(Gc _ _).mono ?_;rintro e w' ⟨rfl,rfl⟩) | (go_at_call 190;refine(ACw _ _ (by omega)).mono ?_;rintro e w' ⟨rfl,rfl⟩))
     go_ret;exact⟨congrArg (fun b=>Ending.returned (.bool b)) (by rw[H.out,H3.out]),rfl⟩
   ·have h2':Fk (s[0].toNat:Int)=false:=by simpa using h2
    have H:=lh (AJa s hp h2');clear h2
    go_enter Tryz.func167,Tryz.ntmps167
    go_wp2_with (go_at_call 189;refine(Gc _ _).mono ?_;rintro e w' ⟨rfl,rfl⟩)
    go_ret;exact⟨by rw[H.out];rfl,rfl⟩
  ·have H:=lh (Pt s (.inr (by omega)))
   go_enter Tryz.func167,Tryz.ntmps167
   go_wp2_with fail
   go_ret;exact⟨by rw[H.out];rfl,rfl⟩
end
section
open Go.RowKit Go.Shelf
theorem Dj(a b:ByteArray):(a.toList==b.toList)=decide (a=b):=by
 rw[Bool.eq_iff_iff,beq_iff_eq,decide_eq_true_eq,ByteArray.toList_eq,ByteArray.toList_eq]
 constructor
 ·intro h
  obtain⟨⟨x⟩⟩:=a;obtain⟨⟨y⟩⟩:=b
  simpa using h
 ·exact fun h=>by rw[h]
def Nx(s:ByteArray)(r:Cb):Bool:=decide (r.name=s)
def En(b:Cb):Bool:=Ao b.name&&(decide (1≤b.weight)&&(decide (b.weight≤1048576)&&(decide (0≤b.count)&&decide (b.count≤60))))
def Mc(L:List Cb)(k:Nat):Bool:=En (bg L k)&&!(Gy (L.take k) (Nx (bg L k).name))
def Tm(L:List Cb):Nat→Bool
 | 0=>true
 | k+1=>Tm L k&&Mc L k
def Gn(L:List Cb):Nat→Int
 | 0=>0
 | k+1=>Gn L k+(bg L k).count
def Hg(L:List Cb):Bool:=decide (L.length≤8)&&(Tm L L.length&&decide (Gn L L.length≤60))
theorem La(b:Cb):En b=true↔Ao b.name=true∧1≤b.weight∧b.weight≤1048576∧0≤b.count∧b.count≤60:=by
 unfold En;simp only[Bool.and_eq_true,decide_eq_true_eq]
theorem AMv{L:List Cb}:∀{k:Nat},Tm L k=true→∀j,j<k→Mc L j=true
 | 0,_,j,hj=>absurd hj (Nat.not_lt_zero _)
 | k+1,h,j,hj=>by
  simp only[Tm,Bool.and_eq_true]at h;rcases(show j<k∨j=k by omega)with l | l
  ·exact AMv h.1 j l
  ·subst l;exact h.2
theorem ANr{L:List Cb}{k:Nat}(h:Mc L k=true):En (bg L k)=true:=by
 unfold Mc at h;rw[Bool.and_eq_true]at h;exact h.1
theorem ANv{L:List Cb}:∀{k:Nat},Tm L k=true→0≤Gn L k∧Gn L k≤60*k
 | 0,_=>by simp[Gn]
 | k+1,h=>by
  simp only[Tm,Bool.and_eq_true]at h;obtain⟨a,b⟩:=ANv h.1;obtain⟨_,_,_,c,d⟩:=(La _).1 (ANr h.2);simp only[Gn];omega
theorem APz{L:List Cb}{k:Nat}(hk:k<L.length)(h:Mc L k=false):Hg L=false:=by
 unfold Hg;rw[Bool.eq_false_iff];intro q;simp only[Bool.and_eq_true]at q;have:=AMv q.2.1 k hk;rw[h]at this
 cases this
theorem ASh(b:Cb):(Ao b.name=false∧En b=false)∨(Ao b.name=true∧decide (b.weight<1)=true∧decide (1≤b.weight)=false∧En b=false)∨(Ao b.name=true∧decide (b.weight<1)=false∧decide (1≤b.weight)=true∧decide (1048576<b.weight)=true∧decide (b.weight≤1048576)=false∧En b=false)∨
  (Ao b.name=true∧decide (b.weight<1)=false∧decide (1≤b.weight)=true∧decide (1048576<b.weight)=false∧decide (b.weight≤1048576)=true∧decide (b.count<0)=true∧decide (0≤b.count)=false∧En b=false)∨
  (Ao b.name=true∧decide (b.weight<1)=false∧decide (1≤b.weight)=true∧decide (1048576<b.weight)=false∧decide (b.weight≤1048576)=true∧decide (b.count<0)=false∧decide (0≤b.count)=true∧decide (60<b.count)=true∧decide (b.count≤60)=false∧En b=false)∨
  (Ao b.name=true∧decide (b.weight<1)=false∧decide (1≤b.weight)=true∧decide (1048576<b.weight)=false∧decide (b.weight≤1048576)=true∧decide (b.count<0)=false∧decide (0≤b.count)=true∧decide (60<b.count)=false∧decide (b.count≤60)=true∧En b=true):=by
 have hb:=La b;have hn:En b=false↔¬En b=true:=by rw[Bool.not_eq_true]
 rw[hn,hb];simp only[decide_eq_true_eq,decide_eq_false_iff_not]
 cases Ao b.name<;>simp<;>omega
theorem Vx{L:List Cb}{k:Nat}(hk:k≤L.length)(p:Cb→Bool):Gy (L.take k) p=false↔∀j,j<k→p (bg L j)=false:=by
 have hT:(L.take k).length=k:=by rw[List.length_take];omega
 have hg:∀j,j<k→bg (L.take k) j=bg L j:=fun j hj=>by unfold bg;rw[List.getElem?_take,if_pos hj]
 unfold Gy;rcases Ll (L.take k) p with ⟨e,h⟩ | ⟨j,hj,e,h1,_⟩
 ·rw[e]
  refine⟨fun _ j hj=>?_,fun _=>rfl⟩;have:=h j (by omega)
  rwa [hg j hj]at this
 ·rw[e]
  rw[hT]at hj;rw[hg j hj]at h1;refine⟨fun h=>?_,fun h=>?_⟩
  ·have:=of_decide_eq_false h;omega
  ·have:=h j hj;rw[h1]at this;cases this
theorem Us(n lo hi:Int)(w:World):Calls Tryz.prog 192 #[.int .i64 n,.int .i64 lo,.int .i64 hi] w fun e w'=>e=.returned (.bool (decide (lo≤n)&&decide (n≤hi)))∧w=w':=by
 obtain⟨x,hx⟩:=nm (decide (lo≤n));obtain⟨y,hy⟩:=nm (decide (n≤hi));rw[hx,hy]
 cases x
 all_goals
  go_enter Tryz.func192,Tryz.ntmps192
  go_wp2
  go_ret;exact⟨by simp,rfl⟩
theorem Yk(a:Option Addr)(L:List Cb)(cap:Nat)(w:World)(h:Fm w.heap.size w a L):
  Calls Tryz.prog 194 #[.slice a L.length cap] w fun e w'=>e=.returned (.bool (Hg L))∧Below w.heap.size w w':=by
 have HU:=lh h;clear h;obtain⟨R,hR⟩:=nm (Hg L);have HR:=lh hR;rw[hR]
 by_cases q:8<L.length
 ·obtain rfl:R=false:=by rw[←hR];unfold Hg;rw[dF (by omega)];rfl
  have g:decide ((8:Int)<L.length)=true:=dT (by omega);clear hR HR q
  go_enter Tryz.func194,Tryz.ntmps194
  go_wp2_with fail
  go_ret;exact⟨rfl,br⟩
 have g:decide ((8:Int)<L.length)=false:=dF (by omega);have hq:L.length≤8:=by omega
 clear hR q
 go_enter Tryz.func194,Tryz.ntmps194
 go_wp2_with fail
 go_loopw [3,4] (fun s i wr=>∃k:Nat,k≤L.length∧i=.int .i64 k∧s=.int .i64 (Gn L k)∧Hid (Tm L k=true)∧Below w.heap.size w wr) (fun _ i _=>L.length-(intOf i).toNat)
 case atStart=>exact⟨0,nz,rfl,rfl,lh rfl,br⟩
 case round=>
  obtain⟨k,hk,rfl,rfl,HO,hB⟩:=hrel
  by_cases hlt:k<L.length
  ·obtain⟨b,off,rfl,hb,hc⟩:=HU.out (by omega)
   obtain⟨e0,e1,e2⟩:=hc k hlt;have c0:=(ct hB e0 hb);have c1:=(ct hB e1 hb);have c2:=(ct hB e2 hb);have hbd:=ANv HO.out;have HC:Hid (Gn L (k+1)=Gn L k+(bg L k).count):=lh rfl;have HK:Hid (Mc L k=(En (bg L k)&&!(Gy (L.take k) (Nx (bg L k).name)))):=lh rfl;have HN:Hid (Mc L k=false→R=false):=lh fun h=>by rw[←HR.out,APz hlt h]
   have HY:Hid (Mc L k=true→Tm L (k+1)=true):=lh fun h=>by simp only[Tm];rw[HO.out,h];rfl
   have HA:Hid (Gy (L.take k) (Nx (bg L k).name)=false↔∀j,j<k→Nx (bg L k).name (bg L j)=false):=lh (Vx hk _);have hcs:=ASh (bg L k);have h1f:=La (bg L k);have HCJ:Hid (∀wr,Below w.heap.size w wr→∀j,j<k→wr.cell? ⟨b,off+j*3,none⟩=some (.string (bg L j).name)):=lh fun wr hB j hj=>(hB.cell (p:=⟨b,off+j*3,none⟩) hb).trans (hc j (by omega)).1;generalize Gn L k=s at *;generalize bg L k=r at *;clear hc e0 e1 e2;rcases hcs with ⟨q1,q9⟩ | ⟨q1,q2,q6,q9⟩ | ⟨q1,q2,q6,q3,q7,q9⟩ | ⟨q1,q2,q6,q3,q7,q4,q8,q9⟩ | ⟨q1,q2,q6,q3,q7,q4,q8,q5,qa,q9⟩ | ⟨q1,q2,q6,q3,q7,q4,q8,q5,qa,q9⟩
   iterate 5
    ·have HQ:=lh q1
     obtain rfl:R=false:=HN.out (by rw[HK.out,q9];rfl);clear q1 q9 HN HY HK h1f HR HA
     go_wp2_with (first
      | (go_at_call 167;go_fit (Af _ _);rintro e w2 ⟨rfl,rfl⟩;rw[HQ.out])
      | (go_at_call 192;go_fit (Us _ _ _ _);rintro e w2 ⟨rfl,rfl⟩))
     go_ret;exact⟨rfl,hB⟩
   ·have HQ:=lh q1
    have hcnt:=(h1f.1 q9).2.2.2;have HK2:Hid (Mc L k=!(Gy (L.take k) (Nx r.name))):=lh (by rw[HK.out,q9];rfl);have t1:IntKind.i64.wrap (s+r.count)=s+r.count:=IntWalk.i64_in _ (by omega);clear q1 q9 HK h1f;obtain⟨wo,rfl⟩:∃W:World,W=wr:=⟨_,rfl⟩
    go_wp2_with (first
     | (go_at_call 167;go_fit (Af _ _);rintro e w2 ⟨rfl,rfl⟩;rw[HQ.out])
     | (go_at_call 192;go_fit (Us _ _ _ _);rintro e w2 ⟨rfl,rfl⟩))
    go_loopw [5] (fun i wr=>∃j:Nat,j≤k∧i=.int .i64 j∧Hid (∀i,i<j→Nx r.name (bg L i)=false)∧Below wo.heap.size wo wr) (fun i _=>k-(intOf i).toNat)
    case atStart=>exact⟨0,nz,rfl,lh fun i hi=>absurd hi (Nat.not_lt_zero _),br⟩
    case round=>
     obtain⟨j,hj,rfl,HJ,hB2⟩:=hrel;have hB3:=hB.trans (hB2.mono hB.size)
     by_cases hjk:j<k
     ·have d0:=HCJ.out _ hB3 j hjk
      have d1:=(ct hB2 c0 (wl c0));have hs:=Dj (bg L j).name r.name;have j1:(j:Int)<(L.length:Int):=by omega
      have j2:(k:Int)<(L.length:Int):=by omega
      have j3:(0:Int)≤(j:Int):=by omega
      have j4:(0:Int)≤(k:Int):=by omega
      by_cases hx:(bg L j).name=r.name
      ·obtain rfl:R=false:=HN.out (by
        rw[HK2.out]
        cases hd:Gy (L.take k) (Nx r.name)
        ·have:=HA.out.1 hd j hjk
         unfold Nx at this;rw[dT hx]at this
         cases this
        ·rfl)
       rw[dT hx]at hs;clear hx HN HY HR HK2 HA
       go_wp2_with fail
       go_quiet (fail)
       go_wp2_with fail
       go_ret;exact⟨rfl,Aj hB3 _⟩
      ·rw[dF hx]at hs
       have HJ2:Hid (∀i,i<j+1→Nx r.name (bg L i)=false):=lh fun i hi=>by
        rcases(show i<j∨i=j by omega)with l | l
        ·exact HJ.out i l
        ·subst l;unfold Nx;exact dF hx
       clear hx HN HY HR HK2 HA
       go_wp2_with fail
       go_quiet (fail)
       go_wp2_with fail
       go_roundw
       case rel=>exact⟨j+1,by omega,by go_num,HJ2,Aj hB2 _⟩
       case measure=>simp[intOf];omega
     ·obtain rfl:j=k:=by omega
      have HO2:Hid (Tm L (j+1)=true):=lh (HY.out (by rw[HK2.out,HA.out.2 HJ.out];rfl));clear HN HY HR HK2 HA
      go_wp2_with fail
      go_roundw
      case rel=>exact⟨j+1,by omega,by go_num,by rw[HC.out],HO2,hB3⟩
      case measure=>simp[intOf];omega
  ·obtain rfl:k=L.length:=by omega
   have HF:Hid (decide (Gn L L.length≤60)=R):=lh (by rw[←HR.out];unfold Hg;rw[dT hq,HO.out];rfl);clear HR
   go_wp2_with fail
   go_ret;exact⟨Ab HF.out,hB⟩
structure Cd where
 name:ByteArray
 pos:Int
 width:Int
 weight:Int
 hang:Int
 front:Int
 back:Int
structure Ds where
 name:ByteArray
 depth:Int
 low:Int
 high:Int
 length:Int
 la:Option Addr
 lines:List Int
 lc:Nat
 pipe:Int
 arbor:Int
 purchase:Int
 most:Int
 brake:Int
 ia:Option Addr
 items:List Cd
 ic:Nat
 ba:Option Addr
 bricks:List Cb
 bc:Nat
def Ai(n lo hi:Int):Bool:=decide (lo≤n)&&decide (n≤hi)
theorem Am{n lo hi:Int}:Ai n lo hi=true↔lo≤n∧n≤hi:=by unfold Ai;rw[Bool.and_eq_true,decide_eq_true_eq,decide_eq_true_eq]
def Fn(x:Cd):Bool:=Ao x.name&&(Ai x.weight 0 1048576&&(Ai x.hang 0 1048576&&(Ai x.front 0 1048576&&Ai x.back 0 1048576)))
def Fh(x:Cd)(len:Int):Bool:=decide (0≤x.pos)&&(Ai x.width 1 1048576&&decide (x.pos≤len-x.width))
def Dt(x y:Cd):Bool:=decide (x.pos+x.width≤y.pos)||decide (y.pos+y.width≤x.pos)
def Ej(len:Int)(x:Cd):Bool:=Fn x&&Fh x len
theorem Xr(x y:Cd):Dt x y=Dt y x:=by unfold Dt;rw[Bool.or_comm]
def Iw(I:List Cd)(len:Int):Bool:=decide (I.length≤40)&&(I.all (Ej len)&&decide (I.Pairwise fun x y=>x.name≠y.name∧Dt x y=true))
def Nb(L:List Int)(len:Int):Bool:=Ai L.length 2 10&&(L.all (fun n=>Ai n 0 len)&&decide (L.Pairwise (·<·)))
def setB(r:Ds):Bool:=
 Ao r.name&&(Ai r.depth 0 1048576&&(decide (0≤r.low)&&(decide (r.low≤r.high)&&(decide (r.high≤1048576)&&(Ai r.length 1000 1048576&&((r.length%1000==0)&&(Nb r.lines r.length&&
  (Ai r.pipe 0 1048576&&(Ai r.arbor 0 1048576&&(Ai r.purchase 1 2&&(Ai r.most 1 67108864&&(Ai r.brake 0 67108864&&(Iw r.items r.length&&Hg r.bricks)))))))))))))
structure ASn(r:Ds):Prop where
 name:Ao r.name=true
 depth:0≤r.depth∧r.depth≤1048576
 low:0≤r.low∧r.low≤r.high∧r.high≤1048576
 length:1000≤r.length∧r.length≤1048576∧r.length%1000=0
 lines:Nb r.lines r.length=true
 pipe:0≤r.pipe∧r.pipe≤1048576
 arbor:0≤r.arbor∧r.arbor≤1048576
 purchase:1≤r.purchase∧r.purchase≤2
 most:1≤r.most∧r.most≤67108864
 brake:0≤r.brake∧r.brake≤67108864
 items:Iw r.items r.length=true
 bricks:Hg r.bricks=true
theorem ADe{r:Ds}:setB r=true↔ASn r:=by
 unfold setB;simp only[Bool.and_eq_true,Am,decide_eq_true_eq,beq_iff_eq]
 constructor
 ·rintro ⟨h1,h2,h3,h4,h5,h6,h7,h8,h9,h10,h11,h12,h13,h14,h15⟩
  exact⟨h1,h2,⟨h3,h4,h5⟩,⟨h6.1,h6.2,h7⟩,h8,h9,h10,h11,h12,h13,h14,h15⟩
 ·rintro ⟨h1,h2,⟨h3,h4,h5⟩,⟨h6,h6',h7⟩,h8,h9,h10,h11,h12,h13,h14,h15⟩
  exact⟨h1,h2,h3,h4,h5,⟨h6,h6'⟩,h7,h8,h9,h10,h11,h12,h13,h14,h15⟩
theorem Uc{len:Int}{x:Cd}:Ej len x=true↔Ao x.name=true∧(0≤x.weight∧x.weight≤1048576)∧(0≤x.hang∧x.hang≤1048576)∧(0≤x.front∧x.front≤1048576)∧(0≤x.back∧x.back≤1048576)∧0≤x.pos∧(1≤x.width∧x.width≤1048576)∧x.pos≤len-x.width:=by
 unfold Ej Fn Fh;simp only[Bool.and_eq_true,Am,decide_eq_true_eq]
 constructor
 ·rintro ⟨⟨a,b,c,d,e⟩,f,g,h⟩;exact⟨a,b,c,d,e,f,g,h⟩
 ·rintro ⟨a,b,c,d,e,f,g,h⟩;exact⟨⟨a,b,c,d,e⟩,f,g,h⟩
theorem ALw{I:List Cd}{len:Int}:Iw I len=true↔I.length≤40∧(∀x∈I,Ej len x=true)∧I.Pairwise fun x y=>x.name≠y.name∧Dt x y=true:=by
 unfold Iw;simp only[Bool.and_eq_true,decide_eq_true_eq,List.all_eq_true]
abbrev Ko(r:Ds):Obj:=.cells #[.string r.name,.int .i64 r.depth,.int .i64 r.low,.int .i64 r.high,.int .i64 r.length,.slice r.la r.lines.length r.lc,.int .i64 r.pipe,.int .i64 r.arbor,.int .i64 r.purchase,.int .i64 r.most,.int .i64 r.brake,.slice r.ia r.items.length r.ic,.slice r.ba r.bricks.length r.bc] 59
end
section
open Go.RowKit Go.Shelf
attribute [local go_sem] Oper.semAt_some
/-! ### Slices of api.Item -/

def tg(L:List (Cd))(i:Nat):Cd:=(L[i]?).getD ⟨⟨#[]⟩,0,0,0,0,0,0⟩
theorem Jm(L:List (Cd))(i:Nat)(h:i<L.length):tg L i=L[i]:=by unfold tg;rw[List.getElem?_eq_getElem h];rfl
def AVh(r:Cd):Value:=.agg #[.string r.name,.int .i64 r.pos,.int .i64 r.width,.int .i64 r.weight,.int .i64 r.hang,.int .i64 r.front,.int .i64 r.back]
def Qn(L:List (Cd)):List Value:=L.flatMap fun r=>[.string r.name,.int .i64 r.pos,.int .i64 r.width,.int .i64 r.weight,.int .i64 r.hang,.int .i64 r.front,.int .i64 r.back]
theorem APv(L:List (Cd))(i:Nat)(hi:i<L.length):(Qn L)[i*7]? =some (.string (tg L i).name)∧(Qn L)[i*7+1]? =some (.int .i64 (tg L i).pos)∧(Qn L)[i*7+2]? =some (.int .i64 (tg L i).width)∧(Qn L)[i*7+3]? =some (.int .i64 (tg L i).weight)∧(Qn L)[i*7+4]? =some (.int .i64 (tg L i).hang)∧(Qn L)[i*7+5]? =some (.int .i64 (tg L i).front)∧(Qn L)[i*7+6]? =some (.int .i64 (tg L i).back):=by
 induction L generalizing i with
 | nil=>simp at hi
 | cons x r ih=>
  match i with
  | 0=>exact⟨rfl,rfl,rfl,rfl,rfl,rfl,rfl⟩
  | i+1=>
   have:=ih i (by simpa using hi);have e:Qn (x::r)=.string x.name::.int .i64 x.pos::.int .i64 x.width::.int .i64 x.weight::.int .i64 x.hang::.int .i64 x.front::.int .i64 x.back::Qn r:=rfl;rw[e,show(i+1)*7=i*7+1+1+1+1+1+1+1 by omega]
   simpa[tg]using this
def Gp(n₀:Nat)(w:World)(a:Option Addr)(L:List (Cd)):Prop:=
 0<L.length→∃b off,a=some ⟨b,off,none⟩∧b<n₀∧∀i,i<L.length→w.cell? ⟨b,off+i*7,none⟩=some (.string (tg L i).name)∧w.cell? ⟨b,off+i*7+1,none⟩=some (.int .i64 (tg L i).pos)∧w.cell? ⟨b,off+i*7+2,none⟩=some (.int .i64 (tg L i).width)∧w.cell? ⟨b,off+i*7+3,none⟩=some (.int .i64 (tg L i).weight)∧w.cell? ⟨b,off+i*7+4,none⟩=some (.int .i64 (tg L i).hang)∧w.cell? ⟨b,off+i*7+5,none⟩=some (.int .i64 (tg L i).front)∧w.cell? ⟨b,off+i*7+6,none⟩=some (.int .i64 (tg L i).back)
theorem Gp.below{n₀:Nat}{w w':World}{a:Option Addr}{L:List (Cd)}(h:Gp n₀ w a L)(hb:Below n₀ w w'):Gp n₀ w' a L:=fun hl=>by
 obtain⟨b,off,rfl,hlt,hc⟩:=h hl;refine⟨b,off,rfl,hlt,fun i hi=>?_⟩;obtain⟨c0,c1,c2,c3,c4,c5,c6⟩:=hc i hi;exact⟨ct hb c0 hlt,ct hb c1 hlt,ct hb c2 hlt,ct hb c3 hlt,ct hb c4 hlt,ct hb c5 hlt,ct hb c6 hlt⟩
theorem Gp.mono{n₀ n₁:Nat}{w:World}{a:Option Addr}{L:List (Cd)}(h:Gp n₀ w a L)(hn:n₀≤n₁):Gp n₁ w a L:=fun hl=>by
 obtain⟨b,off,rfl,hlt,hc⟩:=h hl;exact⟨b,off,rfl,by omega,hc⟩
theorem Gp.grow{w w':World}{a:Option Addr}{L:List (Cd)}(h:Gp w.heap.size w a L)(hb:Below w.heap.size w w'):Gp w'.heap.size w' a L:=(h.below hb).mono hb.size
theorem Gp.nil{n₀:Nat}{w:World}{a:Option Addr}:Gp n₀ w a []:=fun h=>absurd h (Nat.not_lt_zero _)
theorem Gp.take{n₀:Nat}{w:World}{a:Option Addr}{L:List (Cd)}(h:Gp n₀ w a L)(n:Nat):Gp n₀ w a (L.take n):=fun hl=>by
 have hl':0<L.length:=by rw[List.length_take]at hl;omega
 obtain⟨b,off,rfl,hlt,hc⟩:=h hl';refine⟨b,off,rfl,hlt,fun i hi=>?_⟩;rw[List.length_take]at hi;have e:tg (L.take n) i=tg L i:=by unfold tg;rw[List.getElem?_take,if_pos (by omega)]
 rw[e];exact hc i (by omega)
def AEm(g:Nat)(cb:Array Value)(n₀:Nat)(w:World)(p:Cd→Bool):Prop:=
 ∀(W:World) (r:Cd),Below n₀ w W→Calls Tryz.prog g (#[AVh r]++cb) W fun e w'=>e=.returned (.bool (p r))∧Below W.heap.size W w'
def Gf(L:List (Cd))(p:Cd→Bool):Int:=match (List.range L.length).find? (fun i=>p (tg L i))with
 | some i=>i
 | none=>-1
theorem Pi(L:List (Cd))(p:Cd→Bool)(k:Nat)(hk:k<L.length)(h:p (tg L k)=true)(hn:∀j,j<k→p (tg L j)=false):Gf L p=k:=by
 unfold Gf
 have:(List.range L.length).find? (fun i=>p (tg L i))=some k:=by
  rw[List.find?_eq_some_iff_getElem];refine⟨by simpa using h,k,by simpa using hk,by simp,fun j hj=>?_⟩
  simpa using hn j hj
 rw[this]
theorem Nv(L:List (Cd))(p:Cd→Bool)(hn:∀j,j<L.length→p (tg L j)=false):Gf L p=-1:=by
 unfold Gf
 have:(List.range L.length).find? (fun i=>p (tg L i))=none:=by
  rw[List.find?_eq_none];intro x hx
  simpa using hn x (by simpa using hx)
 rw[this]
theorem Tk(L:List (Cd))(p:Cd→Bool):(Gf L p=-1∧∀j,j<L.length→p (tg L j)=false)∨∃k:Nat,k<L.length∧Gf L p=k∧p (tg L k)=true∧∀j,j<k→p (tg L j)=false:=by
 have main:∀n,n≤L.length→(∀j,j<n→p (tg L j)=false)∨∃k,k<n∧p (tg L k)=true∧∀j,j<k→p (tg L j)=false:=by
  intro n
  induction n with
  | zero=>exact fun _=>.inl fun j hj=>absurd hj (Nat.not_lt_zero _)
  | succ n ih=>
   intro hn;rcases ih (by omega)with h | ⟨k,hk,h1,h2⟩
   ·cases e:p (tg L n)
    ·refine .inl fun j hj=>?_
     rcases Nat.lt_or_ge j n with l | l
     ·exact h j l
     ·obtain rfl:j=n:=by omega
      exact e
    ·exact .inr ⟨n,by omega,e,h⟩
   ·exact .inr ⟨k,by omega,h1,h2⟩
 rcases main L.length nr with h | ⟨k,hk,h1,h2⟩
 ·exact .inl ⟨Nv L p h,h⟩
 ·exact .inr ⟨k,hk,Pi L p k hk h1 h2,h1,h2⟩
def Eo(L:List (Cd))(p:Cd→Bool):Bool:=decide (0≤Gf L p)
theorem AEh(L:List (Cd))(p:Cd→Bool):Eo L p=L.any p:=by
 unfold Eo;rw[Bool.eq_iff_iff,List.any_eq_true,decide_eq_true_eq];rcases Tk L p with ⟨h,h2⟩ | ⟨k,hk,h,h1,_⟩
 ·rw[h]
  refine⟨fun h=>by omega,fun ⟨x,hx,hp⟩=>?_⟩;obtain⟨j,hj,e⟩:=List.getElem_of_mem hx;have:=h2 j hj;rw[Jm L j hj,e,hp]at this
  cases this
 ·rw[h]
  exact⟨fun _=>⟨_,by rw[Jm L k hk];exact List.getElem_mem hk,h1⟩,fun _=>by omega⟩

theorem Vw(a:Option Addr)(L:List (Cd))(cap n₀ g:Nat)(cb:Array Value)(p:Cd→Bool)(w:World)(eg:∀args w,(callFunc g args).run Tryz.prog w=.ok (.enter g args) w)
  (hl:L.length≤1100) (hn₀:n₀≤w.heap.size) (hI:Gp n₀ w a L) (hp:AEm g cb n₀ w p):
  Calls Tryz.prog 211 #[.slice a L.length cap,.func (.func g) #[] cb] w fun e w'=>e=.returned (.int .i64 (Gf L p))∧Below w.heap.size w w':=by
 have HI:=lh hI;clear hI;have HP:=lh hp;clear hp
 go_enter Tryz.func211,Tryz.ntmps211
 go_wp2
 go_loopw [8] (fun i wr=>∃k:Nat,k≤L.length∧i=.int .i64 k∧Below w.heap.size w wr∧Hid (∀j,j<k→p (tg L j)=false)) (fun i _=>L.length-(intOf i).toNat)
 case atStart=>exact⟨0,nz,rfl,br,lh (fun _ h=>absurd h (Nat.not_lt_zero _))⟩
 case round=>
  obtain⟨k,hk,rfl,hB,HA⟩:=hrel
  by_cases hlt:k<L.length
  ·obtain⟨b,off,rfl,hb,hc⟩:=HI.out (by omega)
   obtain⟨c0,c1,c2,c3,c4,c5,c6⟩:=hc k hlt;have d0:=(ct hB c0 (show b<w.heap.size by omega));have d1:=(ct hB c1 (show b<w.heap.size by omega));have d2:=(ct hB c2 (show b<w.heap.size by omega));have d3:=(ct hB c3 (show b<w.heap.size by omega));have d4:=(ct hB c4 (show b<w.heap.size by omega));have d5:=(ct hB c5 (show b<w.heap.size by omega));have d6:=(ct hB c6 (show b<w.heap.size by omega));clear c0 c1 c2 c3 c4 c5 c6 hc;have HC:=lh (show Calls Tryz.prog g (#[.agg #[.string (tg L k).name,.int .i64 (tg L k).pos,.int .i64 (tg L k).width,.int .i64 (tg L k).weight,.int .i64 (tg L k).hang,.int .i64 (tg L k).front,.int .i64 (tg L k).back]]++cb) wr _ from HP.out wr (tg L k) (hB.mono hn₀));obtain⟨bv,hbv⟩:=nm (p (tg L k));rw[hbv]at HC
   cases bv
   ·have HB:Hid (∀j,j<k+1→p (tg L j)=false):=lh fun j hj=>by
     rcases Nat.lt_or_ge j k with l | l
     ·exact HA.out j l
     ·obtain rfl:j=k:=by omega
      exact hbv
    clear hbv
    go_wp2_with (go_fit HC.out;rintro e w1 ⟨rfl,hb1⟩)
    go_roundw
    case rel=>exact⟨k+1,by omega,by go_num,hB.trans (hb1.mono hB.size),HB⟩
    case measure=>simp[intOf];omega
   ·have H:=lh (Pi L p k hlt hbv HA.out)
    clear hbv
    go_wp2_with (go_fit HC.out;rintro e w1 ⟨rfl,hb1⟩)
    go_ret;exact⟨Cu H.out.symm,hB.trans (hb1.mono hB.size)⟩
  ·obtain rfl:k=L.length:=by omega
   have H:=lh (Nv L p HA.out)
   go_wp2
   go_ret;exact⟨Cu H.out.symm,hB⟩

theorem Sa(a:Option Addr)(L:List (Cd))(cap n₀ g:Nat)(cb:Array Value)(p:Cd→Bool)(w:World)(eg:∀args w,(callFunc g args).run Tryz.prog w=.ok (.enter g args) w)
  (hl:L.length≤1100) (hn₀:n₀≤w.heap.size) (hI:Gp n₀ w a L) (hp:AEm g cb n₀ w p):
  Calls Tryz.prog 202 #[.slice a L.length cap,.func (.func g) #[] cb] w fun e w'=>e=.returned (.bool (Eo L p))∧Below w.heap.size w w':=by
 have HC:=lh (Vw a L cap n₀ g cb p w eg hl hn₀ hI hp);clear hI hp eg
 go_enter Tryz.func202,Tryz.ntmps202
 go_wp2_with (go_at_call 211;go_fit HC.out;rintro e w1 ⟨rfl,hb1⟩)
 go_ret;exact⟨rfl,hb1⟩
end
end Go.Proofs.YtebofaenlhhkaaaGreat
