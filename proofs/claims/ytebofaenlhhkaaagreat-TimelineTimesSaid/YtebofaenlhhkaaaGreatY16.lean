import Derived.Test.YtebofaenlhhkaaaGreatY3
namespace Go.Proofs.YtebofaenlhhkaaaGreat
set_option maxRecDepth 100000
set_option maxHeartbeats 80000000
section
open Go.RowKit Go.Shelf
attribute [local go_sem] Oper.semAt_some
structure Cz where
 name:ByteArray
 lo:Int
 hi:Int
 most:Int

/-! ### Slices of api.Roof -/

def rg(L:List (Cz))(i:Nat):Cz:=(L[i]?).getD ⟨⟨#[]⟩,0,0,0⟩
def AUx(r:Cz):Value:=.agg #[.string r.name,.int .i64 r.lo,.int .i64 r.hi,.int .i64 r.most]
def Xf(L:List (Cz)):List Value:=L.flatMap fun r=>[.string r.name,.int .i64 r.lo,.int .i64 r.hi,.int .i64 r.most]
theorem ANu(L:List (Cz))(i:Nat)(hi:i<L.length):(Xf L)[i*4]? =some (.string (rg L i).name)∧(Xf L)[i*4+1]? =some (.int .i64 (rg L i).lo)∧(Xf L)[i*4+2]? =some (.int .i64 (rg L i).hi)∧(Xf L)[i*4+3]? =some (.int .i64 (rg L i).most):=by
 induction L generalizing i with
 | nil=>simp at hi
 | cons x r ih=>
  match i with
  | 0=>exact⟨rfl,rfl,rfl,rfl⟩
  | i+1=>
   have:=ih i (by simpa using hi);have e:Xf (x::r)=.string x.name::.int .i64 x.lo::.int .i64 x.hi::.int .i64 x.most::Xf r:=rfl;rw[e,show(i+1)*4=i*4+1+1+1+1 by omega]
   simpa[rg]using this
def Gj(n₀:Nat)(w:World)(a:Option Addr)(L:List (Cz)):Prop:=
 0<L.length→∃b off,a=some ⟨b,off,none⟩∧b<n₀∧∀i,i<L.length→w.cell? ⟨b,off+i*4,none⟩=some (.string (rg L i).name)∧w.cell? ⟨b,off+i*4+1,none⟩=some (.int .i64 (rg L i).lo)∧w.cell? ⟨b,off+i*4+2,none⟩=some (.int .i64 (rg L i).hi)∧w.cell? ⟨b,off+i*4+3,none⟩=some (.int .i64 (rg L i).most)
theorem Gj.below{n₀:Nat}{w w':World}{a:Option Addr}{L:List (Cz)}(h:Gj n₀ w a L)(hb:Below n₀ w w'):Gj n₀ w' a L:=fun hl=>by
 obtain⟨b,off,rfl,hlt,hc⟩:=h hl;refine⟨b,off,rfl,hlt,fun i hi=>?_⟩;obtain⟨c0,c1,c2,c3⟩:=hc i hi;exact⟨ct hb c0 hlt,ct hb c1 hlt,ct hb c2 hlt,ct hb c3 hlt⟩
theorem Gj.mono{n₀ n₁:Nat}{w:World}{a:Option Addr}{L:List (Cz)}(h:Gj n₀ w a L)(hn:n₀≤n₁):Gj n₁ w a L:=fun hl=>by
 obtain⟨b,off,rfl,hlt,hc⟩:=h hl;exact⟨b,off,rfl,by omega,hc⟩
theorem Gj.grow{w w':World}{a:Option Addr}{L:List (Cz)}(h:Gj w.heap.size w a L)(hb:Below w.heap.size w w'):Gj w'.heap.size w' a L:=(h.below hb).mono hb.size
theorem Gj.nil{n₀:Nat}{w:World}{a:Option Addr}:Gj n₀ w a []:=fun h=>absurd h (Nat.not_lt_zero _)
theorem Gj.take{n₀:Nat}{w:World}{a:Option Addr}{L:List (Cz)}(h:Gj n₀ w a L)(n:Nat):Gj n₀ w a (L.take n):=fun hl=>by
 have hl':0<L.length:=by rw[List.length_take]at hl;omega
 obtain⟨b,off,rfl,hlt,hc⟩:=h hl';refine⟨b,off,rfl,hlt,fun i hi=>?_⟩;rw[List.length_take]at hi;have e:rg (L.take n) i=rg L i:=by unfold rg;rw[List.getElem?_take,if_pos (by omega)]
 rw[e];exact hc i (by omega)
def Sk(g:Nat)(cb:Array Value)(n₀:Nat)(w:World)(p:Cz→Bool):Prop:=
 ∀(W:World) (r:Cz),Below n₀ w W→Calls Tryz.prog g (#[AUx r]++cb) W fun e w'=>e=.returned (.bool (p r))∧Below W.heap.size W w'
def Gi(L:List (Cz))(p:Cz→Bool):Int:=match (List.range L.length).find? (fun i=>p (rg L i))with
 | some i=>i
 | none=>-1
theorem Ot(L:List (Cz))(p:Cz→Bool)(k:Nat)(hk:k<L.length)(h:p (rg L k)=true)(hn:∀j,j<k→p (rg L j)=false):Gi L p=k:=by
 unfold Gi
 have:(List.range L.length).find? (fun i=>p (rg L i))=some k:=by
  rw[List.find?_eq_some_iff_getElem];refine⟨by simpa using h,k,by simpa using hk,by simp,fun j hj=>?_⟩
  simpa using hn j hj
 rw[this]
theorem Oc(L:List (Cz))(p:Cz→Bool)(hn:∀j,j<L.length→p (rg L j)=false):Gi L p=-1:=by
 unfold Gi
 have:(List.range L.length).find? (fun i=>p (rg L i))=none:=by
  rw[List.find?_eq_none];intro x hx
  simpa using hn x (by simpa using hx)
 rw[this]
theorem Tt(L:List (Cz))(p:Cz→Bool):(Gi L p=-1∧∀j,j<L.length→p (rg L j)=false)∨∃k:Nat,k<L.length∧Gi L p=k∧p (rg L k)=true∧∀j,j<k→p (rg L j)=false:=by
 have main:∀n,n≤L.length→(∀j,j<n→p (rg L j)=false)∨∃k,k<n∧p (rg L k)=true∧∀j,j<k→p (rg L j)=false:=by
  intro n
  induction n with
  | zero=>exact fun _=>.inl fun j hj=>absurd hj (Nat.not_lt_zero _)
  | succ n ih=>
   intro hn;rcases ih (by omega)with h | ⟨k,hk,h1,h2⟩
   ·cases e:p (rg L n)
    ·refine .inl fun j hj=>?_
     rcases Nat.lt_or_ge j n with l | l
     ·exact h j l
     ·obtain rfl:j=n:=by omega
      exact e
    ·exact .inr ⟨n,by omega,e,h⟩
   ·exact .inr ⟨k,by omega,h1,h2⟩
 rcases main L.length nr with h | ⟨k,hk,h1,h2⟩
 ·exact .inl ⟨Oc L p h,h⟩
 ·exact .inr ⟨k,hk,Ot L p k hk h1 h2,h1,h2⟩
def Mh(L:List (Cz))(p:Cz→Bool):Bool:=decide (0≤Gi L p)
theorem Xm(a:Option Addr)(L:List (Cz))(cap n₀ g:Nat)(cb:Array Value)(p:Cz→Bool)(w:World)(eg:∀args w,(callFunc g args).run Tryz.prog w=.ok (.enter g args) w)
  (hl:L.length≤1100) (hn₀:n₀≤w.heap.size) (hI:Gj n₀ w a L) (hp:Sk g cb n₀ w p):
  Calls Tryz.prog 197 #[.slice a L.length cap,.func (.func g) #[] cb] w fun e w'=>e=.returned (.int .i64 (Gi L p))∧Below w.heap.size w w':=by
 have HI:=lh hI;clear hI;have HP:=lh hp;clear hp
 go_enter Tryz.func197,Tryz.ntmps197
 go_wp2
 go_loopw [8] (fun i wr=>∃k:Nat,k≤L.length∧i=.int .i64 k∧Below w.heap.size w wr∧Hid (∀j,j<k→p (rg L j)=false)) (fun i _=>L.length-(intOf i).toNat)
 case atStart=>exact⟨0,nz,rfl,br,lh (fun _ h=>absurd h (Nat.not_lt_zero _))⟩
 case round=>
  obtain⟨k,hk,rfl,hB,HA⟩:=hrel
  by_cases hlt:k<L.length
  ·obtain⟨b,off,rfl,hb,hc⟩:=HI.out (by omega)
   obtain⟨c0,c1,c2,c3⟩:=hc k hlt;have d0:=(ct hB c0 (show b<w.heap.size by omega));have d1:=(ct hB c1 (show b<w.heap.size by omega));have d2:=(ct hB c2 (show b<w.heap.size by omega));have d3:=(ct hB c3 (show b<w.heap.size by omega));clear c0 c1 c2 c3 hc;have HC:=lh (show Calls Tryz.prog g (#[.agg #[.string (rg L k).name,.int .i64 (rg L k).lo,.int .i64 (rg L k).hi,.int .i64 (rg L k).most]]++cb) wr _ from HP.out wr (rg L k) (hB.mono hn₀));obtain⟨bv,hbv⟩:=nm (p (rg L k));rw[hbv]at HC
   cases bv
   ·have HB:Hid (∀j,j<k+1→p (rg L j)=false):=lh fun j hj=>by
     rcases Nat.lt_or_ge j k with l | l
     ·exact HA.out j l
     ·obtain rfl:j=k:=by omega
      exact hbv
    clear hbv
    go_wp2_with (go_fit HC.out;rintro e w1 ⟨rfl,hb1⟩)
    go_roundw
    case rel=>exact⟨k+1,by omega,by go_num,hB.trans (hb1.mono hB.size),HB⟩
    case measure=>simp[intOf];omega
   ·have H:=lh (Ot L p k hlt hbv HA.out)
    clear hbv
    go_wp2_with (go_fit HC.out;rintro e w1 ⟨rfl,hb1⟩)
    go_ret;exact⟨Cu H.out.symm,hB.trans (hb1.mono hB.size)⟩
  ·obtain rfl:k=L.length:=by omega
   have H:=lh (Oc L p HA.out)
   go_wp2
   go_ret;exact⟨Cu H.out.symm,hB⟩

theorem Sg(a:Option Addr)(L:List (Cz))(cap n₀ g:Nat)(cb:Array Value)(p:Cz→Bool)(w:World)(eg:∀args w,(callFunc g args).run Tryz.prog w=.ok (.enter g args) w)
  (hl:L.length≤1100) (hn₀:n₀≤w.heap.size) (hI:Gj n₀ w a L) (hp:Sk g cb n₀ w p):
  Calls Tryz.prog 178 #[.slice a L.length cap,.func (.func g) #[] cb] w fun e w'=>e=.returned (.bool (Mh L p))∧Below w.heap.size w w':=by
 have HC:=lh (Xm a L cap n₀ g cb p w eg hl hn₀ hI hp);clear hI hp eg
 go_enter Tryz.func178,Tryz.ntmps178
 go_wp2_with (go_at_call 197;go_fit HC.out;rintro e w1 ⟨rfl,hb1⟩)
 go_ret;exact⟨rfl,hb1⟩

/-! ### Slices of api.Set -/

def hg(L:List (Ds))(i:Nat):Ds:=(L[i]?).getD ⟨⟨#[]⟩,0,0,0,0,none,[],0,0,0,0,0,0,none,[],0,none,[],0⟩
theorem AMz(L:List (Ds))(i:Nat)(h:i<L.length):hg L i=L[i]:=by unfold hg;rw[List.getElem?_eq_getElem h];rfl
theorem AUn{L:List (Ds)}{i:Nat}(h:i<L.length):L[i]? =some (hg L i):=by rw[AMz L i h,List.getElem?_eq_getElem h]
def AVr(r:Ds):Value:=.agg #[.string r.name,.int .i64 r.depth,.int .i64 r.low,.int .i64 r.high,.int .i64 r.length,.slice r.la r.lines.length r.lc,.int .i64 r.pipe,.int .i64 r.arbor,.int .i64 r.purchase,.int .i64 r.most,.int .i64 r.brake,.slice r.ia r.items.length r.ic,.slice r.ba r.bricks.length r.bc]
def Kd(L:List (Ds)):List Value:=L.flatMap fun r=>[.string r.name,.int .i64 r.depth,.int .i64 r.low,.int .i64 r.high,.int .i64 r.length,.slice r.la r.lines.length r.lc,.int .i64 r.pipe,.int .i64 r.arbor,.int .i64 r.purchase,.int .i64 r.most,.int .i64 r.brake,.slice r.ia r.items.length r.ic,.slice r.ba r.bricks.length r.bc]
theorem AOc(L:List (Ds))(i:Nat)(hi:i<L.length):(Kd L)[i*13]? =some (.string (hg L i).name)∧(Kd L)[i*13+1]? =some (.int .i64 (hg L i).depth)∧(Kd L)[i*13+2]? =some (.int .i64 (hg L i).low)∧(Kd L)[i*13+3]? =some (.int .i64 (hg L i).high)∧(Kd L)[i*13+4]? =some (.int .i64 (hg L i).length)∧(Kd L)[i*13+5]? =some (.slice (hg L i).la (hg L i).lines.length (hg L i).lc)∧(Kd L)[i*13+6]? =some (.int .i64 (hg L i).pipe)∧(Kd L)[i*13+7]? =some (.int .i64 (hg L i).arbor)∧(Kd L)[i*13+8]? =some (.int .i64 (hg L i).purchase)∧(Kd L)[i*13+9]? =some (.int .i64 (hg L i).most)∧(Kd L)[i*13+10]? =some (.int .i64 (hg L i).brake)∧(Kd L)[i*13+11]? =some (.slice (hg L i).ia (hg L i).items.length (hg L i).ic)∧(Kd L)[i*13+12]? =some (.slice (hg L i).ba (hg L i).bricks.length (hg L i).bc):=by
 induction L generalizing i with
 | nil=>simp at hi
 | cons x r ih=>
  match i with
  | 0=>exact⟨rfl,rfl,rfl,rfl,rfl,rfl,rfl,rfl,rfl,rfl,rfl,rfl,rfl⟩
  | i+1=>
   have:=ih i (by simpa using hi);have e:Kd (x::r)=.string x.name::.int .i64 x.depth::.int .i64 x.low::.int .i64 x.high::.int .i64 x.length::.slice x.la x.lines.length x.lc::.int .i64 x.pipe::.int .i64 x.arbor::.int .i64 x.purchase::.int .i64 x.most::.int .i64 x.brake::.slice x.ia x.items.length x.ic::.slice x.ba x.bricks.length x.bc::Kd r:=rfl;rw[e,show(i+1)*13=i*13+1+1+1+1+1+1+1+1+1+1+1+1+1 by omega]
   simpa[hg]using this
def Es(n₀:Nat)(w:World)(a:Option Addr)(L:List (Ds)):Prop:=
 0<L.length→∃b off,a=some ⟨b,off,none⟩∧b<n₀∧∀i,i<L.length→w.cell? ⟨b,off+i*13,none⟩=some (.string (hg L i).name)∧w.cell? ⟨b,off+i*13+1,none⟩=some (.int .i64 (hg L i).depth)∧w.cell? ⟨b,off+i*13+2,none⟩=some (.int .i64 (hg L i).low)∧w.cell? ⟨b,off+i*13+3,none⟩=some (.int .i64 (hg L i).high)∧w.cell? ⟨b,off+i*13+4,none⟩=some (.int .i64 (hg L i).length)∧w.cell? ⟨b,off+i*13+5,none⟩=some (.slice (hg L i).la (hg L i).lines.length (hg L i).lc)∧w.cell? ⟨b,off+i*13+6,none⟩=some (.int .i64 (hg L i).pipe)∧w.cell? ⟨b,off+i*13+7,none⟩=some (.int .i64 (hg L i).arbor)∧w.cell? ⟨b,off+i*13+8,none⟩=some (.int .i64 (hg L i).purchase)∧w.cell? ⟨b,off+i*13+9,none⟩=some (.int .i64 (hg L i).most)∧w.cell? ⟨b,off+i*13+10,none⟩=some (.int .i64 (hg L i).brake)∧w.cell? ⟨b,off+i*13+11,none⟩=some (.slice (hg L i).ia (hg L i).items.length (hg L i).ic)∧w.cell? ⟨b,off+i*13+12,none⟩=some (.slice (hg L i).ba (hg L i).bricks.length (hg L i).bc)
theorem Es.below{n₀:Nat}{w w':World}{a:Option Addr}{L:List (Ds)}(h:Es n₀ w a L)(hb:Below n₀ w w'):Es n₀ w' a L:=fun hl=>by
 obtain⟨b,off,rfl,hlt,hc⟩:=h hl;refine⟨b,off,rfl,hlt,fun i hi=>?_⟩;obtain⟨c0,c1,c2,c3,c4,c5,c6,c7,c8,c9,c10,c11,c12⟩:=hc i hi;exact⟨ct hb c0 hlt,ct hb c1 hlt,ct hb c2 hlt,ct hb c3 hlt,ct hb c4 hlt,ct hb c5 hlt,ct hb c6 hlt,ct hb c7 hlt,ct hb c8 hlt,ct hb c9 hlt,ct hb c10 hlt,ct hb c11 hlt,ct hb c12 hlt⟩
theorem Es.mono{n₀ n₁:Nat}{w:World}{a:Option Addr}{L:List (Ds)}(h:Es n₀ w a L)(hn:n₀≤n₁):Es n₁ w a L:=fun hl=>by
 obtain⟨b,off,rfl,hlt,hc⟩:=h hl;exact⟨b,off,rfl,by omega,hc⟩
theorem Es.grow{w w':World}{a:Option Addr}{L:List (Ds)}(h:Es w.heap.size w a L)(hb:Below w.heap.size w w'):Es w'.heap.size w' a L:=(h.below hb).mono hb.size
theorem Es.nil{n₀:Nat}{w:World}{a:Option Addr}:Es n₀ w a []:=fun h=>absurd h (Nat.not_lt_zero _)
theorem Es.take{n₀:Nat}{w:World}{a:Option Addr}{L:List (Ds)}(h:Es n₀ w a L)(n:Nat):Es n₀ w a (L.take n):=fun hl=>by
 have hl':0<L.length:=by rw[List.length_take]at hl;omega
 obtain⟨b,off,rfl,hlt,hc⟩:=h hl';refine⟨b,off,rfl,hlt,fun i hi=>?_⟩;rw[List.length_take]at hi;have e:hg (L.take n) i=hg L i:=by unfold hg;rw[List.getElem?_take,if_pos (by omega)]
 rw[e];exact hc i (by omega)
def Vl(g:Nat)(cb:Array Value)(n₀:Nat)(w:World)(p:Ds→Bool):Prop:=
 ∀(W:World) (r:Ds),Below n₀ w W→Calls Tryz.prog g (#[AVr r]++cb) W fun e w'=>e=.returned (.bool (p r))∧Below W.heap.size W w'
def Ga(L:List (Ds))(p:Ds→Bool):Int:=match (List.range L.length).find? (fun i=>p (hg L i))with
 | some i=>i
 | none=>-1
theorem Mb(L:List (Ds))(p:Ds→Bool)(k:Nat)(hk:k<L.length)(h:p (hg L k)=true)(hn:∀j,j<k→p (hg L j)=false):Ga L p=k:=by
 unfold Ga
 have:(List.range L.length).find? (fun i=>p (hg L i))=some k:=by
  rw[List.find?_eq_some_iff_getElem];refine⟨by simpa using h,k,by simpa using hk,by simp,fun j hj=>?_⟩
  simpa using hn j hj
 rw[this]
theorem Kz(L:List (Ds))(p:Ds→Bool)(hn:∀j,j<L.length→p (hg L j)=false):Ga L p=-1:=by
 unfold Ga
 have:(List.range L.length).find? (fun i=>p (hg L i))=none:=by
  rw[List.find?_eq_none];intro x hx
  simpa using hn x (by simpa using hx)
 rw[this]
theorem Jz(L:List (Ds))(p:Ds→Bool):(Ga L p=-1∧∀j,j<L.length→p (hg L j)=false)∨∃k:Nat,k<L.length∧Ga L p=k∧p (hg L k)=true∧∀j,j<k→p (hg L j)=false:=by
 have main:∀n,n≤L.length→(∀j,j<n→p (hg L j)=false)∨∃k,k<n∧p (hg L k)=true∧∀j,j<k→p (hg L j)=false:=by
  intro n
  induction n with
  | zero=>exact fun _=>.inl fun j hj=>absurd hj (Nat.not_lt_zero _)
  | succ n ih=>
   intro hn;rcases ih (by omega)with h | ⟨k,hk,h1,h2⟩
   ·cases e:p (hg L n)
    ·refine .inl fun j hj=>?_
     rcases Nat.lt_or_ge j n with l | l
     ·exact h j l
     ·obtain rfl:j=n:=by omega
      exact e
    ·exact .inr ⟨n,by omega,e,h⟩
   ·exact .inr ⟨k,by omega,h1,h2⟩
 rcases main L.length nr with h | ⟨k,hk,h1,h2⟩
 ·exact .inl ⟨Kz L p h,h⟩
 ·exact .inr ⟨k,hk,Mb L p k hk h1 h2,h1,h2⟩
theorem Ly(a:Option Addr)(L:List (Ds))(cap n₀ g:Nat)(cb:Array Value)(p:Ds→Bool)(w:World)(eg:∀args w,(callFunc g args).run Tryz.prog w=.ok (.enter g args) w)
  (hl:L.length≤1100) (hn₀:n₀≤w.heap.size) (hI:Es n₀ w a L) (hp:Vl g cb n₀ w p):
  Calls Tryz.prog 45 #[.slice a L.length cap,.func (.func g) #[] cb] w fun e w'=>e=.returned (.int .i64 (Ga L p))∧Below w.heap.size w w':=by
 have HI:=lh hI;clear hI;have HP:=lh hp;clear hp
 go_enter Tryz.func45,Tryz.ntmps45
 go_wp2
 go_loopw [8] (fun i wr=>∃k:Nat,k≤L.length∧i=.int .i64 k∧Below w.heap.size w wr∧Hid (∀j,j<k→p (hg L j)=false)) (fun i _=>L.length-(intOf i).toNat)
 case atStart=>exact⟨0,nz,rfl,br,lh (fun _ h=>absurd h (Nat.not_lt_zero _))⟩
 case round=>
  obtain⟨k,hk,rfl,hB,HA⟩:=hrel
  by_cases hlt:k<L.length
  ·obtain⟨b,off,rfl,hb,hc⟩:=HI.out (by omega)
   obtain⟨c0,c1,c2,c3,c4,c5,c6,c7,c8,c9,c10,c11,c12⟩:=hc k hlt;have d0:=(ct hB c0 (show b<w.heap.size by omega));have d1:=(ct hB c1 (show b<w.heap.size by omega));have d2:=(ct hB c2 (show b<w.heap.size by omega));have d3:=(ct hB c3 (show b<w.heap.size by omega));have d4:=(ct hB c4 (show b<w.heap.size by omega));have d5:=(ct hB c5 (show b<w.heap.size by omega));have d6:=(ct hB c6 (show b<w.heap.size by omega));have d7:=(ct hB c7 (show b<w.heap.size by omega));have d8:=(ct hB c8 (show b<w.heap.size by omega));have d9:=(ct hB c9 (show b<w.heap.size by omega));have d10:=(ct hB c10 (show b<w.heap.size by omega));have d11:=(ct hB c11 (show b<w.heap.size by omega));have d12:=(ct hB c12 (show b<w.heap.size by omega));clear c0 c1 c2 c3 c4 c5 c6 c7 c8 c9 c10 c11 c12 hc;have HC:=lh (show Calls Tryz.prog g (#[.agg #[.string (hg L k).name,.int .i64 (hg L k).depth,.int .i64 (hg L k).low,.int .i64 (hg L k).high,.int .i64 (hg L k).length,.slice (hg L k).la (hg L k).lines.length (hg L k).lc,.int .i64 (hg L k).pipe,.int .i64 (hg L k).arbor,.int .i64 (hg L k).purchase,.int .i64 (hg L k).most,.int .i64 (hg L k).brake,.slice (hg L k).ia (hg L k).items.length (hg L k).ic,.slice (hg L k).ba (hg L k).bricks.length (hg L k).bc]]++cb) wr _ from HP.out wr (hg L k) (hB.mono hn₀));obtain⟨bv,hbv⟩:=nm (p (hg L k));rw[hbv]at HC
   cases bv
   ·have HB:Hid (∀j,j<k+1→p (hg L j)=false):=lh fun j hj=>by
     rcases Nat.lt_or_ge j k with l | l
     ·exact HA.out j l
     ·obtain rfl:j=k:=by omega
      exact hbv
    clear hbv
    go_wp2_with (go_fit HC.out;rintro e w1 ⟨rfl,hb1⟩)
    go_roundw
    case rel=>exact⟨k+1,by omega,by go_num,hB.trans (hb1.mono hB.size),HB⟩
    case measure=>simp[intOf];omega
   ·have H:=lh (Mb L p k hlt hbv HA.out)
    clear hbv
    go_wp2_with (go_fit HC.out;rintro e w1 ⟨rfl,hb1⟩)
    go_ret;exact⟨Cu H.out.symm,hB.trans (hb1.mono hB.size)⟩
  ·obtain rfl:k=L.length:=by omega
   have H:=lh (Kz L p HA.out)
   go_wp2
   go_ret;exact⟨Cu H.out.symm,hB⟩
end
section
open Go.RowKit Go.Shelf
structure Ae where
 name:ByteArray
 height:Int
 sa:Option Addr
 sets:List Ds
 sc:Nat
 ra:Option Addr
 roofs:List Cz
 rc:Nat
def Ld(x:Cz):Prop:=Ao x.name=true∧0≤x.lo∧x.lo≤x.hi∧x.hi≤1048576∧0≤x.most∧x.most≤67108864
instance(x:Cz):Decidable (Ld x):=by unfold Ld;infer_instance
def Lg(L:List Cz)(k:Nat):Prop:=Ld (rg L k)∧∀j,j<k→(rg L j).name≠(rg L k).name
def Nf(L:List Cz):Prop:=L.length≤20∧∀k,k<L.length→Lg L k
def Hc(h:Ae)(k:Nat):Prop:=setB (hg h.sets k)=true∧(hg h.sets k).high≤h.height∧∀j,j<k→(hg h.sets j).name≠(hg h.sets k).name
def AAr(h:Ae):Prop:=Ao h.name=true∧1≤h.height∧h.height≤1048576∧h.sets.length≤60∧Nf h.roofs∧∀k,k<h.sets.length→Hc h k
noncomputable def Hx(L:List Cz):Bool:=@decide (Nf L) (Classical.propDecidable _)
noncomputable def Dz(h:Ae):Bool:=@decide (AAr h) (Classical.propDecidable _)
theorem Fs{L:List Cz}:Hx L=true↔Nf L:=by exact @decide_eq_true_iff (Nf L) (Classical.propDecidable _)
theorem Hw{h:Ae}:Dz h=true↔AAr h:=by exact @decide_eq_true_iff (AAr h) (Classical.propDecidable _)
theorem AEr{L:List Cz}{k:Nat}(hk:k<L.length)(h:¬Lg L k):Hx L=false:=by
 cases e:Hx L
 ·rfl
 ·exact absurd ((Fs.1 e).2 k hk) h
theorem ADp{h:Ae}{k:Nat}(hk:k<h.sets.length)(n:¬Hc h k):Dz h=false:=by
 cases e:Dz h
 ·rfl
 ·exact absurd ((Hw.1 e).2.2.2.2.2 k hk) n
def Cv(L:List Ds)(s:ByteArray):Int:=Ga L (fun y=>decide (y.name=s))
theorem AIj{L:List Ds}{k:Nat}(hk:k<L.length):Cv L (hg L k).name=(k:Int)↔∀j,j<k→(hg L j).name≠(hg L k).name:=by
 unfold Cv;rcases Jz L (fun y=>decide (y.name=(hg L k).name))with ⟨e,n⟩ | ⟨i,hi,e,hn,ha⟩
 ·exact absurd (n k hk) (by simp)
 ·have hn':(hg L i).name=(hg L k).name:=by simpa using hn
  have ha':∀j,j<i→(hg L j).name≠(hg L k).name:=fun j hj=>by simpa using ha j hj
  constructor
  ·intro h
   obtain rfl:i=k:=by omega
   exact ha'
  ·intro h
   rw[e];rcases Nat.lt_trichotomy i k with l | l | l
   ·exact absurd hn' (h i l)
   ·rw[l]
   ·exact absurd rfl (ha' k l)
abbrev Ex(h:Ae):Obj:=.cells #[.string h.name,.int .i64 h.height,.slice h.sa h.sets.length h.sc,.slice h.ra h.roofs.length h.rc] 25
structure HouseIn0(w:World)(h:Ae):Prop where
 sets:Es w.heap.size w h.sa h.sets
 roofs:Gj w.heap.size w h.ra h.roofs
 each:∀i,i<h.sets.length→SetIn0 w (hg h.sets i)
 scap:h.sets.length≤h.sc
 rcap:h.roofs.length≤h.rc
 snil:h.sa=none→h.sc=0
 rnil:h.ra=none→h.rc=0
theorem HouseIn0.grow{w w':World}{h:Ae}(x:HouseIn0 w h)(hb:Below w.heap.size w w'):HouseIn0 w' h:=
 ⟨x.sets.grow hb,x.roofs.grow hb,fun i hi=>(x.each i hi).grow hb,x.scap,x.rcap,x.snil,x.rnil⟩
structure Ax(w:World)(h:Ae):Prop extends HouseIn0 w h where
 all:∀i,i<h.sets.length→Ls w (hg h.sets i)
 slen:h.sets.length≤1000
 rlen:h.roofs.length≤1000
theorem Ax.grow{w w':World}{h:Ae}(x:Ax w h)(hb:Below w.heap.size w w'):Ax w' h:=
 ⟨x.toHouseIn0.grow hb,fun i hi=>(x.all i hi).grow hb,x.slen,x.rlen⟩
def Au(w:World)(b:Nat)(h:Ae):Prop:=w.cell? ⟨b,0,none⟩=some (.string h.name)∧w.cell? ⟨b,1,none⟩=some (.int .i64 h.height)∧w.cell? ⟨b,2,none⟩=some (.slice h.sa h.sets.length h.sc)∧w.cell? ⟨b,3,none⟩=some (.slice h.ra h.roofs.length h.rc)
theorem Au.carry{w w':World}{b:Nat}{h:Ae}(x:Au w b h)(hb:Below w.heap.size w w'):Au w' b h:=by
 have hlt:b<w.heap.size:=wl x.1;obtain⟨a0,a1,a2,a3⟩:=x;exact⟨ct hb a0 hlt,ct hb a1 hlt,ct hb a2 hlt,ct hb a3 hlt⟩
theorem Au.new(w:World)(h:Ae)(t:TypeId):Au (w.alloc (.cells #[.string h.name,.int .i64 h.height,.slice h.sa h.sets.length h.sc,.slice h.ra h.roofs.length h.rc] t)) w.heap.size h:=by
 unfold Au
 simp
def Jx(w:World)(B:Nat)(m:Mv):Prop:=w.cell? ⟨B,0,none⟩=some (.string m.name)∧w.cell? ⟨B,1,none⟩=some (.int .i64 m.to)∧w.cell? ⟨B,2,none⟩=some (.int .i64 m.spd)∧w.cell? ⟨B,3,none⟩=some (.int .i64 m.rise)∧w.cell? ⟨B,4,none⟩=some (.int .i64 m.fall)
theorem Jx.carry{W w:World}{B:Nat}{m:Mv}(c:Jx W B m)(h:Below W.heap.size W w):Jx w B m:=by
 have hz:B<W.heap.size:=wl c.1;exact⟨ct h c.1 hz,ct h c.2.1 hz,ct h c.2.2.1 hz,ct h c.2.2.2.1 hz,ct h c.2.2.2.2 hz⟩
theorem Jx.new(W:World)(m:Mv)(t:TypeId):Jx (W.alloc (.cells #[.string m.name,.int .i64 m.to,.int .i64 m.spd,.int .i64 m.rise,.int .i64 m.fall] t)) W.heap.size m:=⟨by simp,by simp,by simp,by simp,by simp⟩
end
section
open Go.RowKit Go.Shelf
attribute [local go_sem] Oper.semAt_some
/-! ### Slices of api.Move -/

def mg(L:List (Mv))(i:Nat):Mv:=(L[i]?).getD ⟨⟨#[]⟩,0,0,0,0⟩
theorem Yt(L:List (Mv))(i:Nat)(h:i<L.length):mg L i=L[i]:=by unfold mg;rw[List.getElem?_eq_getElem h];rfl
def AWc(r:Mv):Value:=.agg #[.string r.name,.int .i64 r.to,.int .i64 r.spd,.int .i64 r.rise,.int .i64 r.fall]
def Um(L:List (Mv)):List Value:=L.flatMap fun r=>[.string r.name,.int .i64 r.to,.int .i64 r.spd,.int .i64 r.rise,.int .i64 r.fall]
theorem APg(L:List (Mv))(i:Nat)(hi:i<L.length):(Um L)[i*5]? =some (.string (mg L i).name)∧(Um L)[i*5+1]? =some (.int .i64 (mg L i).to)∧(Um L)[i*5+2]? =some (.int .i64 (mg L i).spd)∧(Um L)[i*5+3]? =some (.int .i64 (mg L i).rise)∧(Um L)[i*5+4]? =some (.int .i64 (mg L i).fall):=by
 induction L generalizing i with
 | nil=>simp at hi
 | cons x r ih=>
  match i with
  | 0=>exact⟨rfl,rfl,rfl,rfl,rfl⟩
  | i+1=>
   have:=ih i (by simpa using hi);have e:Um (x::r)=.string x.name::.int .i64 x.to::.int .i64 x.spd::.int .i64 x.rise::.int .i64 x.fall::Um r:=rfl;rw[e,show(i+1)*5=i*5+1+1+1+1+1 by omega]
   simpa[mg]using this
def Ei(n₀:Nat)(w:World)(a:Option Addr)(L:List (Mv)):Prop:=
 0<L.length→∃b off,a=some ⟨b,off,none⟩∧b<n₀∧∀i,i<L.length→w.cell? ⟨b,off+i*5,none⟩=some (.string (mg L i).name)∧w.cell? ⟨b,off+i*5+1,none⟩=some (.int .i64 (mg L i).to)∧w.cell? ⟨b,off+i*5+2,none⟩=some (.int .i64 (mg L i).spd)∧w.cell? ⟨b,off+i*5+3,none⟩=some (.int .i64 (mg L i).rise)∧w.cell? ⟨b,off+i*5+4,none⟩=some (.int .i64 (mg L i).fall)
theorem Ei.below{n₀:Nat}{w w':World}{a:Option Addr}{L:List (Mv)}(h:Ei n₀ w a L)(hb:Below n₀ w w'):Ei n₀ w' a L:=fun hl=>by
 obtain⟨b,off,rfl,hlt,hc⟩:=h hl;refine⟨b,off,rfl,hlt,fun i hi=>?_⟩;obtain⟨c0,c1,c2,c3,c4⟩:=hc i hi;exact⟨ct hb c0 hlt,ct hb c1 hlt,ct hb c2 hlt,ct hb c3 hlt,ct hb c4 hlt⟩
theorem Ei.mono{n₀ n₁:Nat}{w:World}{a:Option Addr}{L:List (Mv)}(h:Ei n₀ w a L)(hn:n₀≤n₁):Ei n₁ w a L:=fun hl=>by
 obtain⟨b,off,rfl,hlt,hc⟩:=h hl;exact⟨b,off,rfl,by omega,hc⟩
theorem Ei.grow{w w':World}{a:Option Addr}{L:List (Mv)}(h:Ei w.heap.size w a L)(hb:Below w.heap.size w w'):Ei w'.heap.size w' a L:=(h.below hb).mono hb.size
theorem Ei.nil{n₀:Nat}{w:World}{a:Option Addr}:Ei n₀ w a []:=fun h=>absurd h (Nat.not_lt_zero _)
theorem Ei.take{n₀:Nat}{w:World}{a:Option Addr}{L:List (Mv)}(h:Ei n₀ w a L)(n:Nat):Ei n₀ w a (L.take n):=fun hl=>by
 have hl':0<L.length:=by rw[List.length_take]at hl;omega
 obtain⟨b,off,rfl,hlt,hc⟩:=h hl';refine⟨b,off,rfl,hlt,fun i hi=>?_⟩;rw[List.length_take]at hi;have e:mg (L.take n) i=mg L i:=by unfold mg;rw[List.getElem?_take,if_pos (by omega)]
 rw[e];exact hc i (by omega)
def Vp(g:Nat)(cb:Array Value)(n₀:Nat)(w:World)(p:Mv→Bool):Prop:=
 ∀(W:World) (r:Mv),Below n₀ w W→Calls Tryz.prog g (#[AWc r]++cb) W fun e w'=>e=.returned (.bool (p r))∧Below W.heap.size W w'
def Gw(L:List (Mv))(p:Mv→Bool):Int:=match (List.range L.length).find? (fun i=>p (mg L i))with
 | some i=>i
 | none=>-1
theorem Ql(L:List (Mv))(p:Mv→Bool)(k:Nat)(hk:k<L.length)(h:p (mg L k)=true)(hn:∀j,j<k→p (mg L j)=false):Gw L p=k:=by
 unfold Gw
 have:(List.range L.length).find? (fun i=>p (mg L i))=some k:=by
  rw[List.find?_eq_some_iff_getElem];refine⟨by simpa using h,k,by simpa using hk,by simp,fun j hj=>?_⟩
  simpa using hn j hj
 rw[this]
theorem Ox(L:List (Mv))(p:Mv→Bool)(hn:∀j,j<L.length→p (mg L j)=false):Gw L p=-1:=by
 unfold Gw
 have:(List.range L.length).find? (fun i=>p (mg L i))=none:=by
  rw[List.find?_eq_none];intro x hx
  simpa using hn x (by simpa using hx)
 rw[this]
theorem Jy(L:List (Mv))(p:Mv→Bool):(Gw L p=-1∧∀j,j<L.length→p (mg L j)=false)∨∃k:Nat,k<L.length∧Gw L p=k∧p (mg L k)=true∧∀j,j<k→p (mg L j)=false:=by
 have main:∀n,n≤L.length→(∀j,j<n→p (mg L j)=false)∨∃k,k<n∧p (mg L k)=true∧∀j,j<k→p (mg L j)=false:=by
  intro n
  induction n with
  | zero=>exact fun _=>.inl fun j hj=>absurd hj (Nat.not_lt_zero _)
  | succ n ih=>
   intro hn;rcases ih (by omega)with h | ⟨k,hk,h1,h2⟩
   ·cases e:p (mg L n)
    ·refine .inl fun j hj=>?_
     rcases Nat.lt_or_ge j n with l | l
     ·exact h j l
     ·obtain rfl:j=n:=by omega
      exact e
    ·exact .inr ⟨n,by omega,e,h⟩
   ·exact .inr ⟨k,by omega,h1,h2⟩
 rcases main L.length nr with h | ⟨k,hk,h1,h2⟩
 ·exact .inl ⟨Ox L p h,h⟩
 ·exact .inr ⟨k,hk,Ql L p k hk h1 h2,h1,h2⟩
def Pk(L:List (Mv))(p:Mv→Bool):Bool:=decide (0≤Gw L p)
theorem AHs(L:List (Mv))(p:Mv→Bool):Pk L p=L.any p:=by
 unfold Pk;rw[Bool.eq_iff_iff,List.any_eq_true,decide_eq_true_eq];rcases Jy L p with ⟨h,h2⟩ | ⟨k,hk,h,h1,_⟩
 ·rw[h]
  refine⟨fun h=>by omega,fun ⟨x,hx,hp⟩=>?_⟩;obtain⟨j,hj,e⟩:=List.getElem_of_mem hx;have:=h2 j hj;rw[Yt L j hj,e,hp]at this
  cases this
 ·rw[h]
  exact⟨fun _=>⟨_,by rw[Yt L k hk];exact List.getElem_mem hk,h1⟩,fun _=>by omega⟩

theorem Qj(a:Option Addr)(L:List (Mv))(cap n₀ g:Nat)(cb:Array Value)(p:Mv→Bool)(w:World)(eg:∀args w,(callFunc g args).run Tryz.prog w=.ok (.enter g args) w)
  (hl:L.length≤1100) (hn₀:n₀≤w.heap.size) (hI:Ei n₀ w a L) (hp:Vp g cb n₀ w p):
  Calls Tryz.prog 117 #[.slice a L.length cap,.func (.func g) #[] cb] w fun e w'=>e=.returned (.int .i64 (Gw L p))∧Below w.heap.size w w':=by
 have HI:=lh hI;clear hI;have HP:=lh hp;clear hp
 go_enter Tryz.func117,Tryz.ntmps117
 go_wp2
 go_loopw [8] (fun i wr=>∃k:Nat,k≤L.length∧i=.int .i64 k∧Below w.heap.size w wr∧Hid (∀j,j<k→p (mg L j)=false)) (fun i _=>L.length-(intOf i).toNat)
 case atStart=>exact⟨0,nz,rfl,br,lh (fun _ h=>absurd h (Nat.not_lt_zero _))⟩
 case round=>
  obtain⟨k,hk,rfl,hB,HA⟩:=hrel
  by_cases hlt:k<L.length
  ·obtain⟨b,off,rfl,hb,hc⟩:=HI.out (by omega)
   obtain⟨c0,c1,c2,c3,c4⟩:=hc k hlt;have d0:=(ct hB c0 (show b<w.heap.size by omega));have d1:=(ct hB c1 (show b<w.heap.size by omega));have d2:=(ct hB c2 (show b<w.heap.size by omega));have d3:=(ct hB c3 (show b<w.heap.size by omega));have d4:=(ct hB c4 (show b<w.heap.size by omega));clear c0 c1 c2 c3 c4 hc;have HC:=lh (show Calls Tryz.prog g (#[.agg #[.string (mg L k).name,.int .i64 (mg L k).to,.int .i64 (mg L k).spd,.int .i64 (mg L k).rise,.int .i64 (mg L k).fall]]++cb) wr _ from HP.out wr (mg L k) (hB.mono hn₀));obtain⟨bv,hbv⟩:=nm (p (mg L k));rw[hbv]at HC
   cases bv
   ·have HB:Hid (∀j,j<k+1→p (mg L j)=false):=lh fun j hj=>by
     rcases Nat.lt_or_ge j k with l | l
     ·exact HA.out j l
     ·obtain rfl:j=k:=by omega
      exact hbv
    clear hbv
    go_wp2_with (go_fit HC.out;rintro e w1 ⟨rfl,hb1⟩)
    go_roundw
    case rel=>exact⟨k+1,by omega,by go_num,hB.trans (hb1.mono hB.size),HB⟩
    case measure=>simp[intOf];omega
   ·have H:=lh (Ql L p k hlt hbv HA.out)
    clear hbv
    go_wp2_with (go_fit HC.out;rintro e w1 ⟨rfl,hb1⟩)
    go_ret;exact⟨Cu H.out.symm,hB.trans (hb1.mono hB.size)⟩
  ·obtain rfl:k=L.length:=by omega
   have H:=lh (Ox L p HA.out)
   go_wp2
   go_ret;exact⟨Cu H.out.symm,hB⟩

theorem Tg(a:Option Addr)(L:List (Mv))(cap n₀ g:Nat)(cb:Array Value)(p:Mv→Bool)(w:World)(eg:∀args w,(callFunc g args).run Tryz.prog w=.ok (.enter g args) w)
  (hl:L.length≤1100) (hn₀:n₀≤w.heap.size) (hI:Ei n₀ w a L) (hp:Vp g cb n₀ w p):
  Calls Tryz.prog 149 #[.slice a L.length cap,.func (.func g) #[] cb] w fun e w'=>e=.returned (.bool (Pk L p))∧Below w.heap.size w w':=by
 have HC:=lh (Qj a L cap n₀ g cb p w eg hl hn₀ hI hp);clear hI hp eg
 go_enter Tryz.func149,Tryz.ntmps149
 go_wp2_with (go_at_call 117;go_fit HC.out;rintro e w1 ⟨rfl,hb1⟩)
 go_ret;exact⟨rfl,hb1⟩

/-! ### Slices of api.Cue -/
structure An where
 name:ByteArray
 after:ByteArray
 link:Int
 delay:Int
 ma:Option Addr
 moves:List Mv
 mc:Nat
 crew:Int
 power:Int

def cg(L:List (An))(i:Nat):An:=(L[i]?).getD ⟨⟨#[]⟩,⟨#[]⟩,0,0,none,[],0,0,0⟩
theorem ATc(L:List (An))(i:Nat)(h:i<L.length):cg L i=L[i]:=by unfold cg;rw[List.getElem?_eq_getElem h];rfl
def AUm(r:An):Value:=.agg #[.string r.name,.string r.after,.int .i64 r.link,.int .i64 r.delay,.slice r.ma r.moves.length r.mc,.int .i64 r.crew,.int .i64 r.power]
def Qo(L:List (An)):List Value:=L.flatMap fun r=>[.string r.name,.string r.after,.int .i64 r.link,.int .i64 r.delay,.slice r.ma r.moves.length r.mc,.int .i64 r.crew,.int .i64 r.power]
theorem AOx(L:List (An))(i:Nat)(hi:i<L.length):(Qo L)[i*7]? =some (.string (cg L i).name)∧(Qo L)[i*7+1]? =some (.string (cg L i).after)∧(Qo L)[i*7+2]? =some (.int .i64 (cg L i).link)∧(Qo L)[i*7+3]? =some (.int .i64 (cg L i).delay)∧(Qo L)[i*7+4]? =some (.slice (cg L i).ma (cg L i).moves.length (cg L i).mc)∧(Qo L)[i*7+5]? =some (.int .i64 (cg L i).crew)∧(Qo L)[i*7+6]? =some (.int .i64 (cg L i).power):=by
 induction L generalizing i with
 | nil=>simp at hi
 | cons x r ih=>
  match i with
  | 0=>exact⟨rfl,rfl,rfl,rfl,rfl,rfl,rfl⟩
  | i+1=>
   have:=ih i (by simpa using hi);have e:Qo (x::r)=.string x.name::.string x.after::.int .i64 x.link::.int .i64 x.delay::.slice x.ma x.moves.length x.mc::.int .i64 x.crew::.int .i64 x.power::Qo r:=rfl;rw[e,show(i+1)*7=i*7+1+1+1+1+1+1+1 by omega]
   simpa[cg]using this
def Gs(n₀:Nat)(w:World)(a:Option Addr)(L:List (An)):Prop:=
 0<L.length→∃b off,a=some ⟨b,off,none⟩∧b<n₀∧∀i,i<L.length→w.cell? ⟨b,off+i*7,none⟩=some (.string (cg L i).name)∧w.cell? ⟨b,off+i*7+1,none⟩=some (.string (cg L i).after)∧w.cell? ⟨b,off+i*7+2,none⟩=some (.int .i64 (cg L i).link)∧w.cell? ⟨b,off+i*7+3,none⟩=some (.int .i64 (cg L i).delay)∧w.cell? ⟨b,off+i*7+4,none⟩=some (.slice (cg L i).ma (cg L i).moves.length (cg L i).mc)∧w.cell? ⟨b,off+i*7+5,none⟩=some (.int .i64 (cg L i).crew)∧w.cell? ⟨b,off+i*7+6,none⟩=some (.int .i64 (cg L i).power)
theorem Gs.below{n₀:Nat}{w w':World}{a:Option Addr}{L:List (An)}(h:Gs n₀ w a L)(hb:Below n₀ w w'):Gs n₀ w' a L:=fun hl=>by
 obtain⟨b,off,rfl,hlt,hc⟩:=h hl;refine⟨b,off,rfl,hlt,fun i hi=>?_⟩;obtain⟨c0,c1,c2,c3,c4,c5,c6⟩:=hc i hi;exact⟨ct hb c0 hlt,ct hb c1 hlt,ct hb c2 hlt,ct hb c3 hlt,ct hb c4 hlt,ct hb c5 hlt,ct hb c6 hlt⟩
theorem Gs.mono{n₀ n₁:Nat}{w:World}{a:Option Addr}{L:List (An)}(h:Gs n₀ w a L)(hn:n₀≤n₁):Gs n₁ w a L:=fun hl=>by
 obtain⟨b,off,rfl,hlt,hc⟩:=h hl;exact⟨b,off,rfl,by omega,hc⟩
theorem Gs.grow{w w':World}{a:Option Addr}{L:List (An)}(h:Gs w.heap.size w a L)(hb:Below w.heap.size w w'):Gs w'.heap.size w' a L:=(h.below hb).mono hb.size
theorem Gs.nil{n₀:Nat}{w:World}{a:Option Addr}:Gs n₀ w a []:=fun h=>absurd h (Nat.not_lt_zero _)
theorem Gs.take{n₀:Nat}{w:World}{a:Option Addr}{L:List (An)}(h:Gs n₀ w a L)(n:Nat):Gs n₀ w a (L.take n):=fun hl=>by
 have hl':0<L.length:=by rw[List.length_take]at hl;omega
 obtain⟨b,off,rfl,hlt,hc⟩:=h hl';refine⟨b,off,rfl,hlt,fun i hi=>?_⟩;rw[List.length_take]at hi;have e:cg (L.take n) i=cg L i:=by unfold cg;rw[List.getElem?_take,if_pos (by omega)]
 rw[e];exact hc i (by omega)
def APj(g:Nat)(cb:Array Value)(n₀:Nat)(w:World)(p:An→Bool):Prop:=
 ∀(W:World) (r:An),Below n₀ w W→Calls Tryz.prog g (#[AUm r]++cb) W fun e w'=>e=.returned (.bool (p r))∧Below W.heap.size W w'
def Gu(L:List (An))(p:An→Bool):Int:=match (List.range L.length).find? (fun i=>p (cg L i))with
 | some i=>i
 | none=>-1
theorem Jk(L:List (An))(p:An→Bool)(k:Nat)(hk:k<L.length)(h:p (cg L k)=true)(hn:∀j,j<k→p (cg L j)=false):Gu L p=k:=by
 unfold Gu
 have:(List.range L.length).find? (fun i=>p (cg L i))=some k:=by
  rw[List.find?_eq_some_iff_getElem];refine⟨by simpa using h,k,by simpa using hk,by simp,fun j hj=>?_⟩
  simpa using hn j hj
 rw[this]
theorem Iv(L:List (An))(p:An→Bool)(hn:∀j,j<L.length→p (cg L j)=false):Gu L p=-1:=by
 unfold Gu
 have:(List.range L.length).find? (fun i=>p (cg L i))=none:=by
  rw[List.find?_eq_none];intro x hx
  simpa using hn x (by simpa using hx)
 rw[this]
theorem Fw(L:List (An))(p:An→Bool):(Gu L p=-1∧∀j,j<L.length→p (cg L j)=false)∨∃k:Nat,k<L.length∧Gu L p=k∧p (cg L k)=true∧∀j,j<k→p (cg L j)=false:=by
 have main:∀n,n≤L.length→(∀j,j<n→p (cg L j)=false)∨∃k,k<n∧p (cg L k)=true∧∀j,j<k→p (cg L j)=false:=by
  intro n
  induction n with
  | zero=>exact fun _=>.inl fun j hj=>absurd hj (Nat.not_lt_zero _)
  | succ n ih=>
   intro hn;rcases ih (by omega)with h | ⟨k,hk,h1,h2⟩
   ·cases e:p (cg L n)
    ·refine .inl fun j hj=>?_
     rcases Nat.lt_or_ge j n with l | l
     ·exact h j l
     ·obtain rfl:j=n:=by omega
      exact e
    ·exact .inr ⟨n,by omega,e,h⟩
   ·exact .inr ⟨k,by omega,h1,h2⟩
 rcases main L.length nr with h | ⟨k,hk,h1,h2⟩
 ·exact .inl ⟨Iv L p h,h⟩
 ·exact .inr ⟨k,hk,Jk L p k hk h1 h2,h1,h2⟩
theorem Qf(a:Option Addr)(L:List (An))(cap n₀ g:Nat)(cb:Array Value)(p:An→Bool)(w:World)(eg:∀args w,(callFunc g args).run Tryz.prog w=.ok (.enter g args) w)
  (hl:L.length≤1100) (hn₀:n₀≤w.heap.size) (hI:Gs n₀ w a L) (hp:APj g cb n₀ w p):
  Calls Tryz.prog 65 #[.slice a L.length cap,.func (.func g) #[] cb] w fun e w'=>e=.returned (.int .i64 (Gu L p))∧Below w.heap.size w w':=by
 have HI:=lh hI;clear hI;have HP:=lh hp;clear hp
 go_enter Tryz.func65,Tryz.ntmps65
 go_wp2
 go_loopw [8] (fun i wr=>∃k:Nat,k≤L.length∧i=.int .i64 k∧Below w.heap.size w wr∧Hid (∀j,j<k→p (cg L j)=false)) (fun i _=>L.length-(intOf i).toNat)
 case atStart=>exact⟨0,nz,rfl,br,lh (fun _ h=>absurd h (Nat.not_lt_zero _))⟩
 case round=>
  obtain⟨k,hk,rfl,hB,HA⟩:=hrel
  by_cases hlt:k<L.length
  ·obtain⟨b,off,rfl,hb,hc⟩:=HI.out (by omega)
   obtain⟨c0,c1,c2,c3,c4,c5,c6⟩:=hc k hlt;have d0:=(ct hB c0 (show b<w.heap.size by omega));have d1:=(ct hB c1 (show b<w.heap.size by omega));have d2:=(ct hB c2 (show b<w.heap.size by omega));have d3:=(ct hB c3 (show b<w.heap.size by omega));have d4:=(ct hB c4 (show b<w.heap.size by omega));have d5:=(ct hB c5 (show b<w.heap.size by omega));have d6:=(ct hB c6 (show b<w.heap.size by omega));clear c0 c1 c2 c3 c4 c5 c6 hc;have HC:=lh (show Calls Tryz.prog g (#[.agg #[.string (cg L k).name,.string (cg L k).after,.int .i64 (cg L k).link,.int .i64 (cg L k).delay,.slice (cg L k).ma (cg L k).moves.length (cg L k).mc,.int .i64 (cg L k).crew,.int .i64 (cg L k).power]]++cb) wr _ from HP.out wr (cg L k) (hB.mono hn₀));obtain⟨bv,hbv⟩:=nm (p (cg L k));rw[hbv]at HC
   cases bv
   ·have HB:Hid (∀j,j<k+1→p (cg L j)=false):=lh fun j hj=>by
     rcases Nat.lt_or_ge j k with l | l
     ·exact HA.out j l
     ·obtain rfl:j=k:=by omega
      exact hbv
    clear hbv
    go_wp2_with (go_fit HC.out;rintro e w1 ⟨rfl,hb1⟩)
    go_roundw
    case rel=>exact⟨k+1,by omega,by go_num,hB.trans (hb1.mono hB.size),HB⟩
    case measure=>simp[intOf];omega
   ·have H:=lh (Jk L p k hlt hbv HA.out)
    clear hbv
    go_wp2_with (go_fit HC.out;rintro e w1 ⟨rfl,hb1⟩)
    go_ret;exact⟨Cu H.out.symm,hB.trans (hb1.mono hB.size)⟩
  ·obtain rfl:k=L.length:=by omega
   have H:=lh (Iv L p HA.out)
   go_wp2
   go_ret;exact⟨Cu H.out.symm,hB⟩

/-! ### Slices of [2]string -/

def pg(L:List (ByteArray×ByteArray))(i:Nat):ByteArray×ByteArray:=(L[i]?).getD (⟨#[]⟩,⟨#[]⟩)
theorem Yy(L:List (ByteArray×ByteArray))(i:Nat)(h:i<L.length):pg L i=L[i]:=by unfold pg;rw[List.getElem?_eq_getElem h];rfl
def ANq(r:ByteArray×ByteArray):Value:=.agg #[.string r.1,.string r.2]
def ADv(L:List (ByteArray×ByteArray)):List Value:=L.flatMap fun r=>[.string r.1,.string r.2]
theorem APt(L:List (ByteArray×ByteArray))(i:Nat)(hi:i<L.length):(ADv L)[i*2]? =some (.string (pg L i).1)∧(ADv L)[i*2+1]? =some (.string (pg L i).2):=by
 induction L generalizing i with
 | nil=>simp at hi
 | cons x r ih=>
  match i with
  | 0=>exact⟨rfl,rfl⟩
  | i+1=>
   have:=ih i (by simpa using hi);have e:ADv (x::r)=.string x.1::.string x.2::ADv r:=rfl;rw[e,show(i+1)*2=i*2+1+1 by omega]
   simpa[pg]using this
def Hp(n₀:Nat)(w:World)(a:Option Addr)(L:List (ByteArray×ByteArray)):Prop:=
 0<L.length→∃b off,a=some ⟨b,off,none⟩∧b<n₀∧∀i,i<L.length→w.cell? ⟨b,off+i*2,none⟩=some (.string (pg L i).1)∧w.cell? ⟨b,off+i*2+1,none⟩=some (.string (pg L i).2)
theorem Hp.below{n₀:Nat}{w w':World}{a:Option Addr}{L:List (ByteArray×ByteArray)}(h:Hp n₀ w a L)(hb:Below n₀ w w'):Hp n₀ w' a L:=fun hl=>by
 obtain⟨b,off,rfl,hlt,hc⟩:=h hl;refine⟨b,off,rfl,hlt,fun i hi=>?_⟩;obtain⟨c0,c1⟩:=hc i hi;exact⟨ct hb c0 hlt,ct hb c1 hlt⟩
theorem Hp.mono{n₀ n₁:Nat}{w:World}{a:Option Addr}{L:List (ByteArray×ByteArray)}(h:Hp n₀ w a L)(hn:n₀≤n₁):Hp n₁ w a L:=fun hl=>by
 obtain⟨b,off,rfl,hlt,hc⟩:=h hl;exact⟨b,off,rfl,by omega,hc⟩
theorem Hp.grow{w w':World}{a:Option Addr}{L:List (ByteArray×ByteArray)}(h:Hp w.heap.size w a L)(hb:Below w.heap.size w w'):Hp w'.heap.size w' a L:=(h.below hb).mono hb.size
theorem Hp.nil{n₀:Nat}{w:World}{a:Option Addr}:Hp n₀ w a []:=fun h=>absurd h (Nat.not_lt_zero _)
theorem Hp.take{n₀:Nat}{w:World}{a:Option Addr}{L:List (ByteArray×ByteArray)}(h:Hp n₀ w a L)(n:Nat):Hp n₀ w a (L.take n):=fun hl=>by
 have hl':0<L.length:=by rw[List.length_take]at hl;omega
 obtain⟨b,off,rfl,hlt,hc⟩:=h hl';refine⟨b,off,rfl,hlt,fun i hi=>?_⟩;rw[List.length_take]at hi;have e:pg (L.take n) i=pg L i:=by unfold pg;rw[List.getElem?_take,if_pos (by omega)]
 rw[e];exact hc i (by omega)
def AOo(g:Nat)(cb:Array Value)(n₀:Nat)(w:World)(p:ByteArray×ByteArray→Bool):Prop:=
 ∀(W:World) (r:ByteArray×ByteArray),Below n₀ w W→Calls Tryz.prog g (#[ANq r]++cb) W fun e w'=>e=.returned (.bool (p r))∧Below W.heap.size W w'
def Gh(L:List (ByteArray×ByteArray))(p:ByteArray×ByteArray→Bool):Int:=match (List.range L.length).find? (fun i=>p (pg L i))with
 | some i=>i
 | none=>-1
theorem Og(L:List (ByteArray×ByteArray))(p:ByteArray×ByteArray→Bool)(k:Nat)(hk:k<L.length)(h:p (pg L k)=true)(hn:∀j,j<k→p (pg L j)=false):Gh L p=k:=by
 unfold Gh
 have:(List.range L.length).find? (fun i=>p (pg L i))=some k:=by
  rw[List.find?_eq_some_iff_getElem];refine⟨by simpa using h,k,by simpa using hk,by simp,fun j hj=>?_⟩
  simpa using hn j hj
 rw[this]
theorem Ob(L:List (ByteArray×ByteArray))(p:ByteArray×ByteArray→Bool)(hn:∀j,j<L.length→p (pg L j)=false):Gh L p=-1:=by
 unfold Gh
 have:(List.range L.length).find? (fun i=>p (pg L i))=none:=by
  rw[List.find?_eq_none];intro x hx
  simpa using hn x (by simpa using hx)
 rw[this]
theorem Ue(L:List (ByteArray×ByteArray))(p:ByteArray×ByteArray→Bool):(Gh L p=-1∧∀j,j<L.length→p (pg L j)=false)∨∃k:Nat,k<L.length∧Gh L p=k∧p (pg L k)=true∧∀j,j<k→p (pg L j)=false:=by
 have main:∀n,n≤L.length→(∀j,j<n→p (pg L j)=false)∨∃k,k<n∧p (pg L k)=true∧∀j,j<k→p (pg L j)=false:=by
  intro n
  induction n with
  | zero=>exact fun _=>.inl fun j hj=>absurd hj (Nat.not_lt_zero _)
  | succ n ih=>
   intro hn;rcases ih (by omega)with h | ⟨k,hk,h1,h2⟩
   ·cases e:p (pg L n)
    ·refine .inl fun j hj=>?_
     rcases Nat.lt_or_ge j n with l | l
     ·exact h j l
     ·obtain rfl:j=n:=by omega
      exact e
    ·exact .inr ⟨n,by omega,e,h⟩
   ·exact .inr ⟨k,by omega,h1,h2⟩
 rcases main L.length nr with h | ⟨k,hk,h1,h2⟩
 ·exact .inl ⟨Ob L p h,h⟩
 ·exact .inr ⟨k,hk,Og L p k hk h1 h2,h1,h2⟩
def Kw(L:List (ByteArray×ByteArray))(p:ByteArray×ByteArray→Bool):Bool:=decide (0≤Gh L p)
theorem ABx(L:List (ByteArray×ByteArray))(p:ByteArray×ByteArray→Bool):Kw L p=L.any p:=by
 unfold Kw;rw[Bool.eq_iff_iff,List.any_eq_true,decide_eq_true_eq];rcases Ue L p with ⟨h,h2⟩ | ⟨k,hk,h,h1,_⟩
 ·rw[h]
  refine⟨fun h=>by omega,fun ⟨x,hx,hp⟩=>?_⟩;obtain⟨j,hj,e⟩:=List.getElem_of_mem hx;have:=h2 j hj;rw[Yy L j hj,e,hp]at this
  cases this
 ·rw[h]
  exact⟨fun _=>⟨_,by rw[Yy L k hk];exact List.getElem_mem hk,h1⟩,fun _=>by omega⟩
structure Aq where
 ca:Option Addr
 cues:List An
 cc:Nat
 pa:Option Addr
 pairs:List (ByteArray×ByteArray)
 pc:Nat
structure SheetIn0(w:World)(s:Aq):Prop where
 lies:Gs w.heap.size w s.ca s.cues
 each:∀i,i<s.cues.length→Ei w.heap.size w (cg s.cues i).ma (cg s.cues i).moves
 plies:Hp w.heap.size w s.pa s.pairs
 ccap:s.cues.length≤s.cc
 cnil:s.ca=none→s.cc=0
 mcap:∀i,i<s.cues.length→(cg s.cues i).moves.length≤(cg s.cues i).mc
 mnil:∀i,i<s.cues.length→(cg s.cues i).ma=none→(cg s.cues i).mc=0
 pcap:s.pairs.length≤s.pc
 pnil:s.pa=none→s.pc=0
theorem SheetIn0.grow{w w':World}{s:Aq}(x:SheetIn0 w s)(hb:Below w.heap.size w w'):SheetIn0 w' s:=
 ⟨x.lies.grow hb,fun i hi=>(x.each i hi).grow hb,x.plies.grow hb,x.ccap,x.cnil,x.mcap,x.mnil,x.pcap,x.pnil⟩
def Bo(w:World)(b:Nat)(s:Aq):Prop:=w.cell? ⟨b,0,none⟩=some (.slice s.ca s.cues.length s.cc)∧w.cell? ⟨b,1,none⟩=some (.slice s.pa s.pairs.length s.pc)
theorem Bo.carry{w w':World}{b:Nat}{s:Aq}(x:Bo w b s)(hb:Below w.heap.size w w'):Bo w' b s:=by
 have hlt:b<w.heap.size:=wl x.1;exact⟨ct hb x.1 hlt,ct hb x.2 hlt⟩

abbrev Uo(s:Aq):Obj:=.cells #[.slice s.ca s.cues.length s.cc,.slice s.pa s.pairs.length s.pc] 29
abbrev Eu(q:An):Obj:=.cells #[.string q.name,.string q.after,.int .i64 q.link,.int .i64 q.delay,.slice q.ma q.moves.length q.mc,.int .i64 q.crew,.int .i64 q.power] 86
/-! ### Slices of string -/

def sg(L:List (ByteArray))(i:Nat):ByteArray:=(L[i]?).getD ⟨#[]⟩
theorem ASo(L:List (ByteArray))(i:Nat)(h:i<L.length):sg L i=L[i]:=by unfold sg;rw[List.getElem?_eq_getElem h];rfl
theorem ATp(F1 F2:List (ByteArray))(hl:F1.length=F2.length)(h:∀j,j<F1.length→sg F1 j=sg F2 j):F1=F2:=by
 refine List.ext_getElem hl fun i h1 h2=>?_;have:=h i h1
 rwa [ASo F1 i h1,ASo F2 i h2]at this
def Lu(L:List (ByteArray)):List Value:=L.flatMap fun r=>[.string r]
theorem AOn(L:List (ByteArray))(i:Nat)(hi:i<L.length):(Lu L)[i]? =some (.string (sg L i)):=by
 induction L generalizing i with
 | nil=>simp at hi
 | cons x r ih=>
  match i with
  | 0=>exact rfl
  | i+1=>
   have:=ih i (by simpa using hi);have e:Lu (x::r)=.string x::Lu r:=rfl;rw[e,show(i+1)=i+1 by omega]
   simpa[sg]using this
theorem AGx(L:List (ByteArray))(r:ByteArray):Lu (L++[r])=Lu L++[.string r]:=by simp[Lu]
def Mz(n₀:Nat)(w:World)(a:Option Addr)(L:List (ByteArray)):Prop:=
 0<L.length→∃b off,a=some ⟨b,off,none⟩∧b<n₀∧∀i,i<L.length→w.cell? ⟨b,off+i,none⟩=some (.string (sg L i))
theorem Mz.below{n₀:Nat}{w w':World}{a:Option Addr}{L:List (ByteArray)}(h:Mz n₀ w a L)(hb:Below n₀ w w'):Mz n₀ w' a L:=fun hl=>by
 obtain⟨b,off,rfl,hlt,hc⟩:=h hl;refine⟨b,off,rfl,hlt,fun i hi=>?_⟩;have c0:=hc i hi;exact(ct hb c0 hlt)
theorem Mz.mono{n₀ n₁:Nat}{w:World}{a:Option Addr}{L:List (ByteArray)}(h:Mz n₀ w a L)(hn:n₀≤n₁):Mz n₁ w a L:=fun hl=>by
 obtain⟨b,off,rfl,hlt,hc⟩:=h hl;exact⟨b,off,rfl,by omega,hc⟩
theorem Mz.grow{w w':World}{a:Option Addr}{L:List (ByteArray)}(h:Mz w.heap.size w a L)(hb:Below w.heap.size w w'):Mz w'.heap.size w' a L:=(h.below hb).mono hb.size
theorem Mz.nil{n₀:Nat}{w:World}{a:Option Addr}:Mz n₀ w a []:=fun h=>absurd h (Nat.not_lt_zero _)
theorem Mz.take{n₀:Nat}{w:World}{a:Option Addr}{L:List (ByteArray)}(h:Mz n₀ w a L)(n:Nat):Mz n₀ w a (L.take n):=fun hl=>by
 have hl':0<L.length:=by rw[List.length_take]at hl;omega
 obtain⟨b,off,rfl,hlt,hc⟩:=h hl';refine⟨b,off,rfl,hlt,fun i hi=>?_⟩;rw[List.length_take]at hi;have e:sg (L.take n) i=sg L i:=by unfold sg;rw[List.getElem?_take,if_pos (by omega)]
 rw[e];exact hc i (by omega)
theorem Xn{w:World}{base:Nat}{v:Value}{L:List (ByteArray)}(h:w.ownsRow base 9 1 v L.length (Lu L)):∃a cap,v=.slice a L.length cap∧L.length≤cap∧cap≤maxLen∧(a=none→cap=0)∧Mz w.heap.size w a L:=by
 rcases h.2 with ⟨rfl,h0⟩ | ⟨g,cap,cur,rfl,hb,hg,h1,h2,_⟩
 ·exact⟨none,0,by rw[h0],by omega,by unfold maxLen;omega,fun _=>rfl,fun hl=>by omega⟩
 ·refine⟨_,cap,rfl,h1,h2,(fun e=>by cases e),fun _=>⟨g,0,rfl,(Array.getElem?_eq_some_iff.1 hg).1,fun i hi=>?_⟩⟩
  have f0:=AOn L i hi;have c0:=h.cellAt (i) (by omega);rw[f0]at c0;rw[Nat.zero_add];exact c0
end
section
open Go.RowKit Go.Shelf
theorem Wh(a:Option Addr)(L:List (ByteArray×ByteArray))(cap n₀ g:Nat)(cb:Array Value)(p:ByteArray×ByteArray→Bool)(w:World)(eg:∀args w,(callFunc g args).run Tryz.prog w=.ok (.enter g args) w)
  (hl:L.length≤1100) (hn₀:n₀≤w.heap.size) (hI:Hp n₀ w a L) (hp:AOo g cb n₀ w p):
  Calls Tryz.prog 185 #[.slice a L.length cap,.func (.func g) #[] cb] w fun e w'=>e=.returned (.int .i64 (Gh L p))∧Below w.heap.size w w':=by
 have HI:=lh hI;clear hI;have HP:=lh hp;clear hp
 go_enter Tryz.func185,Tryz.ntmps185
 go_wp2
 go_loopw [8] (fun i wr=>∃k:Nat,k≤L.length∧i=.int .i64 k∧Below w.heap.size w wr∧Hid (∀j,j<k→p (pg L j)=false)) (fun i _=>L.length-(intOf i).toNat)
 case atStart=>exact⟨0,nz,rfl,br,lh (fun _ h=>absurd h (Nat.not_lt_zero _))⟩
 case round=>
  obtain⟨k,hk,rfl,hB,HA⟩:=hrel
  by_cases hlt:k<L.length
  ·obtain⟨b,off,rfl,hb,hc⟩:=HI.out (by omega)
   obtain⟨c0,c1⟩:=hc k hlt;have d0:=(ct hB c0 (show b<w.heap.size by omega));have d1:=(ct hB c1 (show b<w.heap.size by omega));clear c0 c1 hc;have HC:=lh (show Calls Tryz.prog g (#[.agg #[.string (pg L k).1,.string (pg L k).2]]++cb) wr _ from HP.out wr (pg L k) (hB.mono hn₀));obtain⟨bv,hbv⟩:=nm (p (pg L k));rw[hbv]at HC
   cases bv
   ·have HB:Hid (∀j,j<k+1→p (pg L j)=false):=lh fun j hj=>by
     rcases Nat.lt_or_ge j k with l | l
     ·exact HA.out j l
     ·obtain rfl:j=k:=by omega
      exact hbv
    clear hbv
    go_wp2_with (go_fit HC.out;rintro e w1 ⟨rfl,hb1⟩)
    go_roundw
    case rel=>exact⟨k+1,by omega,by go_num,hB.trans (hb1.mono hB.size),HB⟩
    case measure=>simp[intOf];omega
   ·have H:=lh (Og L p k hlt hbv HA.out)
    clear hbv
    go_wp2_with (go_fit HC.out;rintro e w1 ⟨rfl,hb1⟩)
    go_ret;exact⟨Cu H.out.symm,hB.trans (hb1.mono hB.size)⟩
  ·obtain rfl:k=L.length:=by omega
   have H:=lh (Ob L p HA.out)
   go_wp2
   go_ret;exact⟨Cu H.out.symm,hB⟩

theorem Rm(a:Option Addr)(L:List (ByteArray×ByteArray))(cap n₀ g:Nat)(cb:Array Value)(p:ByteArray×ByteArray→Bool)(w:World)(eg:∀args w,(callFunc g args).run Tryz.prog w=.ok (.enter g args) w)
  (hl:L.length≤1100) (hn₀:n₀≤w.heap.size) (hI:Hp n₀ w a L) (hp:AOo g cb n₀ w p):
  Calls Tryz.prog 159 #[.slice a L.length cap,.func (.func g) #[] cb] w fun e w'=>e=.returned (.bool (Kw L p))∧Below w.heap.size w w':=by
 have HC:=lh (Wh a L cap n₀ g cb p w eg hl hn₀ hI hp);clear hI hp eg
 go_enter Tryz.func159,Tryz.ntmps159
 go_wp2_with (go_at_call 185;go_fit HC.out;rintro e w1 ⟨rfl,hb1⟩)
 go_ret;exact⟨rfl,hb1⟩
end
end Go.Proofs.YtebofaenlhhkaaaGreat
