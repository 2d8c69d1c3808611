/-
  HOW SLICES OF BEAMS AND OF SETS LIE IN MEMORY; slices.IndexFunc at sets, ContainsFunc at beams.
-/
import Derived.Test.YtebofaenlhhkaaaGreatU3
namespace Go.Proofs.YtebofaenlhhkaaaGreat
set_option maxRecDepth 100000
set_option maxHeartbeats 80000000
section
open Go.RowKit Go.Shelf
attribute [local go_sem] Oper.semAt_some
structure RoofR where
 name:ByteArray
 lo:Int
 hi:Int
 most:Int

/-! ### Slices of api.Roof -/

def rg(L:List (RoofR))(i:Nat):RoofR:=(L[i]?).getD ⟨⟨#[]⟩,0,0,0⟩
def roofV(r:RoofR):Value:=.agg #[.string r.name,.int .i64 r.lo,.int .i64 r.hi,.int .i64 r.most]
def rflat(L:List (RoofR)):List Value:=L.flatMap fun r=>[.string r.name,.int .i64 r.lo,.int .i64 r.hi,.int .i64 r.most]
theorem rflat_at(L:List (RoofR))(i:Nat)(hi:i<L.length):(rflat L)[i*4]? =some (.string (rg L i).name)∧(rflat L)[i*4+1]? =some (.int .i64 (rg L i).lo)∧(rflat L)[i*4+2]? =some (.int .i64 (rg L i).hi)∧(rflat L)[i*4+3]? =some (.int .i64 (rg L i).most):=by
 induction L generalizing i with
 | nil=>simp at hi
 | cons x r ih=>
  match i with
  | 0=>exact⟨rfl,rfl,rfl,rfl⟩
  | i+1=>
   have:=ih i (by simpa using hi);have e:rflat (x::r)=.string x.name::.int .i64 x.lo::.int .i64 x.hi::.int .i64 x.most::rflat r:=rfl;rw[e,show(i+1)*4=i*4+1+1+1+1 by omega]
   simpa[rg]using this
def Roofs(n₀:Nat)(w:World)(a:Option Addr)(L:List (RoofR)):Prop:=
 0<L.length→∃b off,a=some ⟨b,off,none⟩∧b<n₀∧∀i,i<L.length→w.cell? ⟨b,off+i*4,none⟩=some (.string (rg L i).name)∧w.cell? ⟨b,off+i*4+1,none⟩=some (.int .i64 (rg L i).lo)∧w.cell? ⟨b,off+i*4+2,none⟩=some (.int .i64 (rg L i).hi)∧w.cell? ⟨b,off+i*4+3,none⟩=some (.int .i64 (rg L i).most)
theorem Roofs.below{n₀:Nat}{w w':World}{a:Option Addr}{L:List (RoofR)}(h:Roofs n₀ w a L)(hb:Below n₀ w w'):Roofs n₀ w' a L:=fun hl=>by
 obtain⟨b,off,rfl,hlt,hc⟩:=h hl;refine⟨b,off,rfl,hlt,fun i hi=>?_⟩;obtain⟨c0,c1,c2,c3⟩:=hc i hi;exact⟨(hb.cell (p:=⟨b,_,none⟩) hlt).trans c0,(hb.cell (p:=⟨b,_,none⟩) hlt).trans c1,(hb.cell (p:=⟨b,_,none⟩) hlt).trans c2,(hb.cell (p:=⟨b,_,none⟩) hlt).trans c3⟩
theorem Roofs.mono{n₀ n₁:Nat}{w:World}{a:Option Addr}{L:List (RoofR)}(h:Roofs n₀ w a L)(hn:n₀≤n₁):Roofs n₁ w a L:=fun hl=>by
 obtain⟨b,off,rfl,hlt,hc⟩:=h hl;exact⟨b,off,rfl,by omega,hc⟩
theorem Roofs.grow{w w':World}{a:Option Addr}{L:List (RoofR)}(h:Roofs w.heap.size w a L)(hb:Below w.heap.size w w'):Roofs w'.heap.size w' a L:=(h.below hb).mono hb.size
theorem Roofs.nil{n₀:Nat}{w:World}{a:Option Addr}:Roofs n₀ w a []:=fun h=>absurd h (Nat.not_lt_zero _)
theorem Roofs.take{n₀:Nat}{w:World}{a:Option Addr}{L:List (RoofR)}(h:Roofs n₀ w a L)(n:Nat):Roofs n₀ w a (L.take n):=fun hl=>by
 have hl':0<L.length:=by rw[List.length_take]at hl;omega
 obtain⟨b,off,rfl,hlt,hc⟩:=h hl';refine⟨b,off,rfl,hlt,fun i hi=>?_⟩;rw[List.length_take]at hi;have e:rg (L.take n) i=rg L i:=by unfold rg;rw[List.getElem?_take,if_pos (by omega)]
 rw[e];exact hc i (by omega)
def AsksRoof(g:Nat)(cb:Array Value)(n₀:Nat)(w:World)(p:RoofR→Bool):Prop:=
 ∀(W:World) (r:RoofR),Below n₀ w W→Calls Tryz.prog g (#[roofV r]++cb) W fun e w'=>e=.returned (.bool (p r))∧Below W.heap.size W w'
def roof_first(L:List (RoofR))(p:RoofR→Bool):Int:=match (List.range L.length).find? (fun i=>p (rg L i))with
 | some i=>i
 | none=>-1
theorem roof_first_hit(L:List (RoofR))(p:RoofR→Bool)(k:Nat)(hk:k<L.length)(h:p (rg L k)=true)(hn:∀j,j<k→p (rg L j)=false):roof_first L p=k:=by
 unfold roof_first
 have:(List.range L.length).find? (fun i=>p (rg L i))=some k:=by
  rw[List.find?_eq_some_iff_getElem];refine⟨by simpa using h,k,by simpa using hk,by simp,fun j hj=>?_⟩
  simpa using hn j hj
 rw[this]
theorem roof_first_miss(L:List (RoofR))(p:RoofR→Bool)(hn:∀j,j<L.length→p (rg L j)=false):roof_first L p=-1:=by
 unfold roof_first
 have:(List.range L.length).find? (fun i=>p (rg L i))=none:=by
  rw[List.find?_eq_none];intro x hx
  simpa using hn x (by simpa using hx)
 rw[this]
theorem roof_first_cases(L:List (RoofR))(p:RoofR→Bool):(roof_first L p=-1∧∀j,j<L.length→p (rg L j)=false)∨∃k:Nat,k<L.length∧roof_first L p=k∧p (rg L k)=true∧∀j,j<k→p (rg L j)=false:=by
 have main:∀n,n≤L.length→(∀j,j<n→p (rg L j)=false)∨∃k,k<n∧p (rg L k)=true∧∀j,j<k→p (rg L j)=false:=by
  intro n
  induction n with
  | zero=>exact fun _=>.inl fun j hj=>absurd hj (Nat.not_lt_zero _)
  | succ n ih=>
   intro hn;rcases ih (by omega)with h | ⟨k,hk,h1,h2⟩
   ·cases e:p (rg L n)
    ·refine .inl fun j hj=>?_
     rcases Nat.lt_or_ge j n with l | l
     ·exact h j l
     ·obtain rfl:j=n:=by omega
      exact e
    ·exact .inr ⟨n,by omega,e,h⟩
   ·exact .inr ⟨k,by omega,h1,h2⟩
 rcases main L.length (Nat.le_refl _)with h | ⟨k,hk,h1,h2⟩
 ·exact .inl ⟨roof_first_miss L p h,h⟩
 ·exact .inr ⟨k,hk,roof_first_hit L p k hk h1 h2,h1,h2⟩
def roof_any(L:List (RoofR))(p:RoofR→Bool):Bool:=decide (0≤roof_first L p)
theorem roof_indexFunc(a:Option Addr)(L:List (RoofR))(cap n₀ g:Nat)(cb:Array Value)(p:RoofR→Bool)(w:World)(eg:∀args w,(callFunc g args).run Tryz.prog w=.ok (.enter g args) w)
  (hl:L.length≤1100) (hn₀:n₀≤w.heap.size) (hI:Roofs n₀ w a L) (hp:AsksRoof g cb n₀ w p):
  Calls Tryz.prog 197 #[.slice a L.length cap,.func (.func g) #[] cb] w fun e w'=>e=.returned (.int .i64 (roof_first L p))∧Below w.heap.size w w':=by
 have HI:=lh hI;clear hI;have HP:=lh hp;clear hp
 go_enter Tryz.func197,Tryz.ntmps197
 go_wp2
 go_loopw [8] (fun i wr=>∃k:Nat,k≤L.length∧i=.int .i64 k∧Below w.heap.size w wr∧Hid (∀j,j<k→p (rg L j)=false)) (fun i _=>L.length-(intOf i).toNat)
 case atStart=>exact⟨0,Nat.zero_le _,rfl,br,lh (fun _ h=>absurd h (Nat.not_lt_zero _))⟩
 case round=>
  obtain⟨k,hk,rfl,hB,HA⟩:=hrel
  by_cases hlt:k<L.length
  ·obtain⟨b,off,rfl,hb,hc⟩:=HI.out (by omega)
   obtain⟨c0,c1,c2,c3⟩:=hc k hlt;have d0:=(hB.cell (p:=⟨b,off+k*4,none⟩) (show b<w.heap.size by omega)).trans c0;have d1:=(hB.cell (p:=⟨b,off+k*4+1,none⟩) (show b<w.heap.size by omega)).trans c1;have d2:=(hB.cell (p:=⟨b,off+k*4+2,none⟩) (show b<w.heap.size by omega)).trans c2;have d3:=(hB.cell (p:=⟨b,off+k*4+3,none⟩) (show b<w.heap.size by omega)).trans c3;clear c0 c1 c2 c3 hc;have HC:=lh (show Calls Tryz.prog g (#[.agg #[.string (rg L k).name,.int .i64 (rg L k).lo,.int .i64 (rg L k).hi,.int .i64 (rg L k).most]]++cb) wr _ from HP.out wr (rg L k) (hB.mono hn₀));obtain⟨bv,hbv⟩:=nm (p (rg L k));rw[hbv]at HC
   cases bv
   ·have HB:Hid (∀j,j<k+1→p (rg L j)=false):=lh fun j hj=>by
     rcases Nat.lt_or_ge j k with l | l
     ·exact HA.out j l
     ·obtain rfl:j=k:=by omega
      exact hbv
    clear hbv
    go_wp2_with ((with_reducible refine HC.out.mono ?_);rintro e w1 ⟨rfl,hb1⟩)
    go_roundw
    case rel=>exact⟨k+1,by omega,by go_num,hB.trans (hb1.mono hB.size),HB⟩
    case measure=>simp[intOf];omega
   ·have H:=lh (roof_first_hit L p k hlt hbv HA.out)
    clear hbv
    go_wp2_with ((with_reducible refine HC.out.mono ?_);rintro e w1 ⟨rfl,hb1⟩)
    go_ret;exact⟨ret_int H.out.symm,hB.trans (hb1.mono hB.size)⟩
  ·obtain rfl:k=L.length:=by omega
   have H:=lh (roof_first_miss L p HA.out)
   go_wp2
   go_ret;exact⟨ret_int H.out.symm,hB⟩

theorem roof_containsFunc(a:Option Addr)(L:List (RoofR))(cap n₀ g:Nat)(cb:Array Value)(p:RoofR→Bool)(w:World)(eg:∀args w,(callFunc g args).run Tryz.prog w=.ok (.enter g args) w)
  (hl:L.length≤1100) (hn₀:n₀≤w.heap.size) (hI:Roofs n₀ w a L) (hp:AsksRoof g cb n₀ w p):
  Calls Tryz.prog 178 #[.slice a L.length cap,.func (.func g) #[] cb] w fun e w'=>e=.returned (.bool (roof_any L p))∧Below w.heap.size w w':=by
 have HC:=lh (roof_indexFunc a L cap n₀ g cb p w eg hl hn₀ hI hp);clear hI hp eg
 go_enter Tryz.func178,Tryz.ntmps178
 go_wp2_with (go_at_call 197;(with_reducible refine HC.out.mono ?_);rintro e w1 ⟨rfl,hb1⟩)
 go_ret;exact⟨rfl,hb1⟩

/-! ### Slices of api.Set -/

def hg(L:List (SetR))(i:Nat):SetR:=(L[i]?).getD ⟨⟨#[]⟩,0,0,0,0,none,[],0,0,0,0,0,0,none,[],0,none,[],0⟩
theorem hg_eq(L:List (SetR))(i:Nat)(h:i<L.length):hg L i=L[i]:=by unfold hg;rw[List.getElem?_eq_getElem h];rfl
theorem hg_get{L:List (SetR)}{i:Nat}(h:i<L.length):L[i]? =some (hg L i):=by rw[hg_eq L i h,List.getElem?_eq_getElem h]
def setV(r:SetR):Value:=.agg #[.string r.name,.int .i64 r.depth,.int .i64 r.low,.int .i64 r.high,.int .i64 r.length,.slice r.la r.lines.length r.lc,.int .i64 r.pipe,.int .i64 r.arbor,.int .i64 r.purchase,.int .i64 r.most,.int .i64 r.brake,.slice r.ia r.items.length r.ic,.slice r.ba r.bricks.length r.bc]
def hflat(L:List (SetR)):List Value:=L.flatMap fun r=>[.string r.name,.int .i64 r.depth,.int .i64 r.low,.int .i64 r.high,.int .i64 r.length,.slice r.la r.lines.length r.lc,.int .i64 r.pipe,.int .i64 r.arbor,.int .i64 r.purchase,.int .i64 r.most,.int .i64 r.brake,.slice r.ia r.items.length r.ic,.slice r.ba r.bricks.length r.bc]
theorem hflat_at(L:List (SetR))(i:Nat)(hi:i<L.length):(hflat L)[i*13]? =some (.string (hg L i).name)∧(hflat L)[i*13+1]? =some (.int .i64 (hg L i).depth)∧(hflat L)[i*13+2]? =some (.int .i64 (hg L i).low)∧(hflat L)[i*13+3]? =some (.int .i64 (hg L i).high)∧(hflat L)[i*13+4]? =some (.int .i64 (hg L i).length)∧(hflat L)[i*13+5]? =some (.slice (hg L i).la (hg L i).lines.length (hg L i).lc)∧(hflat L)[i*13+6]? =some (.int .i64 (hg L i).pipe)∧(hflat L)[i*13+7]? =some (.int .i64 (hg L i).arbor)∧(hflat L)[i*13+8]? =some (.int .i64 (hg L i).purchase)∧(hflat L)[i*13+9]? =some (.int .i64 (hg L i).most)∧(hflat L)[i*13+10]? =some (.int .i64 (hg L i).brake)∧(hflat L)[i*13+11]? =some (.slice (hg L i).ia (hg L i).items.length (hg L i).ic)∧(hflat L)[i*13+12]? =some (.slice (hg L i).ba (hg L i).bricks.length (hg L i).bc):=by
 induction L generalizing i with
 | nil=>simp at hi
 | cons x r ih=>
  match i with
  | 0=>exact⟨rfl,rfl,rfl,rfl,rfl,rfl,rfl,rfl,rfl,rfl,rfl,rfl,rfl⟩
  | i+1=>
   have:=ih i (by simpa using hi);have e:hflat (x::r)=.string x.name::.int .i64 x.depth::.int .i64 x.low::.int .i64 x.high::.int .i64 x.length::.slice x.la x.lines.length x.lc::.int .i64 x.pipe::.int .i64 x.arbor::.int .i64 x.purchase::.int .i64 x.most::.int .i64 x.brake::.slice x.ia x.items.length x.ic::.slice x.ba x.bricks.length x.bc::hflat r:=rfl;rw[e,show(i+1)*13=i*13+1+1+1+1+1+1+1+1+1+1+1+1+1 by omega]
   simpa[hg]using this
def SetRows(n₀:Nat)(w:World)(a:Option Addr)(L:List (SetR)):Prop:=
 0<L.length→∃b off,a=some ⟨b,off,none⟩∧b<n₀∧∀i,i<L.length→w.cell? ⟨b,off+i*13,none⟩=some (.string (hg L i).name)∧w.cell? ⟨b,off+i*13+1,none⟩=some (.int .i64 (hg L i).depth)∧w.cell? ⟨b,off+i*13+2,none⟩=some (.int .i64 (hg L i).low)∧w.cell? ⟨b,off+i*13+3,none⟩=some (.int .i64 (hg L i).high)∧w.cell? ⟨b,off+i*13+4,none⟩=some (.int .i64 (hg L i).length)∧w.cell? ⟨b,off+i*13+5,none⟩=some (.slice (hg L i).la (hg L i).lines.length (hg L i).lc)∧w.cell? ⟨b,off+i*13+6,none⟩=some (.int .i64 (hg L i).pipe)∧w.cell? ⟨b,off+i*13+7,none⟩=some (.int .i64 (hg L i).arbor)∧w.cell? ⟨b,off+i*13+8,none⟩=some (.int .i64 (hg L i).purchase)∧w.cell? ⟨b,off+i*13+9,none⟩=some (.int .i64 (hg L i).most)∧w.cell? ⟨b,off+i*13+10,none⟩=some (.int .i64 (hg L i).brake)∧w.cell? ⟨b,off+i*13+11,none⟩=some (.slice (hg L i).ia (hg L i).items.length (hg L i).ic)∧w.cell? ⟨b,off+i*13+12,none⟩=some (.slice (hg L i).ba (hg L i).bricks.length (hg L i).bc)
theorem SetRows.below{n₀:Nat}{w w':World}{a:Option Addr}{L:List (SetR)}(h:SetRows n₀ w a L)(hb:Below n₀ w w'):SetRows n₀ w' a L:=fun hl=>by
 obtain⟨b,off,rfl,hlt,hc⟩:=h hl;refine⟨b,off,rfl,hlt,fun i hi=>?_⟩;obtain⟨c0,c1,c2,c3,c4,c5,c6,c7,c8,c9,c10,c11,c12⟩:=hc i hi;exact⟨(hb.cell (p:=⟨b,_,none⟩) hlt).trans c0,(hb.cell (p:=⟨b,_,none⟩) hlt).trans c1,(hb.cell (p:=⟨b,_,none⟩) hlt).trans c2,(hb.cell (p:=⟨b,_,none⟩) hlt).trans c3,(hb.cell (p:=⟨b,_,none⟩) hlt).trans c4,(hb.cell (p:=⟨b,_,none⟩) hlt).trans c5,(hb.cell (p:=⟨b,_,none⟩) hlt).trans c6,(hb.cell (p:=⟨b,_,none⟩) hlt).trans c7,(hb.cell (p:=⟨b,_,none⟩) hlt).trans c8,(hb.cell (p:=⟨b,_,none⟩) hlt).trans c9,(hb.cell (p:=⟨b,_,none⟩) hlt).trans c10,(hb.cell (p:=⟨b,_,none⟩) hlt).trans c11,(hb.cell (p:=⟨b,_,none⟩) hlt).trans c12⟩
theorem SetRows.mono{n₀ n₁:Nat}{w:World}{a:Option Addr}{L:List (SetR)}(h:SetRows n₀ w a L)(hn:n₀≤n₁):SetRows n₁ w a L:=fun hl=>by
 obtain⟨b,off,rfl,hlt,hc⟩:=h hl;exact⟨b,off,rfl,by omega,hc⟩
theorem SetRows.grow{w w':World}{a:Option Addr}{L:List (SetR)}(h:SetRows w.heap.size w a L)(hb:Below w.heap.size w w'):SetRows w'.heap.size w' a L:=(h.below hb).mono hb.size
theorem SetRows.nil{n₀:Nat}{w:World}{a:Option Addr}:SetRows n₀ w a []:=fun h=>absurd h (Nat.not_lt_zero _)
theorem SetRows.take{n₀:Nat}{w:World}{a:Option Addr}{L:List (SetR)}(h:SetRows n₀ w a L)(n:Nat):SetRows n₀ w a (L.take n):=fun hl=>by
 have hl':0<L.length:=by rw[List.length_take]at hl;omega
 obtain⟨b,off,rfl,hlt,hc⟩:=h hl';refine⟨b,off,rfl,hlt,fun i hi=>?_⟩;rw[List.length_take]at hi;have e:hg (L.take n) i=hg L i:=by unfold hg;rw[List.getElem?_take,if_pos (by omega)]
 rw[e];exact hc i (by omega)
def AsksSet(g:Nat)(cb:Array Value)(n₀:Nat)(w:World)(p:SetR→Bool):Prop:=
 ∀(W:World) (r:SetR),Below n₀ w W→Calls Tryz.prog g (#[setV r]++cb) W fun e w'=>e=.returned (.bool (p r))∧Below W.heap.size W w'
def set_first(L:List (SetR))(p:SetR→Bool):Int:=match (List.range L.length).find? (fun i=>p (hg L i))with
 | some i=>i
 | none=>-1
theorem set_first_hit(L:List (SetR))(p:SetR→Bool)(k:Nat)(hk:k<L.length)(h:p (hg L k)=true)(hn:∀j,j<k→p (hg L j)=false):set_first L p=k:=by
 unfold set_first
 have:(List.range L.length).find? (fun i=>p (hg L i))=some k:=by
  rw[List.find?_eq_some_iff_getElem];refine⟨by simpa using h,k,by simpa using hk,by simp,fun j hj=>?_⟩
  simpa using hn j hj
 rw[this]
theorem set_first_miss(L:List (SetR))(p:SetR→Bool)(hn:∀j,j<L.length→p (hg L j)=false):set_first L p=-1:=by
 unfold set_first
 have:(List.range L.length).find? (fun i=>p (hg L i))=none:=by
  rw[List.find?_eq_none];intro x hx
  simpa using hn x (by simpa using hx)
 rw[this]
theorem set_first_cases(L:List (SetR))(p:SetR→Bool):(set_first L p=-1∧∀j,j<L.length→p (hg L j)=false)∨∃k:Nat,k<L.length∧set_first L p=k∧p (hg L k)=true∧∀j,j<k→p (hg L j)=false:=by
 have main:∀n,n≤L.length→(∀j,j<n→p (hg L j)=false)∨∃k,k<n∧p (hg L k)=true∧∀j,j<k→p (hg L j)=false:=by
  intro n
  induction n with
  | zero=>exact fun _=>.inl fun j hj=>absurd hj (Nat.not_lt_zero _)
  | succ n ih=>
   intro hn;rcases ih (by omega)with h | ⟨k,hk,h1,h2⟩
   ·cases e:p (hg L n)
    ·refine .inl fun j hj=>?_
     rcases Nat.lt_or_ge j n with l | l
     ·exact h j l
     ·obtain rfl:j=n:=by omega
      exact e
    ·exact .inr ⟨n,by omega,e,h⟩
   ·exact .inr ⟨k,by omega,h1,h2⟩
 rcases main L.length (Nat.le_refl _)with h | ⟨k,hk,h1,h2⟩
 ·exact .inl ⟨set_first_miss L p h,h⟩
 ·exact .inr ⟨k,hk,set_first_hit L p k hk h1 h2,h1,h2⟩
theorem set_indexFunc(a:Option Addr)(L:List (SetR))(cap n₀ g:Nat)(cb:Array Value)(p:SetR→Bool)(w:World)(eg:∀args w,(callFunc g args).run Tryz.prog w=.ok (.enter g args) w)
  (hl:L.length≤1100) (hn₀:n₀≤w.heap.size) (hI:SetRows n₀ w a L) (hp:AsksSet g cb n₀ w p):
  Calls Tryz.prog 45 #[.slice a L.length cap,.func (.func g) #[] cb] w fun e w'=>e=.returned (.int .i64 (set_first L p))∧Below w.heap.size w w':=by
 have HI:=lh hI;clear hI;have HP:=lh hp;clear hp
 go_enter Tryz.func45,Tryz.ntmps45
 go_wp2
 go_loopw [8] (fun i wr=>∃k:Nat,k≤L.length∧i=.int .i64 k∧Below w.heap.size w wr∧Hid (∀j,j<k→p (hg L j)=false)) (fun i _=>L.length-(intOf i).toNat)
 case atStart=>exact⟨0,Nat.zero_le _,rfl,br,lh (fun _ h=>absurd h (Nat.not_lt_zero _))⟩
 case round=>
  obtain⟨k,hk,rfl,hB,HA⟩:=hrel
  by_cases hlt:k<L.length
  ·obtain⟨b,off,rfl,hb,hc⟩:=HI.out (by omega)
   obtain⟨c0,c1,c2,c3,c4,c5,c6,c7,c8,c9,c10,c11,c12⟩:=hc k hlt;have d0:=(hB.cell (p:=⟨b,off+k*13,none⟩) (show b<w.heap.size by omega)).trans c0;have d1:=(hB.cell (p:=⟨b,off+k*13+1,none⟩) (show b<w.heap.size by omega)).trans c1;have d2:=(hB.cell (p:=⟨b,off+k*13+2,none⟩) (show b<w.heap.size by omega)).trans c2;have d3:=(hB.cell (p:=⟨b,off+k*13+3,none⟩) (show b<w.heap.size by omega)).trans c3;have d4:=(hB.cell (p:=⟨b,off+k*13+4,none⟩) (show b<w.heap.size by omega)).trans c4;have d5:=(hB.cell (p:=⟨b,off+k*13+5,none⟩) (show b<w.heap.size by omega)).trans c5;have d6:=(hB.cell (p:=⟨b,off+k*13+6,none⟩) (show b<w.heap.size by omega)).trans c6;have d7:=(hB.cell (p:=⟨b,off+k*13+7,none⟩) (show b<w.heap.size by omega)).trans c7;have d8:=(hB.cell (p:=⟨b,off+k*13+8,none⟩) (show b<w.heap.size by omega)).trans c8;have d9:=(hB.cell (p:=⟨b,off+k*13+9,none⟩) (show b<w.heap.size by omega)).trans c9;have d10:=(hB.cell (p:=⟨b,off+k*13+10,none⟩) (show b<w.heap.size by omega)).trans c10;have d11:=(hB.cell (p:=⟨b,off+k*13+11,none⟩) (show b<w.heap.size by omega)).trans c11;have d12:=(hB.cell (p:=⟨b,off+k*13+12,none⟩) (show b<w.heap.size by omega)).trans c12;clear c0 c1 c2 c3 c4 c5 c6 c7 c8 c9 c10 c11 c12 hc;have HC:=lh (show Calls Tryz.prog g (#[.agg #[.string (hg L k).name,.int .i64 (hg L k).depth,.int .i64 (hg L k).low,.int .i64 (hg L k).high,.int .i64 (hg L k).length,.slice (hg L k).la (hg L k).lines.length (hg L k).lc,.int .i64 (hg L k).pipe,.int .i64 (hg L k).arbor,.int .i64 (hg L k).purchase,.int .i64 (hg L k).most,.int .i64 (hg L k).brake,.slice (hg L k).ia (hg L k).items.length (hg L k).ic,.slice (hg L k).ba (hg L k).bricks.length (hg L k).bc]]++cb) wr _ from HP.out wr (hg L k) (hB.mono hn₀));obtain⟨bv,hbv⟩:=nm (p (hg L k));rw[hbv]at HC
   cases bv
   ·have HB:Hid (∀j,j<k+1→p (hg L j)=false):=lh fun j hj=>by
     rcases Nat.lt_or_ge j k with l | l
     ·exact HA.out j l
     ·obtain rfl:j=k:=by omega
      exact hbv
    clear hbv
    go_wp2_with ((with_reducible refine HC.out.mono ?_);rintro e w1 ⟨rfl,hb1⟩)
    go_roundw
    case rel=>exact⟨k+1,by omega,by go_num,hB.trans (hb1.mono hB.size),HB⟩
    case measure=>simp[intOf];omega
   ·have H:=lh (set_first_hit L p k hlt hbv HA.out)
    clear hbv
    go_wp2_with ((with_reducible refine HC.out.mono ?_);rintro e w1 ⟨rfl,hb1⟩)
    go_ret;exact⟨ret_int H.out.symm,hB.trans (hb1.mono hB.size)⟩
  ·obtain rfl:k=L.length:=by omega
   have H:=lh (set_first_miss L p HA.out)
   go_wp2
   go_ret;exact⟨ret_int H.out.symm,hB⟩
end
section
open Go.RowKit Go.Shelf
structure HouseR where
 name:ByteArray
 height:Int
 sa:Option Addr
 sets:List SetR
 sc:Nat
 ra:Option Addr
 roofs:List RoofR
 rc:Nat
def RoofOK(x:RoofR):Prop:=isNameB x.name=true∧0≤x.lo∧x.lo≤x.hi∧x.hi≤1048576∧0≤x.most∧x.most≤67108864
instance(x:RoofR):Decidable (RoofOK x):=by unfold RoofOK;infer_instance
def RoofAt(L:List RoofR)(k:Nat):Prop:=RoofOK (rg L k)∧∀j,j<k→(rg L j).name≠(rg L k).name
def RoofsOK(L:List RoofR):Prop:=L.length≤20∧∀k,k<L.length→RoofAt L k
def SetAtOK(h:HouseR)(k:Nat):Prop:=setB (hg h.sets k)=true∧(hg h.sets k).high≤h.height∧∀j,j<k→(hg h.sets j).name≠(hg h.sets k).name
def HouseOK(h:HouseR):Prop:=isNameB h.name=true∧1≤h.height∧h.height≤1048576∧h.sets.length≤60∧RoofsOK h.roofs∧∀k,k<h.sets.length→SetAtOK h k
noncomputable def roofsB(L:List RoofR):Bool:=@decide (RoofsOK L) (Classical.propDecidable _)
noncomputable def houseB(h:HouseR):Bool:=@decide (HouseOK h) (Classical.propDecidable _)
theorem roofsB_iff{L:List RoofR}:roofsB L=true↔RoofsOK L:=by exact @decide_eq_true_iff (RoofsOK L) (Classical.propDecidable _)
theorem houseB_iff{h:HouseR}:houseB h=true↔HouseOK h:=by exact @decide_eq_true_iff (HouseOK h) (Classical.propDecidable _)
theorem roofs_no{L:List RoofR}{k:Nat}(hk:k<L.length)(h:¬RoofAt L k):roofsB L=false:=by
 cases e:roofsB L
 ·rfl
 ·exact absurd ((roofsB_iff.1 e).2 k hk) h
theorem house_no{h:HouseR}{k:Nat}(hk:k<h.sets.length)(n:¬SetAtOK h k):houseB h=false:=by
 cases e:houseB h
 ·rfl
 ·exact absurd ((houseB_iff.1 e).2.2.2.2.2 k hk) n
def findS(L:List SetR)(s:ByteArray):Int:=set_first L (fun y=>decide (y.name=s))
theorem find_at{L:List SetR}{k:Nat}(hk:k<L.length):findS L (hg L k).name=(k:Int)↔∀j,j<k→(hg L j).name≠(hg L k).name:=by
 unfold findS;rcases set_first_cases L (fun y=>decide (y.name=(hg L k).name))with ⟨e,n⟩ | ⟨i,hi,e,hn,ha⟩
 ·exact absurd (n k hk) (by simp)
 ·have hn':(hg L i).name=(hg L k).name:=by simpa using hn
  have ha':∀j,j<i→(hg L j).name≠(hg L k).name:=fun j hj=>by simpa using ha j hj
  constructor
  ·intro h
   obtain rfl:i=k:=by omega
   exact ha'
  ·intro h
   rw[e];rcases Nat.lt_trichotomy i k with l | l | l
   ·exact absurd hn' (h i l)
   ·rw[l]
   ·exact absurd rfl (ha' k l)
abbrev LHo(h:HouseR):Obj:=.cells #[.string h.name,.int .i64 h.height,.slice h.sa h.sets.length h.sc,.slice h.ra h.roofs.length h.rc] 25
structure HouseIn0(w:World)(h:HouseR):Prop where
 sets:SetRows w.heap.size w h.sa h.sets
 roofs:Roofs w.heap.size w h.ra h.roofs
 each:∀i,i<h.sets.length→SetIn0 w (hg h.sets i)
 scap:h.sets.length≤h.sc
 rcap:h.roofs.length≤h.rc
 snil:h.sa=none→h.sc=0
 rnil:h.ra=none→h.rc=0
theorem HouseIn0.grow{w w':World}{h:HouseR}(x:HouseIn0 w h)(hb:Below w.heap.size w w'):HouseIn0 w' h:=
 ⟨x.sets.grow hb,x.roofs.grow hb,fun i hi=>(x.each i hi).grow hb,x.scap,x.rcap,x.snil,x.rnil⟩
structure HouseIn(w:World)(h:HouseR):Prop extends HouseIn0 w h where
 all:∀i,i<h.sets.length→SetIn w (hg h.sets i)
 slen:h.sets.length≤1000
 rlen:h.roofs.length≤1000
theorem HouseIn.grow{w w':World}{h:HouseR}(x:HouseIn w h)(hb:Below w.heap.size w w'):HouseIn w' h:=
 ⟨x.toHouseIn0.grow hb,fun i hi=>(x.all i hi).grow hb,x.slen,x.rlen⟩
def HouseAt(w:World)(b:Nat)(h:HouseR):Prop:=w.cell? ⟨b,0,none⟩=some (.string h.name)∧w.cell? ⟨b,1,none⟩=some (.int .i64 h.height)∧w.cell? ⟨b,2,none⟩=some (.slice h.sa h.sets.length h.sc)∧w.cell? ⟨b,3,none⟩=some (.slice h.ra h.roofs.length h.rc)
theorem HouseAt.carry{w w':World}{b:Nat}{h:HouseR}(x:HouseAt w b h)(hb:Below w.heap.size w w'):HouseAt w' b h:=by
 have hlt:b<w.heap.size:=wl x.1;obtain⟨a0,a1,a2,a3⟩:=x;exact⟨(hb.cell (p:=⟨b,0,none⟩) hlt).trans a0,(hb.cell (p:=⟨b,1,none⟩) hlt).trans a1,(hb.cell (p:=⟨b,2,none⟩) hlt).trans a2,(hb.cell (p:=⟨b,3,none⟩) hlt).trans a3⟩
theorem HouseAt.new(w:World)(h:HouseR)(t:TypeId):HouseAt (w.alloc (.cells #[.string h.name,.int .i64 h.height,.slice h.sa h.sets.length h.sc,.slice h.ra h.roofs.length h.rc] t)) w.heap.size h:=by
 unfold HouseAt
 simp
def MvAt(w:World)(B:Nat)(m:Mv):Prop:=w.cell? ⟨B,0,none⟩=some (.string m.name)∧w.cell? ⟨B,1,none⟩=some (.int .i64 m.to)∧w.cell? ⟨B,2,none⟩=some (.int .i64 m.spd)∧w.cell? ⟨B,3,none⟩=some (.int .i64 m.rise)∧w.cell? ⟨B,4,none⟩=some (.int .i64 m.fall)
theorem MvAt.carry{W w:World}{B:Nat}{m:Mv}(c:MvAt W B m)(h:Below W.heap.size W w):MvAt w B m:=by
 have hz:B<W.heap.size:=wl c.1;exact⟨(h.cell (p:=⟨B,0,none⟩) hz).trans c.1,(h.cell (p:=⟨B,1,none⟩) hz).trans c.2.1,(h.cell (p:=⟨B,2,none⟩) hz).trans c.2.2.1,(h.cell (p:=⟨B,3,none⟩) hz).trans c.2.2.2.1,(h.cell (p:=⟨B,4,none⟩) hz).trans c.2.2.2.2⟩
theorem MvAt.new(W:World)(m:Mv)(t:TypeId):MvAt (W.alloc (.cells #[.string m.name,.int .i64 m.to,.int .i64 m.spd,.int .i64 m.rise,.int .i64 m.fall] t)) W.heap.size m:=⟨by simp,by simp,by simp,by simp,by simp⟩
end
section
open Go.RowKit Go.Shelf
attribute [local go_sem] Oper.semAt_some
/-! ### Slices of api.Move -/

def mg(L:List (Mv))(i:Nat):Mv:=(L[i]?).getD ⟨⟨#[]⟩,0,0,0,0⟩
theorem mg_eq(L:List (Mv))(i:Nat)(h:i<L.length):mg L i=L[i]:=by unfold mg;rw[List.getElem?_eq_getElem h];rfl
def movV(r:Mv):Value:=.agg #[.string r.name,.int .i64 r.to,.int .i64 r.spd,.int .i64 r.rise,.int .i64 r.fall]
def mflat(L:List (Mv)):List Value:=L.flatMap fun r=>[.string r.name,.int .i64 r.to,.int .i64 r.spd,.int .i64 r.rise,.int .i64 r.fall]
theorem mflat_at(L:List (Mv))(i:Nat)(hi:i<L.length):(mflat L)[i*5]? =some (.string (mg L i).name)∧(mflat L)[i*5+1]? =some (.int .i64 (mg L i).to)∧(mflat L)[i*5+2]? =some (.int .i64 (mg L i).spd)∧(mflat L)[i*5+3]? =some (.int .i64 (mg L i).rise)∧(mflat L)[i*5+4]? =some (.int .i64 (mg L i).fall):=by
 induction L generalizing i with
 | nil=>simp at hi
 | cons x r ih=>
  match i with
  | 0=>exact⟨rfl,rfl,rfl,rfl,rfl⟩
  | i+1=>
   have:=ih i (by simpa using hi);have e:mflat (x::r)=.string x.name::.int .i64 x.to::.int .i64 x.spd::.int .i64 x.rise::.int .i64 x.fall::mflat r:=rfl;rw[e,show(i+1)*5=i*5+1+1+1+1+1 by omega]
   simpa[mg]using this
def Movs(n₀:Nat)(w:World)(a:Option Addr)(L:List (Mv)):Prop:=
 0<L.length→∃b off,a=some ⟨b,off,none⟩∧b<n₀∧∀i,i<L.length→w.cell? ⟨b,off+i*5,none⟩=some (.string (mg L i).name)∧w.cell? ⟨b,off+i*5+1,none⟩=some (.int .i64 (mg L i).to)∧w.cell? ⟨b,off+i*5+2,none⟩=some (.int .i64 (mg L i).spd)∧w.cell? ⟨b,off+i*5+3,none⟩=some (.int .i64 (mg L i).rise)∧w.cell? ⟨b,off+i*5+4,none⟩=some (.int .i64 (mg L i).fall)
theorem Movs.below{n₀:Nat}{w w':World}{a:Option Addr}{L:List (Mv)}(h:Movs n₀ w a L)(hb:Below n₀ w w'):Movs n₀ w' a L:=fun hl=>by
 obtain⟨b,off,rfl,hlt,hc⟩:=h hl;refine⟨b,off,rfl,hlt,fun i hi=>?_⟩;obtain⟨c0,c1,c2,c3,c4⟩:=hc i hi;exact⟨(hb.cell (p:=⟨b,_,none⟩) hlt).trans c0,(hb.cell (p:=⟨b,_,none⟩) hlt).trans c1,(hb.cell (p:=⟨b,_,none⟩) hlt).trans c2,(hb.cell (p:=⟨b,_,none⟩) hlt).trans c3,(hb.cell (p:=⟨b,_,none⟩) hlt).trans c4⟩
theorem Movs.mono{n₀ n₁:Nat}{w:World}{a:Option Addr}{L:List (Mv)}(h:Movs n₀ w a L)(hn:n₀≤n₁):Movs n₁ w a L:=fun hl=>by
 obtain⟨b,off,rfl,hlt,hc⟩:=h hl;exact⟨b,off,rfl,by omega,hc⟩
theorem Movs.grow{w w':World}{a:Option Addr}{L:List (Mv)}(h:Movs w.heap.size w a L)(hb:Below w.heap.size w w'):Movs w'.heap.size w' a L:=(h.below hb).mono hb.size
theorem Movs.nil{n₀:Nat}{w:World}{a:Option Addr}:Movs n₀ w a []:=fun h=>absurd h (Nat.not_lt_zero _)
theorem Movs.take{n₀:Nat}{w:World}{a:Option Addr}{L:List (Mv)}(h:Movs n₀ w a L)(n:Nat):Movs n₀ w a (L.take n):=fun hl=>by
 have hl':0<L.length:=by rw[List.length_take]at hl;omega
 obtain⟨b,off,rfl,hlt,hc⟩:=h hl';refine⟨b,off,rfl,hlt,fun i hi=>?_⟩;rw[List.length_take]at hi;have e:mg (L.take n) i=mg L i:=by unfold mg;rw[List.getElem?_take,if_pos (by omega)]
 rw[e];exact hc i (by omega)
def AsksMov(g:Nat)(cb:Array Value)(n₀:Nat)(w:World)(p:Mv→Bool):Prop:=
 ∀(W:World) (r:Mv),Below n₀ w W→Calls Tryz.prog g (#[movV r]++cb) W fun e w'=>e=.returned (.bool (p r))∧Below W.heap.size W w'
def mov_first(L:List (Mv))(p:Mv→Bool):Int:=match (List.range L.length).find? (fun i=>p (mg L i))with
 | some i=>i
 | none=>-1
theorem mov_first_hit(L:List (Mv))(p:Mv→Bool)(k:Nat)(hk:k<L.length)(h:p (mg L k)=true)(hn:∀j,j<k→p (mg L j)=false):mov_first L p=k:=by
 unfold mov_first
 have:(List.range L.length).find? (fun i=>p (mg L i))=some k:=by
  rw[List.find?_eq_some_iff_getElem];refine⟨by simpa using h,k,by simpa using hk,by simp,fun j hj=>?_⟩
  simpa using hn j hj
 rw[this]
theorem mov_first_miss(L:List (Mv))(p:Mv→Bool)(hn:∀j,j<L.length→p (mg L j)=false):mov_first L p=-1:=by
 unfold mov_first
 have:(List.range L.length).find? (fun i=>p (mg L i))=none:=by
  rw[List.find?_eq_none];intro x hx
  simpa using hn x (by simpa using hx)
 rw[this]
theorem mov_first_cases(L:List (Mv))(p:Mv→Bool):(mov_first L p=-1∧∀j,j<L.length→p (mg L j)=false)∨∃k:Nat,k<L.length∧mov_first L p=k∧p (mg L k)=true∧∀j,j<k→p (mg L j)=false:=by
 have main:∀n,n≤L.length→(∀j,j<n→p (mg L j)=false)∨∃k,k<n∧p (mg L k)=true∧∀j,j<k→p (mg L j)=false:=by
  intro n
  induction n with
  | zero=>exact fun _=>.inl fun j hj=>absurd hj (Nat.not_lt_zero _)
  | succ n ih=>
   intro hn;rcases ih (by omega)with h | ⟨k,hk,h1,h2⟩
   ·cases e:p (mg L n)
    ·refine .inl fun j hj=>?_
     rcases Nat.lt_or_ge j n with l | l
     ·exact h j l
     ·obtain rfl:j=n:=by omega
      exact e
    ·exact .inr ⟨n,by omega,e,h⟩
   ·exact .inr ⟨k,by omega,h1,h2⟩
 rcases main L.length (Nat.le_refl _)with h | ⟨k,hk,h1,h2⟩
 ·exact .inl ⟨mov_first_miss L p h,h⟩
 ·exact .inr ⟨k,hk,mov_first_hit L p k hk h1 h2,h1,h2⟩
def mov_any(L:List (Mv))(p:Mv→Bool):Bool:=decide (0≤mov_first L p)
theorem mov_any_eq(L:List (Mv))(p:Mv→Bool):mov_any L p=L.any p:=by
 unfold mov_any;rw[Bool.eq_iff_iff,List.any_eq_true,decide_eq_true_eq];rcases mov_first_cases L p with ⟨h,h2⟩ | ⟨k,hk,h,h1,_⟩
 ·rw[h]
  refine⟨fun h=>by omega,fun ⟨x,hx,hp⟩=>?_⟩;obtain⟨j,hj,e⟩:=List.getElem_of_mem hx;have:=h2 j hj;rw[mg_eq L j hj,e,hp]at this
  cases this
 ·rw[h]
  exact⟨fun _=>⟨_,by rw[mg_eq L k hk];exact List.getElem_mem hk,h1⟩,fun _=>by omega⟩

theorem mov_indexFunc(a:Option Addr)(L:List (Mv))(cap n₀ g:Nat)(cb:Array Value)(p:Mv→Bool)(w:World)(eg:∀args w,(callFunc g args).run Tryz.prog w=.ok (.enter g args) w)
  (hl:L.length≤1100) (hn₀:n₀≤w.heap.size) (hI:Movs n₀ w a L) (hp:AsksMov g cb n₀ w p):
  Calls Tryz.prog 117 #[.slice a L.length cap,.func (.func g) #[] cb] w fun e w'=>e=.returned (.int .i64 (mov_first L p))∧Below w.heap.size w w':=by
 have HI:=lh hI;clear hI;have HP:=lh hp;clear hp
 go_enter Tryz.func117,Tryz.ntmps117
 go_wp2
 go_loopw [8] (fun i wr=>∃k:Nat,k≤L.length∧i=.int .i64 k∧Below w.heap.size w wr∧Hid (∀j,j<k→p (mg L j)=false)) (fun i _=>L.length-(intOf i).toNat)
 case atStart=>exact⟨0,Nat.zero_le _,rfl,br,lh (fun _ h=>absurd h (Nat.not_lt_zero _))⟩
 case round=>
  obtain⟨k,hk,rfl,hB,HA⟩:=hrel
  by_cases hlt:k<L.length
  ·obtain⟨b,off,rfl,hb,hc⟩:=HI.out (by omega)
   obtain⟨c0,c1,c2,c3,c4⟩:=hc k hlt;have d0:=(hB.cell (p:=⟨b,off+k*5,none⟩) (show b<w.heap.size by omega)).trans c0;have d1:=(hB.cell (p:=⟨b,off+k*5+1,none⟩) (show b<w.heap.size by omega)).trans c1;have d2:=(hB.cell (p:=⟨b,off+k*5+2,none⟩) (show b<w.heap.size by omega)).trans c2;have d3:=(hB.cell (p:=⟨b,off+k*5+3,none⟩) (show b<w.heap.size by omega)).trans c3;have d4:=(hB.cell (p:=⟨b,off+k*5+4,none⟩) (show b<w.heap.size by omega)).trans c4;clear c0 c1 c2 c3 c4 hc;have HC:=lh (show Calls Tryz.prog g (#[.agg #[.string (mg L k).name,.int .i64 (mg L k).to,.int .i64 (mg L k).spd,.int .i64 (mg L k).rise,.int .i64 (mg L k).fall]]++cb) wr _ from HP.out wr (mg L k) (hB.mono hn₀));obtain⟨bv,hbv⟩:=nm (p (mg L k));rw[hbv]at HC
   cases bv
   ·have HB:Hid (∀j,j<k+1→p (mg L j)=false):=lh fun j hj=>by
     rcases Nat.lt_or_ge j k with l | l
     ·exact HA.out j l
     ·obtain rfl:j=k:=by omega
      exact hbv
    clear hbv
    go_wp2_with ((with_reducible refine HC.out.mono ?_);rintro e w1 ⟨rfl,hb1⟩)
    go_roundw
    case rel=>exact⟨k+1,by omega,by go_num,hB.trans (hb1.mono hB.size),HB⟩
    case measure=>simp[intOf];omega
   ·have H:=lh (mov_first_hit L p k hlt hbv HA.out)
    clear hbv
    go_wp2_with ((with_reducible refine HC.out.mono ?_);rintro e w1 ⟨rfl,hb1⟩)
    go_ret;exact⟨ret_int H.out.symm,hB.trans (hb1.mono hB.size)⟩
  ·obtain rfl:k=L.length:=by omega
   have H:=lh (mov_first_miss L p HA.out)
   go_wp2
   go_ret;exact⟨ret_int H.out.symm,hB⟩

theorem mov_containsFunc(a:Option Addr)(L:List (Mv))(cap n₀ g:Nat)(cb:Array Value)(p:Mv→Bool)(w:World)(eg:∀args w,(callFunc g args).run Tryz.prog w=.ok (.enter g args) w)
  (hl:L.length≤1100) (hn₀:n₀≤w.heap.size) (hI:Movs n₀ w a L) (hp:AsksMov g cb n₀ w p):
  Calls Tryz.prog 149 #[.slice a L.length cap,.func (.func g) #[] cb] w fun e w'=>e=.returned (.bool (mov_any L p))∧Below w.heap.size w w':=by
 have HC:=lh (mov_indexFunc a L cap n₀ g cb p w eg hl hn₀ hI hp);clear hI hp eg
 go_enter Tryz.func149,Tryz.ntmps149
 go_wp2_with (go_at_call 117;(with_reducible refine HC.out.mono ?_);rintro e w1 ⟨rfl,hb1⟩)
 go_ret;exact⟨rfl,hb1⟩

/-! ### Slices of api.Cue -/
structure CueR where
 name:ByteArray
 after:ByteArray
 link:Int
 delay:Int
 ma:Option Addr
 moves:List Mv
 mc:Nat
 crew:Int
 power:Int

def cg(L:List (CueR))(i:Nat):CueR:=(L[i]?).getD ⟨⟨#[]⟩,⟨#[]⟩,0,0,none,[],0,0,0⟩
theorem cg_eq(L:List (CueR))(i:Nat)(h:i<L.length):cg L i=L[i]:=by unfold cg;rw[List.getElem?_eq_getElem h];rfl
def cueV(r:CueR):Value:=.agg #[.string r.name,.string r.after,.int .i64 r.link,.int .i64 r.delay,.slice r.ma r.moves.length r.mc,.int .i64 r.crew,.int .i64 r.power]
def cflat(L:List (CueR)):List Value:=L.flatMap fun r=>[.string r.name,.string r.after,.int .i64 r.link,.int .i64 r.delay,.slice r.ma r.moves.length r.mc,.int .i64 r.crew,.int .i64 r.power]
theorem cflat_at(L:List (CueR))(i:Nat)(hi:i<L.length):(cflat L)[i*7]? =some (.string (cg L i).name)∧(cflat L)[i*7+1]? =some (.string (cg L i).after)∧(cflat L)[i*7+2]? =some (.int .i64 (cg L i).link)∧(cflat L)[i*7+3]? =some (.int .i64 (cg L i).delay)∧(cflat L)[i*7+4]? =some (.slice (cg L i).ma (cg L i).moves.length (cg L i).mc)∧(cflat L)[i*7+5]? =some (.int .i64 (cg L i).crew)∧(cflat L)[i*7+6]? =some (.int .i64 (cg L i).power):=by
 induction L generalizing i with
 | nil=>simp at hi
 | cons x r ih=>
  match i with
  | 0=>exact⟨rfl,rfl,rfl,rfl,rfl,rfl,rfl⟩
  | i+1=>
   have:=ih i (by simpa using hi);have e:cflat (x::r)=.string x.name::.string x.after::.int .i64 x.link::.int .i64 x.delay::.slice x.ma x.moves.length x.mc::.int .i64 x.crew::.int .i64 x.power::cflat r:=rfl;rw[e,show(i+1)*7=i*7+1+1+1+1+1+1+1 by omega]
   simpa[cg]using this
def Cues(n₀:Nat)(w:World)(a:Option Addr)(L:List (CueR)):Prop:=
 0<L.length→∃b off,a=some ⟨b,off,none⟩∧b<n₀∧∀i,i<L.length→w.cell? ⟨b,off+i*7,none⟩=some (.string (cg L i).name)∧w.cell? ⟨b,off+i*7+1,none⟩=some (.string (cg L i).after)∧w.cell? ⟨b,off+i*7+2,none⟩=some (.int .i64 (cg L i).link)∧w.cell? ⟨b,off+i*7+3,none⟩=some (.int .i64 (cg L i).delay)∧w.cell? ⟨b,off+i*7+4,none⟩=some (.slice (cg L i).ma (cg L i).moves.length (cg L i).mc)∧w.cell? ⟨b,off+i*7+5,none⟩=some (.int .i64 (cg L i).crew)∧w.cell? ⟨b,off+i*7+6,none⟩=some (.int .i64 (cg L i).power)
theorem Cues.below{n₀:Nat}{w w':World}{a:Option Addr}{L:List (CueR)}(h:Cues n₀ w a L)(hb:Below n₀ w w'):Cues n₀ w' a L:=fun hl=>by
 obtain⟨b,off,rfl,hlt,hc⟩:=h hl;refine⟨b,off,rfl,hlt,fun i hi=>?_⟩;obtain⟨c0,c1,c2,c3,c4,c5,c6⟩:=hc i hi;exact⟨(hb.cell (p:=⟨b,_,none⟩) hlt).trans c0,(hb.cell (p:=⟨b,_,none⟩) hlt).trans c1,(hb.cell (p:=⟨b,_,none⟩) hlt).trans c2,(hb.cell (p:=⟨b,_,none⟩) hlt).trans c3,(hb.cell (p:=⟨b,_,none⟩) hlt).trans c4,(hb.cell (p:=⟨b,_,none⟩) hlt).trans c5,(hb.cell (p:=⟨b,_,none⟩) hlt).trans c6⟩
theorem Cues.mono{n₀ n₁:Nat}{w:World}{a:Option Addr}{L:List (CueR)}(h:Cues n₀ w a L)(hn:n₀≤n₁):Cues n₁ w a L:=fun hl=>by
 obtain⟨b,off,rfl,hlt,hc⟩:=h hl;exact⟨b,off,rfl,by omega,hc⟩
theorem Cues.grow{w w':World}{a:Option Addr}{L:List (CueR)}(h:Cues w.heap.size w a L)(hb:Below w.heap.size w w'):Cues w'.heap.size w' a L:=(h.below hb).mono hb.size
theorem Cues.nil{n₀:Nat}{w:World}{a:Option Addr}:Cues n₀ w a []:=fun h=>absurd h (Nat.not_lt_zero _)
theorem Cues.take{n₀:Nat}{w:World}{a:Option Addr}{L:List (CueR)}(h:Cues n₀ w a L)(n:Nat):Cues n₀ w a (L.take n):=fun hl=>by
 have hl':0<L.length:=by rw[List.length_take]at hl;omega
 obtain⟨b,off,rfl,hlt,hc⟩:=h hl';refine⟨b,off,rfl,hlt,fun i hi=>?_⟩;rw[List.length_take]at hi;have e:cg (L.take n) i=cg L i:=by unfold cg;rw[List.getElem?_take,if_pos (by omega)]
 rw[e];exact hc i (by omega)
def AsksC(g:Nat)(cb:Array Value)(n₀:Nat)(w:World)(p:CueR→Bool):Prop:=
 ∀(W:World) (r:CueR),Below n₀ w W→Calls Tryz.prog g (#[cueV r]++cb) W fun e w'=>e=.returned (.bool (p r))∧Below W.heap.size W w'
def cue_first(L:List (CueR))(p:CueR→Bool):Int:=match (List.range L.length).find? (fun i=>p (cg L i))with
 | some i=>i
 | none=>-1
theorem cue_first_hit(L:List (CueR))(p:CueR→Bool)(k:Nat)(hk:k<L.length)(h:p (cg L k)=true)(hn:∀j,j<k→p (cg L j)=false):cue_first L p=k:=by
 unfold cue_first
 have:(List.range L.length).find? (fun i=>p (cg L i))=some k:=by
  rw[List.find?_eq_some_iff_getElem];refine⟨by simpa using h,k,by simpa using hk,by simp,fun j hj=>?_⟩
  simpa using hn j hj
 rw[this]
theorem cue_first_miss(L:List (CueR))(p:CueR→Bool)(hn:∀j,j<L.length→p (cg L j)=false):cue_first L p=-1:=by
 unfold cue_first
 have:(List.range L.length).find? (fun i=>p (cg L i))=none:=by
  rw[List.find?_eq_none];intro x hx
  simpa using hn x (by simpa using hx)
 rw[this]
theorem cue_first_cases(L:List (CueR))(p:CueR→Bool):(cue_first L p=-1∧∀j,j<L.length→p (cg L j)=false)∨∃k:Nat,k<L.length∧cue_first L p=k∧p (cg L k)=true∧∀j,j<k→p (cg L j)=false:=by
 have main:∀n,n≤L.length→(∀j,j<n→p (cg L j)=false)∨∃k,k<n∧p (cg L k)=true∧∀j,j<k→p (cg L j)=false:=by
  intro n
  induction n with
  | zero=>exact fun _=>.inl fun j hj=>absurd hj (Nat.not_lt_zero _)
  | succ n ih=>
   intro hn;rcases ih (by omega)with h | ⟨k,hk,h1,h2⟩
   ·cases e:p (cg L n)
    ·refine .inl fun j hj=>?_
     rcases Nat.lt_or_ge j n with l | l
     ·exact h j l
     ·obtain rfl:j=n:=by omega
      exact e
    ·exact .inr ⟨n,by omega,e,h⟩
   ·exact .inr ⟨k,by omega,h1,h2⟩
 rcases main L.length (Nat.le_refl _)with h | ⟨k,hk,h1,h2⟩
 ·exact .inl ⟨cue_first_miss L p h,h⟩
 ·exact .inr ⟨k,hk,cue_first_hit L p k hk h1 h2,h1,h2⟩
def cue_any(L:List (CueR))(p:CueR→Bool):Bool:=decide (0≤cue_first L p)
theorem cue_any_eq(L:List (CueR))(p:CueR→Bool):cue_any L p=L.any p:=by
 unfold cue_any;rw[Bool.eq_iff_iff,List.any_eq_true,decide_eq_true_eq];rcases cue_first_cases L p with ⟨h,h2⟩ | ⟨k,hk,h,h1,_⟩
 ·rw[h]
  refine⟨fun h=>by omega,fun ⟨x,hx,hp⟩=>?_⟩;obtain⟨j,hj,e⟩:=List.getElem_of_mem hx;have:=h2 j hj;rw[cg_eq L j hj,e,hp]at this
  cases this
 ·rw[h]
  exact⟨fun _=>⟨_,by rw[cg_eq L k hk];exact List.getElem_mem hk,h1⟩,fun _=>by omega⟩

theorem cue_indexFunc(a:Option Addr)(L:List (CueR))(cap n₀ g:Nat)(cb:Array Value)(p:CueR→Bool)(w:World)(eg:∀args w,(callFunc g args).run Tryz.prog w=.ok (.enter g args) w)
  (hl:L.length≤1100) (hn₀:n₀≤w.heap.size) (hI:Cues n₀ w a L) (hp:AsksC g cb n₀ w p):
  Calls Tryz.prog 65 #[.slice a L.length cap,.func (.func g) #[] cb] w fun e w'=>e=.returned (.int .i64 (cue_first L p))∧Below w.heap.size w w':=by
 have HI:=lh hI;clear hI;have HP:=lh hp;clear hp
 go_enter Tryz.func65,Tryz.ntmps65
 go_wp2
 go_loopw [8] (fun i wr=>∃k:Nat,k≤L.length∧i=.int .i64 k∧Below w.heap.size w wr∧Hid (∀j,j<k→p (cg L j)=false)) (fun i _=>L.length-(intOf i).toNat)
 case atStart=>exact⟨0,Nat.zero_le _,rfl,br,lh (fun _ h=>absurd h (Nat.not_lt_zero _))⟩
 case round=>
  obtain⟨k,hk,rfl,hB,HA⟩:=hrel
  by_cases hlt:k<L.length
  ·obtain⟨b,off,rfl,hb,hc⟩:=HI.out (by omega)
   obtain⟨c0,c1,c2,c3,c4,c5,c6⟩:=hc k hlt;have d0:=(hB.cell (p:=⟨b,off+k*7,none⟩) (show b<w.heap.size by omega)).trans c0;have d1:=(hB.cell (p:=⟨b,off+k*7+1,none⟩) (show b<w.heap.size by omega)).trans c1;have d2:=(hB.cell (p:=⟨b,off+k*7+2,none⟩) (show b<w.heap.size by omega)).trans c2;have d3:=(hB.cell (p:=⟨b,off+k*7+3,none⟩) (show b<w.heap.size by omega)).trans c3;have d4:=(hB.cell (p:=⟨b,off+k*7+4,none⟩) (show b<w.heap.size by omega)).trans c4;have d5:=(hB.cell (p:=⟨b,off+k*7+5,none⟩) (show b<w.heap.size by omega)).trans c5;have d6:=(hB.cell (p:=⟨b,off+k*7+6,none⟩) (show b<w.heap.size by omega)).trans c6;clear c0 c1 c2 c3 c4 c5 c6 hc;have HC:=lh (show Calls Tryz.prog g (#[.agg #[.string (cg L k).name,.string (cg L k).after,.int .i64 (cg L k).link,.int .i64 (cg L k).delay,.slice (cg L k).ma (cg L k).moves.length (cg L k).mc,.int .i64 (cg L k).crew,.int .i64 (cg L k).power]]++cb) wr _ from HP.out wr (cg L k) (hB.mono hn₀));obtain⟨bv,hbv⟩:=nm (p (cg L k));rw[hbv]at HC
   cases bv
   ·have HB:Hid (∀j,j<k+1→p (cg L j)=false):=lh fun j hj=>by
     rcases Nat.lt_or_ge j k with l | l
     ·exact HA.out j l
     ·obtain rfl:j=k:=by omega
      exact hbv
    clear hbv
    go_wp2_with ((with_reducible refine HC.out.mono ?_);rintro e w1 ⟨rfl,hb1⟩)
    go_roundw
    case rel=>exact⟨k+1,by omega,by go_num,hB.trans (hb1.mono hB.size),HB⟩
    case measure=>simp[intOf];omega
   ·have H:=lh (cue_first_hit L p k hlt hbv HA.out)
    clear hbv
    go_wp2_with ((with_reducible refine HC.out.mono ?_);rintro e w1 ⟨rfl,hb1⟩)
    go_ret;exact⟨ret_int H.out.symm,hB.trans (hb1.mono hB.size)⟩
  ·obtain rfl:k=L.length:=by omega
   have H:=lh (cue_first_miss L p HA.out)
   go_wp2
   go_ret;exact⟨ret_int H.out.symm,hB⟩

/-! ### Slices of [2]string -/

def pg(L:List (ByteArray×ByteArray))(i:Nat):ByteArray×ByteArray:=(L[i]?).getD (⟨#[]⟩,⟨#[]⟩)
theorem pg_eq(L:List (ByteArray×ByteArray))(i:Nat)(h:i<L.length):pg L i=L[i]:=by unfold pg;rw[List.getElem?_eq_getElem h];rfl
def pairV(r:ByteArray×ByteArray):Value:=.agg #[.string r.1,.string r.2]
def pflat(L:List (ByteArray×ByteArray)):List Value:=L.flatMap fun r=>[.string r.1,.string r.2]
theorem pflat_at(L:List (ByteArray×ByteArray))(i:Nat)(hi:i<L.length):(pflat L)[i*2]? =some (.string (pg L i).1)∧(pflat L)[i*2+1]? =some (.string (pg L i).2):=by
 induction L generalizing i with
 | nil=>simp at hi
 | cons x r ih=>
  match i with
  | 0=>exact⟨rfl,rfl⟩
  | i+1=>
   have:=ih i (by simpa using hi);have e:pflat (x::r)=.string x.1::.string x.2::pflat r:=rfl;rw[e,show(i+1)*2=i*2+1+1 by omega]
   simpa[pg]using this
def Pairs(n₀:Nat)(w:World)(a:Option Addr)(L:List (ByteArray×ByteArray)):Prop:=
 0<L.length→∃b off,a=some ⟨b,off,none⟩∧b<n₀∧∀i,i<L.length→w.cell? ⟨b,off+i*2,none⟩=some (.string (pg L i).1)∧w.cell? ⟨b,off+i*2+1,none⟩=some (.string (pg L i).2)
theorem Pairs.below{n₀:Nat}{w w':World}{a:Option Addr}{L:List (ByteArray×ByteArray)}(h:Pairs n₀ w a L)(hb:Below n₀ w w'):Pairs n₀ w' a L:=fun hl=>by
 obtain⟨b,off,rfl,hlt,hc⟩:=h hl;refine⟨b,off,rfl,hlt,fun i hi=>?_⟩;obtain⟨c0,c1⟩:=hc i hi;exact⟨(hb.cell (p:=⟨b,_,none⟩) hlt).trans c0,(hb.cell (p:=⟨b,_,none⟩) hlt).trans c1⟩
theorem Pairs.mono{n₀ n₁:Nat}{w:World}{a:Option Addr}{L:List (ByteArray×ByteArray)}(h:Pairs n₀ w a L)(hn:n₀≤n₁):Pairs n₁ w a L:=fun hl=>by
 obtain⟨b,off,rfl,hlt,hc⟩:=h hl;exact⟨b,off,rfl,by omega,hc⟩
theorem Pairs.grow{w w':World}{a:Option Addr}{L:List (ByteArray×ByteArray)}(h:Pairs w.heap.size w a L)(hb:Below w.heap.size w w'):Pairs w'.heap.size w' a L:=(h.below hb).mono hb.size
theorem Pairs.nil{n₀:Nat}{w:World}{a:Option Addr}:Pairs n₀ w a []:=fun h=>absurd h (Nat.not_lt_zero _)
theorem Pairs.take{n₀:Nat}{w:World}{a:Option Addr}{L:List (ByteArray×ByteArray)}(h:Pairs n₀ w a L)(n:Nat):Pairs n₀ w a (L.take n):=fun hl=>by
 have hl':0<L.length:=by rw[List.length_take]at hl;omega
 obtain⟨b,off,rfl,hlt,hc⟩:=h hl';refine⟨b,off,rfl,hlt,fun i hi=>?_⟩;rw[List.length_take]at hi;have e:pg (L.take n) i=pg L i:=by unfold pg;rw[List.getElem?_take,if_pos (by omega)]
 rw[e];exact hc i (by omega)
def AsksP(g:Nat)(cb:Array Value)(n₀:Nat)(w:World)(p:ByteArray×ByteArray→Bool):Prop:=
 ∀(W:World) (r:ByteArray×ByteArray),Below n₀ w W→Calls Tryz.prog g (#[pairV r]++cb) W fun e w'=>e=.returned (.bool (p r))∧Below W.heap.size W w'
def pair_first(L:List (ByteArray×ByteArray))(p:ByteArray×ByteArray→Bool):Int:=match (List.range L.length).find? (fun i=>p (pg L i))with
 | some i=>i
 | none=>-1
theorem pair_first_hit(L:List (ByteArray×ByteArray))(p:ByteArray×ByteArray→Bool)(k:Nat)(hk:k<L.length)(h:p (pg L k)=true)(hn:∀j,j<k→p (pg L j)=false):pair_first L p=k:=by
 unfold pair_first
 have:(List.range L.length).find? (fun i=>p (pg L i))=some k:=by
  rw[List.find?_eq_some_iff_getElem];refine⟨by simpa using h,k,by simpa using hk,by simp,fun j hj=>?_⟩
  simpa using hn j hj
 rw[this]
theorem pair_first_miss(L:List (ByteArray×ByteArray))(p:ByteArray×ByteArray→Bool)(hn:∀j,j<L.length→p (pg L j)=false):pair_first L p=-1:=by
 unfold pair_first
 have:(List.range L.length).find? (fun i=>p (pg L i))=none:=by
  rw[List.find?_eq_none];intro x hx
  simpa using hn x (by simpa using hx)
 rw[this]
def pair_any(L:List (ByteArray×ByteArray))(p:ByteArray×ByteArray→Bool):Bool:=decide (0≤pair_first L p)
structure SheetR where
 ca:Option Addr
 cues:List CueR
 cc:Nat
 pa:Option Addr
 pairs:List (ByteArray×ByteArray)
 pc:Nat
structure SheetIn0(w:World)(s:SheetR):Prop where
 lies:Cues w.heap.size w s.ca s.cues
 each:∀i,i<s.cues.length→Movs w.heap.size w (cg s.cues i).ma (cg s.cues i).moves
 plies:Pairs w.heap.size w s.pa s.pairs
 ccap:s.cues.length≤s.cc
 cnil:s.ca=none→s.cc=0
 mcap:∀i,i<s.cues.length→(cg s.cues i).moves.length≤(cg s.cues i).mc
 mnil:∀i,i<s.cues.length→(cg s.cues i).ma=none→(cg s.cues i).mc=0
 pcap:s.pairs.length≤s.pc
 pnil:s.pa=none→s.pc=0
theorem SheetIn0.grow{w w':World}{s:SheetR}(x:SheetIn0 w s)(hb:Below w.heap.size w w'):SheetIn0 w' s:=
 ⟨x.lies.grow hb,fun i hi=>(x.each i hi).grow hb,x.plies.grow hb,x.ccap,x.cnil,x.mcap,x.mnil,x.pcap,x.pnil⟩
def SheetAt(w:World)(b:Nat)(s:SheetR):Prop:=w.cell? ⟨b,0,none⟩=some (.slice s.ca s.cues.length s.cc)∧w.cell? ⟨b,1,none⟩=some (.slice s.pa s.pairs.length s.pc)
theorem SheetAt.carry{w w':World}{b:Nat}{s:SheetR}(x:SheetAt w b s)(hb:Below w.heap.size w w'):SheetAt w' b s:=by
 have hlt:b<w.heap.size:=wl x.1;exact⟨(hb.cell (p:=⟨b,0,none⟩) hlt).trans x.1,(hb.cell (p:=⟨b,1,none⟩) hlt).trans x.2⟩

abbrev LSh(s:SheetR):Obj:=.cells #[.slice s.ca s.cues.length s.cc,.slice s.pa s.pairs.length s.pc] 29
abbrev LCu(q:CueR):Obj:=.cells #[.string q.name,.string q.after,.int .i64 q.link,.int .i64 q.delay,.slice q.ma q.moves.length q.mc,.int .i64 q.crew,.int .i64 q.power] 86
end
section
open Go.RowKit Go.Shelf
theorem pair_indexFunc(a:Option Addr)(L:List (ByteArray×ByteArray))(cap n₀ g:Nat)(cb:Array Value)(p:ByteArray×ByteArray→Bool)(w:World)(eg:∀args w,(callFunc g args).run Tryz.prog w=.ok (.enter g args) w)
  (hl:L.length≤1100) (hn₀:n₀≤w.heap.size) (hI:Pairs n₀ w a L) (hp:AsksP g cb n₀ w p):
  Calls Tryz.prog 185 #[.slice a L.length cap,.func (.func g) #[] cb] w fun e w'=>e=.returned (.int .i64 (pair_first L p))∧Below w.heap.size w w':=by
 have HI:=lh hI;clear hI;have HP:=lh hp;clear hp
 go_enter Tryz.func185,Tryz.ntmps185
 go_wp2
 go_loopw [8] (fun i wr=>∃k:Nat,k≤L.length∧i=.int .i64 k∧Below w.heap.size w wr∧Hid (∀j,j<k→p (pg L j)=false)) (fun i _=>L.length-(intOf i).toNat)
 case atStart=>exact⟨0,Nat.zero_le _,rfl,br,lh (fun _ h=>absurd h (Nat.not_lt_zero _))⟩
 case round=>
  obtain⟨k,hk,rfl,hB,HA⟩:=hrel
  by_cases hlt:k<L.length
  ·obtain⟨b,off,rfl,hb,hc⟩:=HI.out (by omega)
   obtain⟨c0,c1⟩:=hc k hlt;have d0:=(hB.cell (p:=⟨b,off+k*2,none⟩) (show b<w.heap.size by omega)).trans c0;have d1:=(hB.cell (p:=⟨b,off+k*2+1,none⟩) (show b<w.heap.size by omega)).trans c1;clear c0 c1 hc;have HC:=lh (show Calls Tryz.prog g (#[.agg #[.string (pg L k).1,.string (pg L k).2]]++cb) wr _ from HP.out wr (pg L k) (hB.mono hn₀));obtain⟨bv,hbv⟩:=nm (p (pg L k));rw[hbv]at HC
   cases bv
   ·have HB:Hid (∀j,j<k+1→p (pg L j)=false):=lh fun j hj=>by
     rcases Nat.lt_or_ge j k with l | l
     ·exact HA.out j l
     ·obtain rfl:j=k:=by omega
      exact hbv
    clear hbv
    go_wp2_with ((with_reducible refine HC.out.mono ?_);rintro e w1 ⟨rfl,hb1⟩)
    go_roundw
    case rel=>exact⟨k+1,by omega,by go_num,hB.trans (hb1.mono hB.size),HB⟩
    case measure=>simp[intOf];omega
   ·have H:=lh (pair_first_hit L p k hlt hbv HA.out)
    clear hbv
    go_wp2_with ((with_reducible refine HC.out.mono ?_);rintro e w1 ⟨rfl,hb1⟩)
    go_ret;exact⟨ret_int H.out.symm,hB.trans (hb1.mono hB.size)⟩
  ·obtain rfl:k=L.length:=by omega
   have H:=lh (pair_first_miss L p HA.out)
   go_wp2
   go_ret;exact⟨ret_int H.out.symm,hB⟩

theorem pair_containsFunc(a:Option Addr)(L:List (ByteArray×ByteArray))(cap n₀ g:Nat)(cb:Array Value)(p:ByteArray×ByteArray→Bool)(w:World)(eg:∀args w,(callFunc g args).run Tryz.prog w=.ok (.enter g args) w)
  (hl:L.length≤1100) (hn₀:n₀≤w.heap.size) (hI:Pairs n₀ w a L) (hp:AsksP g cb n₀ w p):
  Calls Tryz.prog 159 #[.slice a L.length cap,.func (.func g) #[] cb] w fun e w'=>e=.returned (.bool (pair_any L p))∧Below w.heap.size w w':=by
 have HC:=lh (pair_indexFunc a L cap n₀ g cb p w eg hl hn₀ hI hp);clear hI hp eg
 go_enter Tryz.func159,Tryz.ntmps159
 go_wp2_with (go_at_call 185;(with_reducible refine HC.out.mono ?_);rintro e w1 ⟨rfl,hb1⟩)
 go_ret;exact⟨rfl,hb1⟩
def findI(L:List CueR)(s:ByteArray):Int:=cue_first L (fun r=>decide (r.name=s))
theorem box2{w w':World}{v u:Value}{t:TypeId}(h:Below (w.alloc (.cells #[v,u] t)).heap.size (w.alloc (.cells #[v,u] t)) w'):w'.cell? ⟨w.heap.size,0,none⟩=some v∧w'.cell? ⟨w.heap.size,1,none⟩=some u:=
 ⟨(h.cell (p:=⟨w.heap.size,0,none⟩) (by simp)).trans (by simp),(h.cell (p:=⟨w.heap.size,1,none⟩) (by simp)).trans (by simp)⟩

theorem asks_name{g:Nat}(bx:Nat)(s:ByteArray)(n₀:Nat)(w:World)(hbx:bx<n₀)(hc:w.cell? ⟨bx,0,none⟩=some (.string s))(hg:g=162):
  AsksC g #[.pointer (some ⟨bx,0,none⟩)] n₀ w (fun r=>decide (r.name=s)):=by
 subst hg;intro W r hB;have hc':=(hB.cell (p:=⟨bx,0,none⟩) hbx).trans hc;have hc2:∀o,(W.alloc o).cell? ⟨bx,0,none⟩=some (.string s):=fun o=>((Below.refl W.heap.size W).alloc (Nat.le_refl _) o |>.cell (p:=⟨bx,0,none⟩) (World.block_lt_of_cell? W _ hc')).trans hc';have H:=lh (str_eq r.name s);show Calls _ _ #[cueV r,.pointer (some ⟨bx,0,none⟩)] _ _;unfold cueV
 go_enter Tryz.func162,Tryz.ntmps162
 go_wp2
 go_ret;exact⟨ret_bool H.out,(br).alloc (Nat.le_refl _) _⟩

theorem find_any(ca:Option Addr)(L:List CueR)(cc:Nat)(v:Value)(s:ByteArray)(w:World)(hlen:L.length≤1100)(hI:Cues w.heap.size w ca L):
  Calls Tryz.prog 116 #[.agg #[.slice ca L.length cc,v],.string s] w fun e w'=>e=.returned (.int .i64 (findI L s))∧Below w.heap.size w w':=by
 have HI:=lh hI;clear hI;have hb0:Below w.heap.size w ((w.alloc (.cells #[.slice ca L.length cc,v] 29)).alloc (.cells #[.string s] 9)):=((below_new w _)).alloc (by simp) _;have HB:=lh hb0;clear hb0
 go_enter Tryz.func116,Tryz.ntmps116
 go_wp2_with (go_at_call 65;(refine(cue_indexFunc _ L _ _ _ _ (fun r=>decide (r.name=s)) _ (enters_of Tryz.func162 (by kernel_rfl) rfl) hlen (Nat.le_refl _) (HI.out.grow HB.out) (asks_name (w.heap.size+1) s _ _ (by simp) (by simp) rfl)).mono ?_);rintro e w4 ⟨rfl,hb4⟩)
 go_ret;exact⟨rfl,HB.out.trans (hb4.mono HB.out.size)⟩

def timeB(n:Int):Bool:=decide (0≤n∧n≤2147483648)
theorem time_any(n:Int)(w:World):Calls Tryz.prog 114 #[.int .i64 n] w fun e w'=>e=.returned (.bool (timeB n))∧w=w':=by
 go_enter Tryz.func114,Tryz.ntmps114
 go_wp2
 all_goals (go_ret;exact⟨ret_bool (by rw[Bool.eq_iff_iff];simp[timeB];try omega),rfl⟩)
end
end Go.Proofs.YtebofaenlhhkaaaGreat
