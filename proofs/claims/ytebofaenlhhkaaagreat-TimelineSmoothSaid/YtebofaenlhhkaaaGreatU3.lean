/-
  NAMES THAT COME TWICE (batten.twice, at items and at bricks).
-/
import Derived.Maps.OwnOps
import Derived.Maps.OwnSet
import Derived.Maps.Views
import Derived.Outline
import Derived.Test.YtebofaenlhhkaaaGreatU2
namespace Go.Proofs.YtebofaenlhhkaaaGreat
set_option maxRecDepth 100000
set_option maxHeartbeats 80000000
section
open Go.RowKit Go.Shelf Go.Maps Go.WideMaps
attribute [local go_sem] Oper.semAt_some
def keyLs(l:List ByteArray):List Lit:=l.map fun s=>.string s.data.toList
theorem keyLs_is(l:List ByteArray):∀x∈keyLs l,WideAt.IsKeyLit x:=by
 intro x hx;unfold keyLs at hx;rw[List.mem_map]at hx;obtain⟨s,_,rfl⟩:=hx
 trivial
theorem any_mem(acc:List Lit)(x:Lit)(hx:WideAt.IsKeyLit x):acc.any (fun y=>y.sameKey x)=true↔x∈acc:=by
 rw[List.any_eq_true]
 constructor
 ·rintro ⟨y,hy,e⟩
  rw[←WideAt.sameKey_eq e];exact hy
 ·exact fun h=>⟨x,h,WideAt.sameKey_self hx⟩
theorem addKey_len:∀(xs acc:List Lit),(∀x∈xs,WideAt.IsKeyLit x)→(xs.foldl addKey acc).length≤acc.length+xs.length∧((xs.foldl addKey acc).length<acc.length+xs.length↔¬(xs.Nodup∧∀x∈xs,x∉acc))
 | [],acc,_=>⟨Nat.le_refl _,by simp⟩
 | x::r,acc,h=>by
  have hx:=h x (List.mem_cons_self ..);rw[List.foldl_cons,List.length_cons]
  by_cases hm:x∈acc
  ·rw[show addKey acc x=acc by unfold addKey;rw[if_pos ((any_mem acc x hx).2 hm)]]
   have h1:=(addKey_len r acc fun y hy=>h y (List.mem_cons_of_mem _ hy)).1;refine⟨by omega,fun _ q=>q.2 x (List.mem_cons_self ..) hm,fun _=>by omega⟩
  ·rw[show addKey acc x=acc++[x]by unfold addKey;rw[if_neg fun q=>hm ((any_mem acc x hx).1 q)]]
   obtain⟨h1,h2⟩:=addKey_len r (acc++[x]) fun y hy=>h y (List.mem_cons_of_mem _ hy);rw[List.length_append,List.length_singleton]at h1 h2;refine⟨by omega,?_⟩;rw[show acc.length+(r.length+1)=acc.length+1+r.length by omega,h2]
   apply not_congr
   rw[List.nodup_cons];simp only[List.mem_append,List.mem_cons,not_or]
   constructor
   ·rintro ⟨a,b⟩
    refine⟨⟨fun q=>(b x q).2.1 rfl,a⟩,fun y hy=>?_⟩;rcases hy with rfl | hy
    ·exact hm
    ·exact(b y hy).1
   ·rintro ⟨⟨a,b⟩,c⟩
    exact⟨b,fun y hy=>⟨c y (.inr hy),fun e=>a (e▸hy),fun h=>by cases h⟩⟩
def twiceB(l:List ByteArray):Bool:=decide (¬l.Nodup)
theorem keyLs_nodup(l:List ByteArray):(keyLs l).Nodup↔l.Nodup:=by
 unfold keyLs
 induction l with
 | nil=>simp
 | cons s t ih=>
  rw[List.map_cons,List.nodup_cons,List.nodup_cons,ih,List.mem_map]
  constructor
  ·rintro ⟨a,b⟩
   exact⟨fun q=>a ⟨s,q,rfl⟩,b⟩
  ·rintro ⟨a,b⟩
   refine⟨?_,b⟩;rintro ⟨t',h1,h2⟩
   apply a
   have:t'=s:=by
    obtain⟨⟨x⟩⟩:=t';obtain⟨⟨y⟩⟩:=s
    simp at h2
    rw[h2]
   rw[←this];exact h1
def NameD(l:List ByteArray):DataW Unit:=setOf (.agg []) (keyLs l)
theorem nameD_size(l:List ByteArray):Maps.size (NameD l)≤l.length∧decide (Maps.size (NameD l)<l.length)=twiceB l:=by
 unfold NameD;rw[size_setOf _ _ (keyLs_is l)];obtain⟨h1,h2⟩:=addKey_len (keyLs l) [] (keyLs_is l);have e:(keyLs l).length=l.length:=by unfold keyLs;rw[List.length_map]
 rw[List.length_nil,Nat.zero_add,e]at h1 h2;refine⟨h1,?_⟩;unfold twiceB;rw[Bool.eq_iff_iff,decide_eq_true_eq,decide_eq_true_eq,←keyLs_nodup l];have h3:(∀x∈keyLs l,x∉([]:List Lit)):=fun _ _ h=>by cases h
 rw[h2];exact not_congr ⟨fun h=>h.1,fun h=>⟨h,h3⟩⟩
theorem nameD_next(l:List ByteArray)(s:ByteArray):(NameD l).put (.string s.data.toList) (.agg [])=NameD (l++[s]):=by
 unfold NameD keyLs;rw[List.map_append,List.map_cons,List.map_nil,setOf_snoc]
theorem keyedN:Keyed Tryz.prog 9:=string_keyed Tryz.underlying9
theorem below_map{H:Type}{w w':World}{b n:Nat}{D:DataW H}{R:Value→Option (DataW H×List MemPlace)}{k:TypeId}{P:Program}(h:w.ownsMap P k R b n D)(hB:Below w.heap.size w w'):w'.ownsMap P k R b n D:=by
 have hlt:=h.lt;obtain⟨es,clock,hb,F,hs,hD⟩:=h;exact⟨es,clock,(hB.block b hlt).trans hb,F,hs,hD⟩
theorem twice_grow{w wr w2 w3:World}{o:Obj}(hB:Below w.heap.size w wr)(h2:Below (wr.alloc o).heap.size (wr.alloc o) w2)(h3:w2.grownBy w3 (some w.heap.size)):Below w.heap.size w w3:=
 have h4:Below w.heap.size w w2:=hB.trans ((mono_in _ h2).mono hB.size)
 h4.grown h3 h4.size (fun j hj=>by cases hj;exact Nat.le_refl _)
theorem item_names_next(L:List ItemR){k:Nat}(h:k<L.length):(L.take (k+1)).map (·.name)=(L.take k).map (·.name)++[(tg L k).name]:=by
 rw[List.take_succ_eq_append_getElem h,List.map_append,tg_eq L k h]
 rfl
theorem item_name_any(r:ItemR)(w:World):
  Calls Tryz.prog 199 #[.agg #[.string r.name,.int .i64 r.pos,.int .i64 r.width,.int .i64 r.weight,.int .i64 r.hang,.int .i64 r.front,.int .i64 r.back]] w fun e w'=>e=.returned (.string r.name)∧Below w.heap.size w w':=by
 go_enter Tryz.func199,Tryz.ntmps199
 go_wp2_with fail
 go_ret;exact⟨rfl,(br).alloc (Nat.le_refl _) _⟩
theorem item_twice(a:Option Addr)(L:List ItemR)(cap n₀:Nat)(w:World)(hn₀:n₀≤w.heap.size)(hl:L.length≤1000)(hs:∀x∈L,x.name.size≤1000)(h:Items n₀ w a L):
  Calls Tryz.prog 198 #[.slice a L.length cap,.func (.func 199) #[] #[]] w fun e w'=>e=.returned (.bool (twiceB (L.map (·.name))))∧Below w.heap.size w w':=by
 have HL:=lh h;have HS:Hid (∀k,k<L.length→(tg L k).name.size≤1000):=lh fun k hk=>hs _ (by rw[tg_eq L k hk];exact List.getElem_mem hk);clear h hs;have hmm:=@run_makeMap Tryz.prog
 go_enter Tryz.func198,Tryz.ntmps198
 go_wp2
 go_loopw [11] (fun i wr=>∃k:Nat,k≤L.length∧i=.int .i64 k∧Hid (wr.ownsMap Tryz.prog 9 unitElem w.heap.size k (NameD ((L.take k).map (·.name))))∧Below w.heap.size w wr) (fun i _=>L.length-(intOf i).toNat)
 case atStart=>exact⟨0,Nat.zero_le _,rfl,lh (World.ownsMap_made _ _ _ _),(br).alloc (Nat.le_refl _) _⟩
 case round=>
  obtain⟨k,hk,rfl,HO,hB⟩:=hrel
  by_cases hlt:k<L.length
  ·obtain⟨b,off,rfl,hb,hx⟩:=HL.out (by omega)
   obtain⟨e0,e1,e2,e3,e4,e5,e6⟩:=hx k hlt;have d0:=(hB.cell (p:=⟨b,_,none⟩) (show b<w.heap.size by omega)).trans e0;have d1:=(hB.cell (p:=⟨b,_,none⟩) (show b<w.heap.size by omega)).trans e1;have d2:=(hB.cell (p:=⟨b,_,none⟩) (show b<w.heap.size by omega)).trans e2;have d3:=(hB.cell (p:=⟨b,_,none⟩) (show b<w.heap.size by omega)).trans e3;have d4:=(hB.cell (p:=⟨b,_,none⟩) (show b<w.heap.size by omega)).trans e4;have d5:=(hB.cell (p:=⟨b,_,none⟩) (show b<w.heap.size by omega)).trans e5;have d6:=(hB.cell (p:=⟨b,_,none⟩) (show b<w.heap.size by omega)).trans e6;have HSZ:=lh (HS.out k hlt);have HN:=lh (item_names_next L hlt);generalize hr:tg L k=r at *;clear hx hr e0 e1 e2 e3 e4 e5 e6
   go_wp2_with (first
    | (go_at_call 199;(with_reducible refine(item_name_any r _).mono ?_);rintro e w2 ⟨rfl,hb2⟩;have HB2:=lh hb2;clear hb2)
    | (at_mapUpdate;refine wpList_mapUpdate_own _ rfl _ _ _ 245 rfl 9 208 keyedN Tryz.underlying245 unitElem w.heap.size k (NameD ((L.take k).map (·.name))) rfl (below_map (HO.out.alloc _) HB2.out) (by unfold maxLen;omega) (.string r.name) (.agg #[]) (.string r.name.data.toList) rfl rfl (keyOf_string_mk Tryz.underlying9 (by have:=HSZ.out;unfold maxLen;omega)) (.agg []) [] unitElem_mk ?_;intro w3 hown3 hgrow3;rw[nameD_next,←HN.out]at hown3;have HO3:=lh hown3;have HG3:=lh hgrow3;clear hown3 hgrow3))
   go_roundw
   case rel=>exact⟨k+1,by omega,by go_num,HO3,twice_grow hB HB2.out HG3.out⟩
   case measure=>simp[intOf];omega
  ·obtain rfl:k=L.length:=by omega
   rw[List.take_length]at HO;obtain⟨n1,n2⟩:=nameD_size (L.map (·.name));rw[List.length_map]at n1 n2;have HE:=lh n2;clear n2 hlt
   go_wp2_with (at_len;refine wpList_len_own _ rfl _ 245 rfl 9 208 Tryz.underlying245 unitElem w.heap.size L.length _ rfl HO.out ?_)
   go_ret;exact⟨ret_bool HE.out,hB⟩
theorem brick_names_next(L:List BrickR){k:Nat}(h:k<L.length):(L.take (k+1)).map (·.name)=(L.take k).map (·.name)++[(bg L k).name]:=by
 rw[List.take_succ_eq_append_getElem h,List.map_append,bg_eq L k h]
 rfl
theorem brick_name_any(r:BrickR)(w:World):
  Calls Tryz.prog 206 #[.agg #[.string r.name,.int .i64 r.weight,.int .i64 r.count]] w fun e w'=>e=.returned (.string r.name)∧Below w.heap.size w w':=by
 go_enter Tryz.func206,Tryz.ntmps206
 go_wp2_with fail
 go_ret;exact⟨rfl,(br).alloc (Nat.le_refl _) _⟩
theorem brick_twice(a:Option Addr)(L:List BrickR)(cap n₀:Nat)(w:World)(hn₀:n₀≤w.heap.size)(hl:L.length≤1000)(hs:∀x∈L,x.name.size≤1000)(h:Bricks n₀ w a L):
  Calls Tryz.prog 205 #[.slice a L.length cap,.func (.func 206) #[] #[]] w fun e w'=>e=.returned (.bool (twiceB (L.map (·.name))))∧Below w.heap.size w w':=by
 have HL:=lh h;have HS:Hid (∀k,k<L.length→(bg L k).name.size≤1000):=lh fun k hk=>hs _ (by rw[bg_eq L k hk];exact List.getElem_mem hk);clear h hs;have hmm:=@run_makeMap Tryz.prog
 go_enter Tryz.func205,Tryz.ntmps205
 go_wp2
 go_loopw [11] (fun i wr=>∃k:Nat,k≤L.length∧i=.int .i64 k∧Hid (wr.ownsMap Tryz.prog 9 unitElem w.heap.size k (NameD ((L.take k).map (·.name))))∧Below w.heap.size w wr) (fun i _=>L.length-(intOf i).toNat)
 case atStart=>exact⟨0,Nat.zero_le _,rfl,lh (World.ownsMap_made _ _ _ _),(br).alloc (Nat.le_refl _) _⟩
 case round=>
  obtain⟨k,hk,rfl,HO,hB⟩:=hrel
  by_cases hlt:k<L.length
  ·obtain⟨b,off,rfl,hb,hx⟩:=HL.out (by omega)
   obtain⟨e0,e1,e2⟩:=hx k hlt;have d0:=(hB.cell (p:=⟨b,_,none⟩) (show b<w.heap.size by omega)).trans e0;have d1:=(hB.cell (p:=⟨b,_,none⟩) (show b<w.heap.size by omega)).trans e1;have d2:=(hB.cell (p:=⟨b,_,none⟩) (show b<w.heap.size by omega)).trans e2;have HSZ:=lh (HS.out k hlt);have HN:=lh (brick_names_next L hlt);generalize hr:bg L k=r at *;clear hx hr e0 e1 e2
   go_wp2_with (first
    | (go_at_call 206;(with_reducible refine(brick_name_any r _).mono ?_);rintro e w2 ⟨rfl,hb2⟩;have HB2:=lh hb2;clear hb2)
    | (at_mapUpdate;refine wpList_mapUpdate_own _ rfl _ _ _ 245 rfl 9 208 keyedN Tryz.underlying245 unitElem w.heap.size k (NameD ((L.take k).map (·.name))) rfl (below_map (HO.out.alloc _) HB2.out) (by unfold maxLen;omega) (.string r.name) (.agg #[]) (.string r.name.data.toList) rfl rfl (keyOf_string_mk Tryz.underlying9 (by have:=HSZ.out;unfold maxLen;omega)) (.agg []) [] unitElem_mk ?_;intro w3 hown3 hgrow3;rw[nameD_next,←HN.out]at hown3;have HO3:=lh hown3;have HG3:=lh hgrow3;clear hown3 hgrow3))
   go_roundw
   case rel=>exact⟨k+1,by omega,by go_num,HO3,twice_grow hB HB2.out HG3.out⟩
   case measure=>simp[intOf];omega
  ·obtain rfl:k=L.length:=by omega
   rw[List.take_length]at HO;obtain⟨n1,n2⟩:=nameD_size (L.map (·.name));rw[List.length_map]at n1 n2;have HE:=lh n2;clear n2 hlt
   go_wp2_with (at_len;refine wpList_len_own _ rfl _ 245 rfl 9 208 Tryz.underlying245 unitElem w.heap.size L.length _ rfl HO.out ?_)
   go_ret;exact⟨ret_bool HE.out,hB⟩
end
section
open Go.RowKit Go.Shelf
theorem below_new2(w:World)(o p:Obj):Below w.heap.size w ((w.alloc o).alloc p):=(below_new w o).alloc (by simp) p
theorem betw_any(n lo hi:Int)(w:World):
  Calls Tryz.prog 180 #[.int .i64 n,.int .i64 lo,.int .i64 hi] w fun e w'=>e=.returned (.bool (betB n lo hi))∧w=w':=by
 have HR:Hid (betB n lo hi=(decide (lo≤n)&&decide (n≤hi))):=lh rfl
 by_cases p1:lo≤n
 ·have g1:decide (lo≤n)=true:=decide_eq_true p1
  rw[g1]at HR;clear p1
  go_enter Tryz.func180,Tryz.ntmps180
  go_wp2_with fail
  go_ret;exact⟨ret_bool (by rw[HR.out];rfl),rfl⟩
 ·have g1:decide (lo≤n)=false:=decide_eq_false p1
  rw[g1]at HR;clear p1
  go_enter Tryz.func180,Tryz.ntmps180
  go_wp2_with fail
  go_ret;exact⟨ret_bool (by rw[HR.out];rfl),rfl⟩
theorem alone_any(r:ItemR)(w:World):
  Calls Tryz.prog 200 #[.agg #[.string r.name,.int .i64 r.pos,.int .i64 r.width,.int .i64 r.weight,.int .i64 r.hang,.int .i64 r.front,.int .i64 r.back]] w fun e w'=>e=.returned (.bool (aloneB r))∧Below w.heap.size w w':=by
 go_enter Tryz.func200,Tryz.ntmps200
 cases h0:isNameB r.name
 ·have HR:Hid (aloneB r=false):=lh (by simp only[aloneB,h0,Bool.false_and])
  have H0:=lh h0;clear h0
  go_wp2_with (first
   | (go_at_call 143;(with_reducible refine(isName_any r.name _).mono ?_);rintro e w1 ⟨rfl,rfl⟩;rw[H0.out]))
  go_ret;exact⟨ret_bool HR.out.symm,below_new _ _⟩
 cases h1:betB r.weight 0 1048576
 ·have HR:Hid (aloneB r=false):=lh (by simp only[aloneB,h0,h1,Bool.true_and,Bool.false_and])
  have H0:=lh h0;have H1:=lh h1;clear h0 h1
  go_wp2_with (first
   | (go_at_call 143;(with_reducible refine(isName_any r.name _).mono ?_);rintro e w1 ⟨rfl,rfl⟩;rw[H0.out])
   | (go_at_call 180;(with_reducible refine(betw_any r.weight 0 1048576 _).mono ?_);rintro e w1 ⟨rfl,rfl⟩;rw[H1.out]))
  go_ret;exact⟨ret_bool HR.out.symm,below_new _ _⟩
 cases h2:betB r.hang 0 1048576
 ·have HR:Hid (aloneB r=false):=lh (by simp only[aloneB,h0,h1,h2,Bool.true_and,Bool.false_and])
  have H0:=lh h0;have H1:=lh h1;have H2:=lh h2;clear h0 h1 h2
  go_wp2_with (first
   | (go_at_call 143;(with_reducible refine(isName_any r.name _).mono ?_);rintro e w1 ⟨rfl,rfl⟩;rw[H0.out])
   | (go_at_call 180;(with_reducible refine(betw_any _ _ _ _).mono ?_);rintro e w1 ⟨rfl,rfl⟩;simp only[H1.out,H2.out]))
  go_ret;exact⟨ret_bool HR.out.symm,below_new _ _⟩
 cases h3:betB r.front 0 1048576
 ·have HR:Hid (aloneB r=false):=lh (by simp only[aloneB,h0,h1,h2,h3,Bool.true_and,Bool.false_and])
  have H0:=lh h0;have H1:=lh h1;have H2:=lh h2;have H3:=lh h3;clear h0 h1 h2 h3
  go_wp2_with (first
   | (go_at_call 143;(with_reducible refine(isName_any r.name _).mono ?_);rintro e w1 ⟨rfl,rfl⟩;rw[H0.out])
   | (go_at_call 180;(with_reducible refine(betw_any _ _ _ _).mono ?_);rintro e w1 ⟨rfl,rfl⟩;simp only[H1.out,H2.out,H3.out]))
  go_ret;exact⟨ret_bool HR.out.symm,below_new _ _⟩
 cases h4:betB r.back 0 1048576
 ·have HR:Hid (aloneB r=false):=lh (by simp only[aloneB,h0,h1,h2,h3,h4,Bool.true_and])
  have H0:=lh h0;have H1:=lh h1;have H2:=lh h2;have H3:=lh h3;have H4:=lh h4;clear h0 h1 h2 h3 h4
  go_wp2_with (first
   | (go_at_call 143;(with_reducible refine(isName_any r.name _).mono ?_);rintro e w1 ⟨rfl,rfl⟩;rw[H0.out])
   | (go_at_call 180;(with_reducible refine(betw_any _ _ _ _).mono ?_);rintro e w1 ⟨rfl,rfl⟩;simp only[H1.out,H2.out,H3.out,H4.out]))
  go_ret;exact⟨ret_bool HR.out.symm,below_new _ _⟩
 have HR:Hid (aloneB r=true):=lh (by simp only[aloneB,h0,h1,h2,h3,h4,Bool.and_self]);have H0:=lh h0;have H1:=lh h1;have H2:=lh h2;have H3:=lh h3;have H4:=lh h4;clear h0 h1 h2 h3 h4
 go_wp2_with (first
  | (go_at_call 143;(with_reducible refine(isName_any r.name _).mono ?_);rintro e w1 ⟨rfl,rfl⟩;rw[H0.out])
  | (go_at_call 180;(with_reducible refine(betw_any r.weight 0 1048576 _).mono ?_);rintro e w1 ⟨rfl,rfl⟩;rw[H1.out])
  | (go_at_call 180;(with_reducible refine(betw_any r.hang 0 1048576 _).mono ?_);rintro e w1 ⟨rfl,rfl⟩;rw[H2.out])
  | (go_at_call 180;(with_reducible refine(betw_any r.front 0 1048576 _).mono ?_);rintro e w1 ⟨rfl,rfl⟩;rw[H3.out])
  | (go_at_call 180;(with_reducible refine(betw_any r.back 0 1048576 _).mono ?_);rintro e w1 ⟨rfl,rfl⟩;rw[H4.out]))
 go_ret;exact⟨ret_bool HR.out.symm,below_new _ _⟩
theorem inside_any(r:ItemR)(len:Int)(w:World)(hl:0≤len∧len≤1048576):
  Calls Tryz.prog 201 #[.agg #[.string r.name,.int .i64 r.pos,.int .i64 r.width,.int .i64 r.weight,.int .i64 r.hang,.int .i64 r.front,.int .i64 r.back],.int .i64 len] w fun e w'=>e=.returned (.bool (insideB r len))∧Below w.heap.size w w':=by
 go_enter Tryz.func201,Tryz.ntmps201
 cases h0:decide (0≤r.pos)
 ·have HR:Hid (insideB r len=false):=lh (by simp only[insideB,h0,Bool.false_and])
  go_wp2_with fail
  go_ret;exact⟨ret_bool HR.out.symm,below_new _ _⟩
 cases h1:betB r.width 1 1048576
 ·have HR:Hid (insideB r len=false):=lh (by simp only[insideB,h0,h1,Bool.true_and,Bool.false_and])
  have H1:=lh h1;clear h1
  go_wp2_with (first
   | (go_at_call 180;(with_reducible refine(betw_any r.width 1 1048576 _).mono ?_);rintro e w1 ⟨rfl,rfl⟩;rw[H1.out]))
  go_ret;exact⟨ret_bool HR.out.symm,below_new _ _⟩
 have hw:=betB_iff.1 h1;have s1:IntKind.i64.wrap (len-r.width)=len-r.width:=IntWalk.i64_in _ (by omega)
 cases h2:decide (r.pos≤len-r.width)
 ·have HR:Hid (insideB r len=false):=lh (by simp only[insideB,h0,h1,h2,Bool.true_and])
  have H1:=lh h1;clear h1
  go_wp2_with (first
   | (go_at_call 180;(with_reducible refine(betw_any r.width 1 1048576 _).mono ?_);rintro e w1 ⟨rfl,rfl⟩;rw[H1.out]))
  go_ret;exact⟨ret_bool HR.out.symm,below_new _ _⟩
 have HR:Hid (insideB r len=true):=lh (by simp only[insideB,h0,h1,h2,Bool.and_self]);have H1:=lh h1;clear h1
 go_wp2_with (first
  | (go_at_call 180;(with_reducible refine(betw_any r.width 1 1048576 _).mono ?_);rintro e w1 ⟨rfl,rfl⟩;rw[H1.out]))
 go_ret;exact⟨ret_bool HR.out.symm,below_new _ _⟩
def apartW(x y:ItemR):Bool:=decide (IntKind.i64.wrap (x.pos+x.width)≤y.pos)||decide (IntKind.i64.wrap (y.pos+y.width)≤x.pos)
theorem apartW_is{x y:ItemR}{len:Int}(hx:item1 len x=true)(hy:item1 len y=true)(hl:0≤len∧len≤1048576):apartW x y=apartB x y:=by
 obtain⟨_,_,_,_,_,a,b,c⟩:=item1_iff.1 hx;obtain⟨_,_,_,_,_,d,e,f⟩:=item1_iff.1 hy;unfold apartW apartB;rw[IntWalk.i64_in _ (by omega),IntWalk.i64_in _ (by omega)]
theorem apart_any(x y:ItemR)(w:World):
  Calls Tryz.prog 204 #[.agg #[.string x.name,.int .i64 x.pos,.int .i64 x.width,.int .i64 x.weight,.int .i64 x.hang,.int .i64 x.front,.int .i64 x.back],.agg #[.string y.name,.int .i64 y.pos,.int .i64 y.width,.int .i64 y.weight,.int .i64 y.hang,.int .i64 y.front,.int .i64 y.back]] w fun e w'=>e=.returned (.bool (apartW x y))∧Below w.heap.size w w':=by
 have HR:Hid (apartW x y=(decide (IntKind.i64.wrap (x.pos+x.width)≤y.pos)||decide (IntKind.i64.wrap (y.pos+y.width)≤x.pos))):=lh rfl;rw[IntWalk.i64_left,IntWalk.i64_left]at HR;obtain⟨p,hp⟩:=nm (wrap64 (x.pos+x.width));obtain⟨q,hq⟩:=nm (wrap64 (y.pos+y.width));rw[hp,hq]at HR
 by_cases p1:p≤y.pos
 ·have g1:decide (p≤y.pos)=true:=decide_eq_true p1
  rw[g1]at HR;clear p1
  go_enter Tryz.func204,Tryz.ntmps204
  go_wp2_with fail
  go_ret;exact⟨ret_bool (by rw[HR.out];rfl),below_new2 _ _ _⟩
 ·have g1:decide (p≤y.pos)=false:=decide_eq_false p1
  rw[g1]at HR;clear p1
  go_enter Tryz.func204,Tryz.ntmps204
  go_wp2_with fail
  go_ret;exact⟨ret_bool (by rw[HR.out];rfl),below_new2 _ _ _⟩
def ItemAt(w:World)(b:Nat)(r:ItemR):Prop:=w.cell? ⟨b,0,none⟩=some (.string r.name)∧w.cell? ⟨b,1,none⟩=some (.int .i64 r.pos)∧w.cell? ⟨b,2,none⟩=some (.int .i64 r.width)∧w.cell? ⟨b,3,none⟩=some (.int .i64 r.weight)∧w.cell? ⟨b,4,none⟩=some (.int .i64 r.hang)∧w.cell? ⟨b,5,none⟩=some (.int .i64 r.front)∧w.cell? ⟨b,6,none⟩=some (.int .i64 r.back)
theorem ItemAt.below{w w':World}{b:Nat}{r:ItemR}(h:ItemAt w b r)(hb:Below w.heap.size w w')(hlt:b<w.heap.size):ItemAt w' b r:=
 let ⟨a0,a1,a2,a3,a4,a5,a6⟩:=h
 ⟨(hb.cell (p:=⟨b,0,none⟩) hlt).trans a0,(hb.cell (p:=⟨b,1,none⟩) hlt).trans a1,(hb.cell (p:=⟨b,2,none⟩) hlt).trans a2,(hb.cell (p:=⟨b,3,none⟩) hlt).trans a3,(hb.cell (p:=⟨b,4,none⟩) hlt).trans a4,(hb.cell (p:=⟨b,5,none⟩) hlt).trans a5,(hb.cell (p:=⟨b,6,none⟩) hlt).trans a6⟩
theorem ItemAt.new(w:World)(r:ItemR)(t:TypeId):ItemAt (w.alloc (.cells #[.string r.name,.int .i64 r.pos,.int .i64 r.width,.int .i64 r.weight,.int .i64 r.hang,.int .i64 r.front,.int .i64 r.back] t)) w.heap.size r:=by
 unfold ItemAt
 simp
theorem ent_apart(args:Array Value)(w:World):(callFunc 203 args).run Tryz.prog w=.ok (.enter 203 args) w:=enters_of Tryz.func203 (by kernel_rfl) rfl args w
theorem apartC_any(bx:Nat)(x y:ItemR)(w:World)(h:ItemAt w bx x)(hlt:bx<w.heap.size):
  Calls Tryz.prog 203 #[.agg #[.string y.name,.int .i64 y.pos,.int .i64 y.width,.int .i64 y.weight,.int .i64 y.hang,.int .i64 y.front,.int .i64 y.back],.pointer (some ⟨bx,0,none⟩)] w fun e w'=>e=.returned (.bool (!apartW x y))∧Below w.heap.size w w':=by
 obtain⟨a0,a1,a2,a3,a4,a5,a6⟩:=h
 go_enter Tryz.func203,Tryz.ntmps203
 go_wp2_with (first
  | (go_at_call 204;(with_reducible refine(apart_any x y _).mono ?_);rintro e w1 ⟨rfl,hb⟩))
 go_ret;exact⟨rfl,mono_in _ hb⟩
theorem asks_apart{w:World}{bx:Nat}{x:ItemR}(h:ItemAt w bx x)(hlt:bx<w.heap.size):AsksI 203 #[.pointer (some ⟨bx,0,none⟩)] w.heap.size w (fun y=>!apartW x y):=by
 intro W r hb;exact apartC_any bx x r W (h.below hb hlt) (Nat.lt_of_lt_of_le hlt hb.size)
end
section
open Go.RowKit Go.Shelf
attribute [local go_sem] Oper.semAt_some
theorem incr_of{f:Nat→Int}{n:Nat}(h:∀j,j+1<n→f j<f (j+1)):∀j,j<n→∀i,i<j→f i<f j
 | 0,_,i,hi=>absurd hi (Nat.not_lt_zero _)
 | j+1,hj,i,hi=>by
  have h1:=h j hj;rcases(show i<j∨i=j by omega)with l | l
  ·have:=incr_of h j (by omega) i l
   omega
  ·subst l;exact h1
theorem lines_iff{L:List Int}{len:Int}:linesB L len=true↔(2≤L.length∧L.length≤10)∧0≤ig L 0∧ig L (L.length-1)≤len∧∀j,j+1<L.length→ig L j<ig L (j+1):=by
 unfold linesB;rw[Bool.and_eq_true,Bool.and_eq_true,betB_iff,List.all_eq_true,decide_eq_true_eq]
 constructor
 ·rintro ⟨h1,h2,h3⟩
  have h4:∀j,j<L.length→0≤ig L j∧ig L j≤len:=fun j hj=>by
   rw[ig_eq L j hj];exact betB_iff.1 (h2 _ (List.getElem_mem hj))
  refine⟨by omega,(h4 0 (by omega)).1,(h4 _ (by omega)).2,fun j hj=>?_⟩;rw[ig_eq L j (by omega),ig_eq L (j+1) hj];exact List.pairwise_iff_getElem.1 h3 j (j+1) _ _ (Nat.lt_succ_self _)
 ·rintro ⟨h1,h2,h3,h4⟩
  have h5:=incr_of (f:=ig L) h4;refine⟨by omega,fun x hx=>?_,?_⟩
  ·obtain⟨j,hj,rfl⟩:=List.getElem_of_mem hx
   rw[←ig_eq L j hj,betB_iff]
   have a:ig L 0≤ig L j:=by
    rcases Nat.eq_zero_or_pos j with e | e
    ·subst e;exact Int.le_refl _
    ·have:=h5 j hj 0 e;omega
   have b:ig L j≤ig L (L.length-1):=by
    rcases(show j=L.length-1∨j<L.length-1 by omega)with e | e
    ·subst e;exact Int.le_refl _
    ·have:=h5 (L.length-1) (by omega) j e;omega
   omega
  ·rw[List.pairwise_iff_getElem]
   intro i j hi hj hij;rw[←ig_eq L i hi,←ig_eq L j hj];exact h5 j hj i hij
theorem lines_any(a:Option Addr)(L:List Int)(cap:Nat)(len:Int)(w:World)(h:Nums w.heap.size w a L):
  Calls Tryz.prog 181 #[.slice a L.length cap,.int .i64 len] w fun e w'=>e=.returned (.bool (linesB L len))∧Below w.heap.size w w':=by
 have HL:=lh h;clear h;obtain⟨R,hR⟩:=nm (linesB L len);have HI:Hid (R=true↔(2≤L.length∧L.length≤10)∧0≤ig L 0∧ig L (L.length-1)≤len∧∀j,j+1<L.length→ig L j<ig L (j+1)):=lh (by rw[←hR];exact lines_iff);rw[hR];clear hR
 cases hb:betB L.length 2 10
 ·have HB:=lh hb
  have HR:Hid (R=false):=lh (by
   rw[Bool.eq_false_iff];intro q;have h1:=(HI.out.1 q).1;rw[betB_iff.2 (by omega)]at hb
   cases hb)
  clear hb
  go_enter Tryz.func181,Tryz.ntmps181
  go_wp2_with (first
   | (go_at_call 180;(with_reducible refine(betw_any (L.length:Int) 2 10 _).mono ?_);rintro e w1 ⟨rfl,rfl⟩;rw[HB.out]))
  go_ret;exact⟨ret_bool HR.out.symm,br⟩
 have HB:=lh hb;have hbd:=betB_iff.1 hb;obtain⟨b,off,rfl,hlt,hc⟩:=HL.out (by omega);have HC:=lh hc;have HLT:=lh hlt;obtain⟨m,hm⟩:=nm (L.length-1);have e0:=hc 0 (by omega);rw[Nat.add_zero]at e0;have eL:=hc m (by omega);have z1:(L.length:Int)-1=(m:Int):=by omega
 have z2:(m:Int)<L.length:=by omega
 have z3:m<L.length:=by omega
 rw[hm]at HI;obtain⟨x,hx⟩:=nm (ig L 0);obtain⟨y,hy⟩:=nm (ig L m);rw[hx]at e0 HI;rw[hy]at eL HI;clear hb hc hlt hm hx hy
 by_cases q1:x<0
 ·have g1:decide (x<0)=true:=decide_eq_true q1
  have HR:Hid (R=false):=lh (by
   rw[Bool.eq_false_iff];intro q;have:=(HI.out.1 q).2.1;omega)
  clear q1
  go_enter Tryz.func181,Tryz.ntmps181
  go_wp2_with (first
   | (go_at_call 180;(with_reducible refine(betw_any (L.length:Int) 2 10 _).mono ?_);rintro e w1 ⟨rfl,rfl⟩;rw[HB.out]))
  go_ret;exact⟨ret_bool HR.out.symm,br⟩
 have g1:decide (x<0)=false:=decide_eq_false q1
 by_cases q2:len<y
 ·have g2:decide (len<y)=true:=decide_eq_true q2
  have HR:Hid (R=false):=lh (by
   rw[Bool.eq_false_iff];intro q;have:=(HI.out.1 q).2.2.1;omega)
  clear q1 q2
  go_enter Tryz.func181,Tryz.ntmps181
  go_wp2_with (first
   | (go_at_call 180;(with_reducible refine(betw_any (L.length:Int) 2 10 _).mono ?_);rintro e w1 ⟨rfl,rfl⟩;rw[HB.out]))
  go_ret;exact⟨ret_bool HR.out.symm,br⟩
 have g2:decide (len<y)=false:=decide_eq_false q2
 have HI2:Hid (R=true↔∀j,j+1<L.length→ig L j<ig L (j+1)):=lh (by
  rw[HI.out];exact⟨fun h=>h.2.2.2,fun h=>⟨by omega,by omega,by omega,h⟩⟩)
 clear q1 q2 HI
 go_enter Tryz.func181,Tryz.ntmps181
 go_wp2_with (first
  | (go_at_call 180;(with_reducible refine(betw_any (L.length:Int) 2 10 _).mono ?_);rintro e w1 ⟨rfl,rfl⟩;rw[HB.out]))
 clear g1 g2 z1 z2 z3 e0 eL
 go_loopw [5] (fun v wr=>∃k:Nat,1≤k∧k≤L.length∧v=.int .i64 k∧Hid (∀j,j+1<k→ig L j<ig L (j+1))∧Below w.heap.size w wr) (fun v _=>L.length-(intOf v).toNat)
 case atStart=>exact⟨1,Nat.le_refl _,by omega,rfl,lh (fun j hj=>by omega),br⟩
 case round=>
  obtain⟨k,hk1,hk,rfl,HA,hBB⟩:=hrel
  by_cases hlt:k<L.length
  ·obtain⟨q,hq⟩:=nm (k-1)
   have e1:=(hBB.cell (p:=⟨b,off+k,none⟩) HLT.out).trans (HC.out k hlt);have e2:=(hBB.cell (p:=⟨b,off+q,none⟩) HLT.out).trans (HC.out q (by omega));have hkq:k=q+1:=by omega
   have HD:Hid (∀p:Prop,(ig L q<ig L k→p)→(∀j,j+1<k→ig L j<ig L (j+1))→p∨¬ig L q<ig L k):=lh fun p h _=>by
    by_cases c:ig L q<ig L k
    ·exact .inl (h c)
    ·exact .inr c
   have HN:Hid (ig L q<ig L k→∀j,j+1<k+1→ig L j<ig L (j+1)):=lh fun h j hj=>by
    rcases(show j+1<k∨j=q by omega)with l | l
    ·exact HA.out j l
    ·subst l;rw[←hkq];exact h
   have HX:Hid (¬ig L q<ig L k→R=false):=lh fun h=>by
    rw[Bool.eq_false_iff];intro r;have:=HI2.out.1 r q (by omega);rw[←hkq]at this;exact h this
   have z5:(k:Int)-1=(q:Int):=by omega
   have z6:(q:Int)<L.length:=by omega
   have z7:q<L.length:=by omega
   have z8:IntKind.i64.wrap ((k:Int)-1)=(q:Int):=by rw[z5];exact IntWalk.i64_in _ (by omega)
   have z9:(k:Int)<L.length:=by omega
   generalize ig L q=y' at *;generalize ig L k=x' at *;clear hq hkq HD
   by_cases c:y'<x'
   ·have g3:decide (x'≤y')=false:=dF (by omega)
    have HN2:=lh (HN.out c);clear c
    go_wp2_with (go_quiet (fail))
    go_roundw
    case rel=>exact⟨k+1,by omega,by omega,by go_num,HN2,below_drewN hBB _⟩
    case measure=>simp[intOf];omega
   ·have g3:decide (x'≤y')=true:=dT (by omega)
    have HR:=lh (HX.out c);clear c
    go_wp2_with (go_quiet (fail))
    go_ret;exact⟨ret_bool HR.out.symm,below_drewN hBB _⟩
  ·obtain rfl:k=L.length:=by omega
   have HR:Hid (R=true):=lh (HI2.out.2 HA.out)
   go_wp2_with fail
   go_ret;exact⟨ret_bool HR.out.symm,hBB⟩
theorem okTo_iff{L:List BrickR}:∀{k:Nat},k≤L.length→(okTo L k=true↔(∀j,j<k→brick1 (bg L j)=true)∧((L.take k).map (·.name)).Nodup)
 | 0,_=>by simp[okTo]
 | k+1,hk=>by
  have ih:=okTo_iff (L:=L) (k:=k) (by omega);rw[brick_names_next L (show k<L.length by omega),List.nodup_append];simp only[okTo,Bool.and_eq_true,ih];unfold brickK;rw[Bool.and_eq_true,Bool.not_eq_true',brick_any_eq,Bool.eq_false_iff,Ne,List.any_eq_true]
  constructor
  ·rintro ⟨⟨a,b⟩,c,d⟩
   refine⟨fun j hj=>?_,b,by simp,fun x hx y hy=>?_⟩
   ·rcases(show j<k∨j=k by omega)with l | l
    ·exact a j l
    ·subst l;exact c
   ·rw[List.mem_singleton]at hy
    subst hy;intro e
    apply d
    rw[List.mem_map]at hx;obtain⟨r,hr,e2⟩:=hx;exact⟨r,hr,by unfold sameN;rw[e2,e];exact decide_eq_true rfl⟩
  ·rintro ⟨a,b,_,d⟩
   refine⟨⟨fun j hj=>a j (by omega),b⟩,a k (by omega),?_⟩;rintro ⟨r,hr,e⟩;unfold sameN at e;rw[decide_eq_true_eq]at e;exact d r.name (List.mem_map.2 ⟨r,hr,rfl⟩) (bg L k).name (List.mem_singleton.2 rfl) e
theorem brickB_iff{L:List BrickR}:brickB L=true↔L.length≤8∧(L.map (·.name)).Nodup∧(∀j,j<L.length→brick1 (bg L j)=true)∧cntTo L L.length≤60:=by
 unfold brickB;rw[Bool.and_eq_true,Bool.and_eq_true,decide_eq_true_eq,decide_eq_true_eq,okTo_iff (Nat.le_refl _),List.take_length]
 constructor
 ·rintro ⟨a,⟨b,c⟩,d⟩;exact⟨a,c,b,d⟩
 ·rintro ⟨a,c,b,d⟩;exact⟨a,⟨b,c⟩,d⟩
theorem brick1_eq(r:BrickR):brick1 r=(isNameB r.name&&(betB r.weight 1 1048576&&betB r.count 0 60)):=by
 rw[Bool.eq_iff_iff,brick1_iff];simp only[Bool.and_eq_true,betB_iff]
 constructor
 ·rintro ⟨a,b,c,d,e⟩;exact⟨a,⟨b,c⟩,d,e⟩
 ·rintro ⟨a,⟨b,c⟩,d,e⟩;exact⟨a,b,c,d,e⟩
theorem cnt_bd2{L:List BrickR}:∀{k:Nat},(∀j,j<k→brick1 (bg L j)=true)→0≤cntTo L k∧cntTo L k≤60*k
 | 0,_=>by simp[cntTo]
 | k+1,h=>by
  obtain⟨a,b⟩:=cnt_bd2 (L:=L) (k:=k) fun j hj=>h j (by omega);obtain⟨_,_,_,c,d⟩:=(brick1_iff _).1 (h k (by omega));simp only[cntTo];omega
theorem bricks_any(a:Option Addr)(L:List BrickR)(cap:Nat)(w:World)(hsz:∀x∈L,x.name.size≤1000)(h:Bricks w.heap.size w a L):
  Calls Tryz.prog 183 #[.slice a L.length cap] w fun e w'=>e=.returned (.bool (brickB L))∧Below w.heap.size w w':=by
 have HU:=lh h;have HSZ:=lh hsz;clear h hsz;obtain⟨R,hR⟩:=nm (brickB L);have HI:Hid (R=true↔L.length≤8∧(L.map (·.name)).Nodup∧(∀j,j<L.length→brick1 (bg L j)=true)∧cntTo L L.length≤60):=lh (by rw[←hR];exact brickB_iff);rw[hR];clear hR
 by_cases q:8<L.length
 ·have HR:Hid (R=false):=lh (by
   rw[Bool.eq_false_iff];intro h;have:=(HI.out.1 h).1;omega)
  have g:decide ((8:Int)<L.length)=true:=dT (by omega);have g':decide (8<L.length)=true:=dT (by omega);clear q
  go_enter Tryz.func183,Tryz.ntmps183
  go_wp2_with fail
  go_ret;exact⟨ret_bool HR.out.symm,br⟩
 have g:decide ((8:Int)<L.length)=false:=dF (by omega);have g':decide (8<L.length)=false:=dF (by omega);have hq:L.length≤8:=by omega
 clear q
 cases ht:twiceB (L.map (·.name))
 case true=>
  have HT:=lh ht
  have HR:Hid (R=false):=lh (by
   rw[Bool.eq_false_iff];intro h;exact(of_decide_eq_true ht) (HI.out.1 h).2.1)
  clear ht
  go_enter Tryz.func183,Tryz.ntmps183
  go_wp2_with (first
   | (go_at_call 205;(with_reducible refine(brick_twice a L cap w.heap.size _ (Nat.le_refl _) (by omega) HSZ.out HU.out).mono ?_);rintro e w1 ⟨rfl,hb1⟩;rw[HT.out]))
  go_ret;exact⟨ret_bool HR.out.symm,hb1⟩
 have HT:=lh ht
 have HI2:Hid (R=true↔(∀j,j<L.length→brick1 (bg L j)=true)∧cntTo L L.length≤60):=lh (by
  rw[HI.out];have hn:(L.map (·.name)).Nodup:=Classical.not_not.1 (of_decide_eq_false ht);exact⟨fun h=>⟨h.2.2.1,h.2.2.2⟩,fun h=>⟨hq,hn,h.1,h.2⟩⟩)
 clear ht HI
 go_enter Tryz.func183,Tryz.ntmps183
 go_wp2_with (first
  | (go_at_call 205;(with_reducible refine(brick_twice a L cap w.heap.size _ (Nat.le_refl _) (by omega) HSZ.out HU.out).mono ?_);rintro e w1 ⟨rfl,hb1⟩;rw[HT.out]))
 go_loopw [3,15] (fun s i wr=>∃k:Nat,k≤L.length∧i=.int .i64 k∧s=.int .i64 (cntTo L k)∧Hid (∀j,j<k→brick1 (bg L j)=true)∧Below w.heap.size w wr) (fun _ i _=>L.length-(intOf i).toNat)
 case atStart=>exact⟨0,Nat.zero_le _,rfl,rfl,lh (fun j hj=>by omega),hb1⟩
 case round=>
  obtain⟨k,hk,rfl,rfl,HO,hB⟩:=hrel
  by_cases hlt:k<L.length
  ·obtain⟨b,off,rfl,hb,hc⟩:=HU.out (by omega)
   obtain⟨e0,e1,e2⟩:=hc k hlt;have c0:=(hB.cell (p:=⟨b,off+k*3,none⟩) hb).trans e0;have c1:=(hB.cell (p:=⟨b,off+k*3+1,none⟩) hb).trans e1;have c2:=(hB.cell (p:=⟨b,off+k*3+2,none⟩) hb).trans e2;have hbd:=cnt_bd2 HO.out;have HC:Hid (cntTo L (k+1)=cntTo L k+(bg L k).count):=lh rfl
   have HN:Hid (brick1 (bg L k)=false→R=false):=lh fun h=>by
    rw[Bool.eq_false_iff];intro q;rw[(HI2.out.1 q).1 k hlt]at h;cases h
   have HY:Hid (brick1 (bg L k)=true→∀j,j<k+1→brick1 (bg L j)=true):=lh fun h j hj=>by
    rcases(show j<k∨j=k by omega)with l | l
    ·exact HO.out j l
    ·subst l;exact h
   generalize cntTo L k=s at *;generalize bg L k=r at *;clear hc e0 e1 e2;have hB2:=hB.alloc hB.size (.cells #[.string r.name,.int .i64 r.weight,.int .i64 r.count] 179)
   cases h0:isNameB r.name
   ·have HR:Hid ((isNameB r.name&&(betB r.weight 1 1048576&&betB r.count 0 60))=false):=lh (by simp only[h0,Bool.false_and])
    have H0:=lh h0;clear h0;have HZ:=lh (HN.out (by rw[brick1_eq];exact HR.out));clear HN HY
    go_wp2_with (first
     | (go_at_call 143;(with_reducible refine(isName_any r.name _).mono ?_);rintro e w1 ⟨rfl,rfl⟩;rw[H0.out])
     | (go_at_call 180;(with_reducible refine(betw_any r.weight 1 1048576 _).mono ?_);rintro e w1 ⟨rfl,rfl⟩;rw[H1.out])
     | (go_at_call 180;(with_reducible refine(betw_any r.count 0 60 _).mono ?_);rintro e w1 ⟨rfl,rfl⟩;rw[H2.out]))
    go_ret;exact⟨ret_bool HZ.out.symm,hB2⟩
   cases h1:betB r.weight 1 1048576
   ·have HR:Hid ((isNameB r.name&&(betB r.weight 1 1048576&&betB r.count 0 60))=false):=lh (by simp only[h0,h1,Bool.true_and,Bool.false_and])
    have H0:=lh h0;have H1:=lh h1;clear h0 h1;have HZ:=lh (HN.out (by rw[brick1_eq];exact HR.out));clear HN HY
    go_wp2_with (first
     | (go_at_call 143;(with_reducible refine(isName_any r.name _).mono ?_);rintro e w1 ⟨rfl,rfl⟩;rw[H0.out])
     | (go_at_call 180;(with_reducible refine(betw_any r.weight 1 1048576 _).mono ?_);rintro e w1 ⟨rfl,rfl⟩;rw[H1.out])
     | (go_at_call 180;(with_reducible refine(betw_any r.count 0 60 _).mono ?_);rintro e w1 ⟨rfl,rfl⟩;rw[H2.out]))
    go_ret;exact⟨ret_bool HZ.out.symm,hB2⟩
   cases h2:betB r.count 0 60
   ·have HR:Hid ((isNameB r.name&&(betB r.weight 1 1048576&&betB r.count 0 60))=false):=lh (by simp only[h0,h1,h2,Bool.true_and])
    have H0:=lh h0;have H1:=lh h1;have H2:=lh h2;clear h0 h1 h2;have HZ:=lh (HN.out (by rw[brick1_eq];exact HR.out));clear HN HY
    go_wp2_with (first
     | (go_at_call 143;(with_reducible refine(isName_any r.name _).mono ?_);rintro e w1 ⟨rfl,rfl⟩;rw[H0.out])
     | (go_at_call 180;(with_reducible refine(betw_any r.weight 1 1048576 _).mono ?_);rintro e w1 ⟨rfl,rfl⟩;rw[H1.out])
     | (go_at_call 180;(with_reducible refine(betw_any r.count 0 60 _).mono ?_);rintro e w1 ⟨rfl,rfl⟩;rw[H2.out]))
    go_ret;exact⟨ret_bool HZ.out.symm,hB2⟩
   have HR:Hid ((isNameB r.name&&(betB r.weight 1 1048576&&betB r.count 0 60))=true):=lh (by simp only[h0,h1,h2,Bool.and_self]);have H0:=lh h0;have H1:=lh h1;have H2:=lh h2;have h2x:=h2;clear h0 h1 h2;have HYY:=lh (HY.out (by rw[brick1_eq];exact HR.out));have hbb:=betB_iff.1 h2x;have t1:IntKind.i64.wrap (s+r.count)=s+r.count:=IntWalk.i64_in _ (by omega);clear HN HY h2x
   go_wp2_with (first
    | (go_at_call 143;(with_reducible refine(isName_any r.name _).mono ?_);rintro e w1 ⟨rfl,rfl⟩;rw[H0.out])
    | (go_at_call 180;(with_reducible refine(betw_any r.weight 1 1048576 _).mono ?_);rintro e w1 ⟨rfl,rfl⟩;rw[H1.out])
    | (go_at_call 180;(with_reducible refine(betw_any r.count 0 60 _).mono ?_);rintro e w1 ⟨rfl,rfl⟩;rw[H2.out]))
   go_roundw
   case rel=>exact⟨k+1,by omega,by go_num,by rw[HC.out],HYY,hB2⟩
   case measure=>simp[intOf];omega
  ·obtain rfl:k=L.length:=by omega
   have HF:Hid (decide (cntTo L L.length≤60)=R):=lh (by
    rw[Bool.eq_iff_iff,decide_eq_true_eq,HI2.out];exact⟨fun h=>⟨HO.out,h⟩,fun h=>h.2⟩)
   go_wp2_with fail
   go_ret;exact⟨ret_bool HF.out,hB⟩
theorem item_contains_n(a:Option Addr)(M:List ItemR)(n cap n₀ g:Nat)(cb:Array Value)(p:ItemR→Bool)(w:World)(hn:n=M.length)(eg:∀args w,(callFunc g args).run Tryz.prog w=.ok (.enter g args) w)
  (hl:n≤1100) (hn₀:n₀≤w.heap.size) (hI:Items n₀ w a M) (hp:AsksI g cb n₀ w p):
  Calls Tryz.prog 202 #[.slice a n cap,.func (.func g) #[] cb] w fun e w'=>e=.returned (.bool (item_any M p))∧Below w.heap.size w w':=by
 subst hn;exact item_containsFunc a M cap n₀ g cb p w eg hl hn₀ hI hp
theorem tg_take{I:List ItemR}{k j:Nat}(h:j<k):tg (I.take k) j=tg I j:=by
 unfold tg;rw[List.getElem?_take,if_pos h]
theorem items_iff2{I:List ItemR}{len:Int}:itemsB I len=true↔I.length≤40∧(I.map (·.name)).Nodup∧(∀j,j<I.length→item1 len (tg I j)=true)∧∀j,j<I.length→∀i,i<j→apartB (tg I i) (tg I j)=true:=by
 rw[items_iff]
 have hm:(∀x∈I,item1 len x=true)↔∀j,j<I.length→item1 len (tg I j)=true:=by
  constructor
  ·intro h j hj
   rw[tg_eq I j hj];exact h _ (List.getElem_mem hj)
  ·intro h x hx
   obtain⟨j,hj,rfl⟩:=List.getElem_of_mem hx;rw[←tg_eq I j hj];exact h j hj
 rw[hm,List.Nodup,List.pairwise_map]
 constructor
 ·rintro ⟨a,b,c⟩
  refine⟨a,c.imp fun h=>h.1,b,fun j hj i hi=>?_⟩;rw[tg_eq I i (by omega),tg_eq I j hj];exact(List.pairwise_iff_getElem.1 c i j _ _ hi).2
 ·rintro ⟨a,b,c,d⟩
  refine⟨a,c,List.pairwise_iff_getElem.2 fun i j hi hj hij=>⟨List.pairwise_iff_getElem.1 b i j hi hj hij,?_⟩⟩;have:=d j hj i hij
  rwa [tg_eq I i hi,tg_eq I j hj]at this
theorem apart_take{I:List ItemR}{k:Nat}{r:ItemR}{len:Int}(hk:k≤I.length)(hlen:0≤len∧len≤1048576)(hr:item1 len r=true)(hI:∀j,j<k→item1 len (tg I j)=true):
  item_any (I.take k) (fun y=>!apartW r y)=false↔∀i,i<k→apartB (tg I i) r=true:=by
 have hT:(I.take k).length=k:=by rw[List.length_take];omega
 rw[item_any_eq,Bool.eq_false_iff,Ne,List.any_eq_true]
 constructor
 ·intro h i hi
  cases q:apartB (tg I i) r
  ·exfalso
   apply h
   refine⟨tg I i,?_,?_⟩
   ·rw[←tg_take hi,tg_eq (I.take k) i (by omega)]
    exact List.getElem_mem _
   ·rw[apartW_is hr (hI i hi) hlen,apart_symm,q];rfl
  ·rfl
 ·rintro h ⟨x,hx,e⟩
  obtain⟨i,hi,rfl⟩:=List.getElem_of_mem hx;rw[←tg_eq (I.take k) i hi,tg_take (by omega),apartW_is hr (hI i (by omega)) hlen,apart_symm,h i (by omega)]at e
  cases e
theorem items_any(a:Option Addr)(I:List ItemR)(cap:Nat)(len:Int)(w:World)(hlen:0≤len∧len≤1048576)(hcap:I.length≤cap)(hsz:∀x∈I,x.name.size≤1000)(h:Items w.heap.size w a I):
  Calls Tryz.prog 182 #[.slice a I.length cap,.int .i64 len] w fun e w'=>e=.returned (.bool (itemsB I len))∧Below w.heap.size w w':=by
 have HU:=lh h;have HSZ:=lh hsz;clear h hsz;obtain⟨R,hR⟩:=nm (itemsB I len);have HI:Hid (R=true↔I.length≤40∧(I.map (·.name)).Nodup∧(∀j,j<I.length→item1 len (tg I j)=true)∧∀j,j<I.length→∀i,i<j→apartB (tg I i) (tg I j)=true):=lh (by rw[←hR];exact items_iff2);rw[hR];clear hR
 by_cases q:40<I.length
 ·have HR:Hid (R=false):=lh (by
   rw[Bool.eq_false_iff];intro h;have:=(HI.out.1 h).1;omega)
  have g:decide ((40:Int)<I.length)=true:=dT (by omega);have g':decide (40<I.length)=true:=dT (by omega);clear q
  go_enter Tryz.func182,Tryz.ntmps182
  go_wp2_with fail
  go_ret;exact⟨ret_bool HR.out.symm,br⟩
 have g:decide ((40:Int)<I.length)=false:=dF (by omega);have g':decide (40<I.length)=false:=dF (by omega);have hq:I.length≤40:=by omega
 clear q
 cases ht:twiceB (I.map (·.name))
 case true=>
  have HT:=lh ht
  have HR:Hid (R=false):=lh (by
   rw[Bool.eq_false_iff];intro h;exact(of_decide_eq_true ht) (HI.out.1 h).2.1)
  clear ht
  go_enter Tryz.func182,Tryz.ntmps182
  go_wp2_with (first
   | (go_at_call 198;(with_reducible refine(item_twice a I cap w.heap.size _ (Nat.le_refl _) (by omega) HSZ.out HU.out).mono ?_);rintro e w1 ⟨rfl,hb1⟩;rw[HT.out]))
  go_ret;exact⟨ret_bool HR.out.symm,hb1⟩
 have HT:=lh ht
 have HI2:Hid (R=true↔(∀j,j<I.length→item1 len (tg I j)=true)∧∀j,j<I.length→∀i,i<j→apartB (tg I i) (tg I j)=true):=lh (by
  rw[HI.out];have hn:(I.map (·.name)).Nodup:=Classical.not_not.1 (of_decide_eq_false ht);exact⟨fun h=>⟨h.2.2.1,h.2.2.2⟩,fun h=>⟨hq,hn,h.1,h.2⟩⟩)
 clear ht HI
 go_enter Tryz.func182,Tryz.ntmps182
 go_wp2_with (first
  | (go_at_call 198;(with_reducible refine(item_twice a I cap w.heap.size _ (Nat.le_refl _) (by omega) HSZ.out HU.out).mono ?_);rintro e w1 ⟨rfl,hb1⟩;rw[HT.out]))
 go_loopw [16] (fun i wr=>∃k:Nat,k≤I.length∧i=.int .i64 k∧Hid ((∀j,j<k→item1 len (tg I j)=true)∧∀j,j<k→∀i,i<j→apartB (tg I i) (tg I j)=true)∧Below w.heap.size w wr) (fun i _=>I.length-(intOf i).toNat)
 case atStart=>exact⟨0,Nat.zero_le _,rfl,lh ⟨fun j hj=>by omega,fun j hj=>by omega⟩,hb1⟩
 case round=>
  obtain⟨k,hk,rfl,HO,hB⟩:=hrel
  by_cases hlt:k<I.length
  ·obtain⟨b,off,rfl,hb,hc⟩:=HU.out (by omega)
   obtain⟨e0,e1,e2,e3,e4,e5,e6⟩:=hc k hlt;have c0:=(hB.cell (p:=⟨b,_,none⟩) hb).trans e0;have c1:=(hB.cell (p:=⟨b,_,none⟩) hb).trans e1;have c2:=(hB.cell (p:=⟨b,_,none⟩) hb).trans e2;have c3:=(hB.cell (p:=⟨b,_,none⟩) hb).trans e3;have c4:=(hB.cell (p:=⟨b,_,none⟩) hb).trans e4;have c5:=(hB.cell (p:=⟨b,_,none⟩) hb).trans e5;have c6:=(hB.cell (p:=⟨b,_,none⟩) hb).trans e6
   have HN1:Hid (item1 len (tg I k)=false→R=false):=lh fun h=>by
    rw[Bool.eq_false_iff];intro q;rw[(HI2.out.1 q).1 k hlt]at h;cases h
   have HT0:Hid (item1 len (tg I k)=true→(item_any (I.take k) (fun y=>!apartW (tg I k) y)=false↔∀i,i<k→apartB (tg I i) (tg I k)=true)):=lh fun h=>apart_take (by omega) hlen h HO.out.1
   have HN2:Hid (item1 len (tg I k)=true→item_any (I.take k) (fun y=>!apartW (tg I k) y)=true→R=false):=lh fun h h2=>by
    rw[Bool.eq_false_iff];intro q;rw[(HT0.out h).2 fun i hi=>(HI2.out.1 q).2 k hlt i hi]at h2
    cases h2
   have HY:Hid (item1 len (tg I k)=true→item_any (I.take k) (fun y=>!apartW (tg I k) y)=false→(∀j,j<k+1→item1 len (tg I j)=true)∧∀j,j<k+1→∀i,i<j→apartB (tg I i) (tg I j)=true):=lh fun h h2=>by
    refine⟨fun j hj=>?_,fun j hj i hi=>?_⟩
    ·rcases(show j<k∨j=k by omega)with l | l
     ·exact HO.out.1 j l
     ·subst l;exact h
    ·rcases(show j<k∨j=k by omega)with l | l
     ·exact HO.out.2 j l i hi
     ·subst l;exact(HT0.out h).1 h2 i hi
   have hTl:k=(I.take k).length:=by rw[List.length_take];omega
   have HTL:=lh hTl;have k1:k≤cap:=by omega
   have k2:(k:Int)≤(cap:Int):=by omega
   generalize tg I k=r at *;have hB2':=hB.alloc hB.size (.cells #[.string r.name,.int .i64 r.pos,.int .i64 r.width,.int .i64 r.weight,.int .i64 r.hang,.int .i64 r.front,.int .i64 r.back] 177);have HAT:=ItemAt.new wr r 177;have hz:wr.heap.size<(wr.alloc (.cells #[.string r.name,.int .i64 r.pos,.int .i64 r.width,.int .i64 r.weight,.int .i64 r.hang,.int .i64 r.front,.int .i64 r.back] 177)).heap.size:=by simp
   have HIT:Hid (∀wx,Below (wr.alloc (.cells #[.string r.name,.int .i64 r.pos,.int .i64 r.width,.int .i64 r.weight,.int .i64 r.hang,.int .i64 r.front,.int .i64 r.back] 177)).heap.size (wr.alloc (.cells #[.string r.name,.int .i64 r.pos,.int .i64 r.width,.int .i64 r.weight,.int .i64 r.hang,.int .i64 r.front,.int .i64 r.back] 177)) wx→Items wx.heap.size wx (some ⟨b,off,none⟩) (I.take k)):=lh fun wx h=>(((HU.out.take k).below (hB2'.trans (h.mono hB2'.size))).mono (Nat.le_trans hB2'.size h.size));have HX:Hid (∀wx,Below (wr.alloc (.cells #[.string r.name,.int .i64 r.pos,.int .i64 r.width,.int .i64 r.weight,.int .i64 r.hang,.int .i64 r.front,.int .i64 r.back] 177)).heap.size (wr.alloc (.cells #[.string r.name,.int .i64 r.pos,.int .i64 r.width,.int .i64 r.weight,.int .i64 r.hang,.int .i64 r.front,.int .i64 r.back] 177)) wx→Below w.heap.size w wx):=lh fun wx h=>hB2'.trans (h.mono hB2'.size);have HAK:Hid (∀wx,Below (wr.alloc (.cells #[.string r.name,.int .i64 r.pos,.int .i64 r.width,.int .i64 r.weight,.int .i64 r.hang,.int .i64 r.front,.int .i64 r.back] 177)).heap.size (wr.alloc (.cells #[.string r.name,.int .i64 r.pos,.int .i64 r.width,.int .i64 r.weight,.int .i64 r.hang,.int .i64 r.front,.int .i64 r.back] 177)) wx→AsksI 203 #[.pointer (some ⟨wr.heap.size,0,none⟩)] wx.heap.size wx (fun y=>!apartW r y)):=lh fun wx h=>asks_apart (HAT.below h hz) (Nat.lt_of_lt_of_le hz h.size);have HCX:Hid (∀wx,Below (wr.alloc (.cells #[.string r.name,.int .i64 r.pos,.int .i64 r.width,.int .i64 r.weight,.int .i64 r.hang,.int .i64 r.front,.int .i64 r.back] 177)).heap.size (wr.alloc (.cells #[.string r.name,.int .i64 r.pos,.int .i64 r.width,.int .i64 r.weight,.int .i64 r.hang,.int .i64 r.front,.int .i64 r.back] 177)) wx→ItemAt wx wr.heap.size r):=lh fun wx h=>HAT.below h hz;clear hc e0 e1 e2 e3 e4 e5 e6 HO HT0 hTl HAT hB2'
   go_wp2_with fail
   generalize (wr.alloc (.cells #[.string r.name,.int .i64 r.pos,.int .i64 r.width,.int .i64 r.weight,.int .i64 r.hang,.int .i64 r.front,.int .i64 r.back] 177))=W1 at *;have hB1:=Below.refl W1.heap.size W1;have x0:∀wx,Below W1.heap.size W1 wx→wx.cell? ⟨wr.heap.size,0,none⟩=some (.string r.name):=fun wx h=>(HCX.out wx h).1;have x1:∀wx,Below W1.heap.size W1 wx→wx.cell? ⟨wr.heap.size,1,none⟩=some (.int .i64 r.pos):=fun wx h=>(HCX.out wx h).2.1;have x2:∀wx,Below W1.heap.size W1 wx→wx.cell? ⟨wr.heap.size,2,none⟩=some (.int .i64 r.width):=fun wx h=>(HCX.out wx h).2.2.1;have x3:∀wx,Below W1.heap.size W1 wx→wx.cell? ⟨wr.heap.size,3,none⟩=some (.int .i64 r.weight):=fun wx h=>(HCX.out wx h).2.2.2.1;have x4:∀wx,Below W1.heap.size W1 wx→wx.cell? ⟨wr.heap.size,4,none⟩=some (.int .i64 r.hang):=fun wx h=>(HCX.out wx h).2.2.2.2.1;have x5:∀wx,Below W1.heap.size W1 wx→wx.cell? ⟨wr.heap.size,5,none⟩=some (.int .i64 r.front):=fun wx h=>(HCX.out wx h).2.2.2.2.2.1;have x6:∀wx,Below W1.heap.size W1 wx→wx.cell? ⟨wr.heap.size,6,none⟩=some (.int .i64 r.back):=fun wx h=>(HCX.out wx h).2.2.2.2.2.2;clear c0 c1 c2 c3 c4 c5 c6 HCX
   cases h0:aloneB r
   ·have HR:Hid ((aloneB r&&(insideB r len&&!item_any (I.take k) (fun y=>!apartW r y)))=false):=lh (by simp only[h0,Bool.false_and])
    have H0:=lh h0;clear h0;have HZ:=lh (HN1.out (by unfold item1;rw[H0.out];rfl));clear HN1 HN2 HY
    go_wp2_with (first
     | (go_at_call 200;(with_reducible refine(alone_any r _).mono ?_);rintro e w2 ⟨rfl,hb⟩;rw[H0.out];have hB2:=hB1.trans (hb.mono hB1.size);clear hb)
     | (go_at_call 201;(with_reducible refine(inside_any r len _ hlen).mono ?_);rintro e w3 ⟨rfl,hb⟩;rw[H1.out];have hB3:=hB2.trans (hb.mono hB2.size);clear hb)
     | (go_at_call 202;(with_reducible refine(item_contains_n (some ⟨b,off,none⟩) (I.take k) k cap _ _ _ (fun y=>!apartW r y) _ HTL.out ent_apart (by omega) (Nat.le_refl _) (HIT.out _ hB3) (HAK.out _ hB3)).mono ?_);rintro e w4 ⟨rfl,hb⟩;rw[H2.out];have hB4:=hB3.trans (hb.mono hB3.size);clear hb))
    go_ret;exact⟨ret_bool HZ.out.symm,HX.out _ hB2⟩
   cases h1:insideB r len
   ·have HR:Hid ((aloneB r&&(insideB r len&&!item_any (I.take k) (fun y=>!apartW r y)))=false):=lh (by simp only[h0,h1,Bool.true_and,Bool.false_and])
    have H0:=lh h0;have H1:=lh h1;clear h0 h1;have HZ:=lh (HN1.out (by unfold item1;rw[H0.out,H1.out];rfl));clear HN1 HN2 HY
    go_wp2_with (first
     | (go_at_call 200;(with_reducible refine(alone_any r _).mono ?_);rintro e w2 ⟨rfl,hb⟩;rw[H0.out];have hB2:=hB1.trans (hb.mono hB1.size);clear hb)
     | (go_at_call 201;(with_reducible refine(inside_any r len _ hlen).mono ?_);rintro e w3 ⟨rfl,hb⟩;rw[H1.out];have hB3:=hB2.trans (hb.mono hB2.size);clear hb)
     | (go_at_call 202;(with_reducible refine(item_contains_n (some ⟨b,off,none⟩) (I.take k) k cap _ _ _ (fun y=>!apartW r y) _ HTL.out ent_apart (by omega) (Nat.le_refl _) (HIT.out _ hB3) (HAK.out _ hB3)).mono ?_);rintro e w4 ⟨rfl,hb⟩;rw[H2.out];have hB4:=hB3.trans (hb.mono hB3.size);clear hb))
    go_ret;exact⟨ret_bool HZ.out.symm,HX.out _ hB3⟩
   cases h2:!item_any (I.take k) (fun y=>!apartW r y)
   ·have HR:Hid ((aloneB r&&(insideB r len&&!item_any (I.take k) (fun y=>!apartW r y)))=false):=lh (by simp only[h0,h1,h2,Bool.true_and])
    have H0:=lh h0;have H1:=lh h1;have H2:=lh h2;clear h0 h1 h2;have HZ:=lh (HN2.out (by unfold item1;rw[H0.out,H1.out];rfl) (by have:=H2.out;simpa using this));have H2:Hid (item_any (I.take k) (fun y=>!apartW r y)=true):=lh (by have:=H2.out;simpa using this);clear HN1 HN2 HY
    go_wp2_with (first
     | (go_at_call 200;(with_reducible refine(alone_any r _).mono ?_);rintro e w2 ⟨rfl,hb⟩;rw[H0.out];have hB2:=hB1.trans (hb.mono hB1.size);clear hb)
     | (go_at_call 201;(with_reducible refine(inside_any r len _ hlen).mono ?_);rintro e w3 ⟨rfl,hb⟩;rw[H1.out];have hB3:=hB2.trans (hb.mono hB2.size);clear hb)
     | (go_at_call 202;(with_reducible refine(item_contains_n (some ⟨b,off,none⟩) (I.take k) k cap _ _ _ (fun y=>!apartW r y) _ HTL.out ent_apart (by omega) (Nat.le_refl _) (HIT.out _ hB3) (HAK.out _ hB3)).mono ?_);rintro e w4 ⟨rfl,hb⟩;rw[H2.out];have hB4:=hB3.trans (hb.mono hB3.size);clear hb))
    go_ret;exact⟨ret_bool HZ.out.symm,HX.out _ hB4⟩
   have HR:Hid ((aloneB r&&(insideB r len&&!item_any (I.take k) (fun y=>!apartW r y)))=true):=lh (by simp only[h0,h1,h2,Bool.and_self]);have H0:=lh h0;have H1:=lh h1;have H2:=lh h2;clear h0 h1 h2;have HYY:=lh (HY.out (by unfold item1;rw[H0.out,H1.out];rfl) (by have:=H2.out;simpa using this));have H2:Hid (item_any (I.take k) (fun y=>!apartW r y)=false):=lh (by have:=H2.out;simpa using this);clear HN1 HN2 HY
   go_wp2_with (first
    | (go_at_call 200;(with_reducible refine(alone_any r _).mono ?_);rintro e w2 ⟨rfl,hb⟩;rw[H0.out];have hB2:=hB1.trans (hb.mono hB1.size);clear hb)
    | (go_at_call 201;(with_reducible refine(inside_any r len _ hlen).mono ?_);rintro e w3 ⟨rfl,hb⟩;rw[H1.out];have hB3:=hB2.trans (hb.mono hB2.size);clear hb)
    | (go_at_call 202;(with_reducible refine(item_contains_n (some ⟨b,off,none⟩) (I.take k) k cap _ _ _ (fun y=>!apartW r y) _ HTL.out ent_apart (by omega) (Nat.le_refl _) (HIT.out _ hB3) (HAK.out _ hB3)).mono ?_);rintro e w4 ⟨rfl,hb⟩;rw[H2.out];have hB4:=hB3.trans (hb.mono hB3.size);clear hb))
   go_roundw
   case rel=>exact⟨k+1,by omega,by go_num,HYY,HX.out _ hB4⟩
   case measure=>simp[intOf];omega
  ·obtain rfl:k=I.length:=by omega
   have HF:Hid (R=true):=lh (HI2.out.2 HO.out)
   go_wp2_with fail
   go_ret;exact⟨ret_bool HF.out.symm,hB⟩
end
section
open Go.RowKit Go.Shelf
structure SetIn0(w:World)(r:SetR):Prop where
 lines:Nums w.heap.size w r.la r.lines
 items:Items w.heap.size w r.ia r.items
 bricks:Bricks w.heap.size w r.ba r.bricks
 lcap:r.lines.length≤r.lc
 icap:r.items.length≤r.ic
 bcap:r.bricks.length≤r.bc
 lnil:r.la=none→r.lc=0
 inil:r.ia=none→r.ic=0
 bnil:r.ba=none→r.bc=0
structure SetIn(w:World)(r:SetR):Prop extends SetIn0 w r where
 inames:∀x∈r.items,x.name.size≤1000
 bnames:∀x∈r.bricks,x.name.size≤1000
theorem SetIn0.grow{w w':World}{r:SetR}(h:SetIn0 w r)(hb:Below w.heap.size w w'):SetIn0 w' r:=
 ⟨h.lines.grow hb,h.items.grow hb,h.bricks.grow hb,h.lcap,h.icap,h.bcap,h.lnil,h.inil,h.bnil⟩
theorem SetIn.grow{w w':World}{r:SetR}(h:SetIn w r)(hb:Below w.heap.size w w'):SetIn w' r:=
 ⟨h.toSetIn0.grow hb,h.inames,h.bnames⟩
def SetAt(w:World)(b:Nat)(r:SetR):Prop:=w.cell? ⟨b,0,none⟩=some (.string r.name)∧w.cell? ⟨b,1,none⟩=some (.int .i64 r.depth)∧w.cell? ⟨b,2,none⟩=some (.int .i64 r.low)∧w.cell? ⟨b,3,none⟩=some (.int .i64 r.high)∧w.cell? ⟨b,4,none⟩=some (.int .i64 r.length)∧w.cell? ⟨b,5,none⟩=some (.slice r.la r.lines.length r.lc)∧w.cell? ⟨b,6,none⟩=some (.int .i64 r.pipe)∧w.cell? ⟨b,7,none⟩=some (.int .i64 r.arbor)∧w.cell? ⟨b,8,none⟩=some (.int .i64 r.purchase)∧w.cell? ⟨b,9,none⟩=some (.int .i64 r.most)∧w.cell? ⟨b,10,none⟩=some (.int .i64 r.brake)∧w.cell? ⟨b,11,none⟩=some (.slice r.ia r.items.length r.ic)∧w.cell? ⟨b,12,none⟩=some (.slice r.ba r.bricks.length r.bc)
theorem SetAt.below{w w':World}{b:Nat}{r:SetR}(h:SetAt w b r)(hb:Below w.heap.size w w')(hlt:b<w.heap.size):SetAt w' b r:=
 let ⟨a0,a1,a2,a3,a4,a5,a6,a7,a8,a9,a10,a11,a12⟩:=h
 ⟨(hb.cell (p:=⟨b,0,none⟩) hlt).trans a0,(hb.cell (p:=⟨b,1,none⟩) hlt).trans a1,(hb.cell (p:=⟨b,2,none⟩) hlt).trans a2,(hb.cell (p:=⟨b,3,none⟩) hlt).trans a3,(hb.cell (p:=⟨b,4,none⟩) hlt).trans a4,(hb.cell (p:=⟨b,5,none⟩) hlt).trans a5,(hb.cell (p:=⟨b,6,none⟩) hlt).trans a6,(hb.cell (p:=⟨b,7,none⟩) hlt).trans a7,(hb.cell (p:=⟨b,8,none⟩) hlt).trans a8,(hb.cell (p:=⟨b,9,none⟩) hlt).trans a9,(hb.cell (p:=⟨b,10,none⟩) hlt).trans a10,(hb.cell (p:=⟨b,11,none⟩) hlt).trans a11,(hb.cell (p:=⟨b,12,none⟩) hlt).trans a12⟩
theorem SetAt.new(w:World)(r:SetR)(t:TypeId):SetAt (w.alloc (.cells #[.string r.name,.int .i64 r.depth,.int .i64 r.low,.int .i64 r.high,.int .i64 r.length,.slice r.la r.lines.length r.lc,.int .i64 r.pipe,.int .i64 r.arbor,.int .i64 r.purchase,.int .i64 r.most,.int .i64 r.brake,.slice r.ia r.items.length r.ic,.slice r.ba r.bricks.length r.bc] t)) w.heap.size r:=by
 unfold SetAt
 simp
theorem set13{W0:World}{b:Nat}{r:SetR}(H:Hid (∀wx,Below W0.heap.size W0 wx→SetAt wx b r)):(∀wx,Below W0.heap.size W0 wx→wx.cell? ⟨b,0,none⟩=some (.string r.name))∧(∀wx,Below W0.heap.size W0 wx→wx.cell? ⟨b,1,none⟩=some (.int .i64 r.depth))∧(∀wx,Below W0.heap.size W0 wx→wx.cell? ⟨b,2,none⟩=some (.int .i64 r.low))∧(∀wx,Below W0.heap.size W0 wx→wx.cell? ⟨b,3,none⟩=some (.int .i64 r.high))∧(∀wx,Below W0.heap.size W0 wx→wx.cell? ⟨b,4,none⟩=some (.int .i64 r.length))∧(∀wx,Below W0.heap.size W0 wx→wx.cell? ⟨b,5,none⟩=some (.slice r.la r.lines.length r.lc))∧(∀wx,Below W0.heap.size W0 wx→wx.cell? ⟨b,6,none⟩=some (.int .i64 r.pipe))∧(∀wx,Below W0.heap.size W0 wx→wx.cell? ⟨b,7,none⟩=some (.int .i64 r.arbor))∧(∀wx,Below W0.heap.size W0 wx→wx.cell? ⟨b,8,none⟩=some (.int .i64 r.purchase))∧(∀wx,Below W0.heap.size W0 wx→wx.cell? ⟨b,9,none⟩=some (.int .i64 r.most))∧(∀wx,Below W0.heap.size W0 wx→wx.cell? ⟨b,10,none⟩=some (.int .i64 r.brake))∧(∀wx,Below W0.heap.size W0 wx→wx.cell? ⟨b,11,none⟩=some (.slice r.ia r.items.length r.ic))∧(∀wx,Below W0.heap.size W0 wx→wx.cell? ⟨b,12,none⟩=some (.slice r.ba r.bricks.length r.bc)):=
 ⟨fun wx h=>(H.out wx h).1,fun wx h=>(H.out wx h).2.1,fun wx h=>(H.out wx h).2.2.1,fun wx h=>(H.out wx h).2.2.2.1,fun wx h=>(H.out wx h).2.2.2.2.1,fun wx h=>(H.out wx h).2.2.2.2.2.1,fun wx h=>(H.out wx h).2.2.2.2.2.2.1,fun wx h=>(H.out wx h).2.2.2.2.2.2.2.1,fun wx h=>(H.out wx h).2.2.2.2.2.2.2.2.1,fun wx h=>(H.out wx h).2.2.2.2.2.2.2.2.2.1,fun wx h=>(H.out wx h).2.2.2.2.2.2.2.2.2.2.1,fun wx h=>(H.out wx h).2.2.2.2.2.2.2.2.2.2.2.1,fun wx h=>(H.out wx h).2.2.2.2.2.2.2.2.2.2.2.2⟩
end
section
def Room(d R F w:Int):Prop:=w*w*(R+F)≤2*R*F*d
def IsTop(d V R F t:Int):Prop:=0≤t∧t≤V∧Room d R F t∧(t=V∨¬Room d R F (t+1))
theorem room_mono{d R F v w:Int}(hR:0≤R)(hF:0≤F)(hv:0≤v)(h:v≤w)(r:Room d R F w):Room d R F v:=by
 unfold Room at *;have h1:v*v≤w*w:=Int.mul_le_mul h h hv (by omega);have h2:v*v*(R+F)≤w*w*(R+F):=Int.mul_le_mul_of_nonneg_right h1 (by omega);omega
theorem top_unique{d V R F s t:Int}(hR:0≤R)(hF:0≤F)(hs:IsTop d V R F s)(ht:IsTop d V R F t):s=t:=by
 obtain⟨s0,s1,s2,s3⟩:=hs;obtain⟨t0,t1,t2,t3⟩:=ht;rcases Int.lt_trichotomy s t with l | l | l
 ·rcases s3 with e | e
  ·omega
  ·exact absurd (room_mono hR hF (by omega) (by omega) t2) e
 ·exact l
 ·rcases t3 with e | e
  ·omega
  ·exact absurd (room_mono hR hF (by omega) (by omega) s2) e
theorem room_zero{d R F:Int}(hR:0≤R)(hF:0≤F)(hd:0≤d):Room d R F 0:=by
 unfold Room;have:=Int.mul_nonneg (Int.mul_nonneg (Int.mul_nonneg (show(0:Int)≤2 by decide) hR) hF) hd
 simpa using this
theorem top_ex{d R F:Int}(hR:0≤R)(hF:0≤F)(hd:0≤d)(n:Nat):∃t,IsTop d n R F t:=by
 induction n with
 | zero=>exact⟨0,Int.le_refl _,Int.le_refl _,room_zero hR hF hd,.inl rfl⟩
 | succ n ih=>
  obtain⟨t,t0,t1,t2,t3⟩:=ih;rcases t3 with e | e
  ·by_cases c:Room d R F (t+1)
   ·exact⟨t+1,by omega,by omega,c,.inl (by omega)⟩
   ·exact⟨t,t0,by omega,t2,.inr c⟩
  ·exact⟨t,t0,by omega,t2,.inr e⟩
theorem top_exI{d V R F:Int}(hR:0≤R)(hF:0≤F)(hd:0≤d)(hV:0≤V):∃t,IsTop d V R F t:=by
 obtain⟨n,rfl⟩:=Int.eq_ofNat_of_zero_le hV;exact top_ex hR hF hd n
theorem top_zero{V R F:Int}(hR:0<R)(hF:0<F)(hV:0≤V):IsTop 0 V R F 0:=by
 refine⟨Int.le_refl _,hV,room_zero (by omega) (by omega) (Int.le_refl _),.inr ?_⟩;unfold Room
 simp
 omega
theorem room_bd{d R F w:Int}(d0:0≤d)(d1:d≤1048576)(R0:0≤R)(R1:R≤16384)(F0:0≤F)(F1:F≤16384)(w0:0≤w)(w1:w≤8192):
  0≤w*w∧w*w≤67108864∧0≤w*w*(R+F)∧w*w*(R+F)≤2199023255552∧0≤2*d*R∧2*d*R≤34359738368∧0≤2*d*R*F∧2*d*R*F≤562949953421312∧2*d*R*F=2*R*F*d∧0≤2*R*F∧2*R*F≤536870912:=by
 have a0:=Int.mul_nonneg w0 w0;have a1:w*w≤8192*8192:=Int.mul_le_mul w1 w1 w0 (by decide);have b0:=Int.mul_nonneg a0 (show 0≤R+F by omega);have b1:w*w*(R+F)≤67108864*32768:=Int.mul_le_mul (by omega) (by omega) (by omega) (by decide);have c0:=Int.mul_nonneg (show 0≤2*d by omega) R0;have c1:2*d*R≤2097152*16384:=Int.mul_le_mul (by omega) (by omega) (by omega) (by decide);have e0:=Int.mul_nonneg c0 F0;have e1:2*d*R*F≤34359738368*16384:=Int.mul_le_mul (by omega) (by omega) (by omega) (by decide);have f0:=Int.mul_nonneg (show 0≤2*R by omega) F0;have f1:2*R*F≤32768*16384:=Int.mul_le_mul (by omega) (by omega) (by omega) (by decide);refine⟨a0,by omega,b0,by omega,c0,by omega,e0,by omega,by ac_rfl,f0,by omega⟩
end
section
open Go.RowKit Go.Shelf
structure Mv where
 name:ByteArray
 to:Int
 spd:Int
 rise:Int
 fall:Int
def inB(n lo hi:Int):Bool:=decide (lo≤n)&&decide (n≤hi)
theorem inB_iff{n lo hi:Int}:inB n lo hi=true↔lo≤n∧n≤hi:=by simp[inB]
def validM(m:Mv):Bool:=isNameB m.name&&(inB m.to (-1048576) 1048576&&(inB m.spd 1 8192&&(inB m.rise 1 16384&&inB m.fall 1 16384)))
def givenP(d:Int)(m:Mv):Int:=if validM m then(if inB d 0 1048576 then 0 else 2)else 1
theorem given_ok{d:Int}{m:Mv}(h:givenP d m=0):validM m=true∧inB d 0 1048576=true:=by
 unfold givenP at h
 cases e:validM m
 ·rw[e]at h;simp at h
 ·rw[e,if_pos rfl]at h
  cases f:inB d 0 1048576
  ·rw[f]at h;simp at h
  ·exact⟨rfl,rfl⟩
theorem ret_boolB{a b:Bool}(h:a=b):Ending.returned (.bool a)=.returned (.bool b):=by rw[h]
theorem within_any(n lo hi:Int)(w:World):Calls Tryz.prog 163 #[.int .i64 n,.int .i64 lo,.int .i64 hi] w fun e w'=>e=.returned (.bool (inB n lo hi))∧w=w':=by
 go_enter Tryz.func163,Tryz.ntmps163
 go_wp2
 all_goals (go_ret;exact⟨ret_boolB (by unfold inB;rw[Bool.eq_iff_iff];simp;omega),rfl⟩)
theorem valid_anyM(m:Mv)(w:World):Calls Tryz.prog 148 #[.agg #[.string m.name,.int .i64 m.to,.int .i64 m.spd,.int .i64 m.rise,.int .i64 m.fall]] w fun e w'=>e=.returned (.bool (validM m))∧Below w.heap.size w w':=by
 cases h0:isNameB m.name
 ·have H0:=lh h0
  clear h0;have HV:Hid (validM m=false):=lh (by unfold validM;rw[H0.out];rfl);rw[HV.out]
  go_enter Tryz.func148,Tryz.ntmps148
  go_wp2_with (first
    | (go_at_call 143;(with_reducible refine(isName_any m.name _).mono ?_);rintro e w' ⟨rfl,rfl⟩;rw[H0.out]))
  go_ret;exact⟨rfl,below_new _ _⟩
 have H0:=lh h0;clear h0
 cases h1:inB m.to (-1048576) 1048576
 ·have H1:=lh h1
  clear h1;have HV:Hid (validM m=false):=lh (by unfold validM;rw[H0.out,H1.out];rfl);rw[HV.out]
  go_enter Tryz.func148,Tryz.ntmps148
  go_wp2_with (first
    | (go_at_call 143;(with_reducible refine(isName_any m.name _).mono ?_);rintro e w' ⟨rfl,rfl⟩;rw[H0.out])
    | (go_at_call 163;(with_reducible refine(within_any m.to (-1048576) 1048576 _).mono ?_);rintro e w' ⟨rfl,rfl⟩;rw[H1.out]))
  go_ret;exact⟨rfl,below_new _ _⟩
 have H1:=lh h1;clear h1
 cases h2:inB m.spd 1 8192
 ·have H2:=lh h2
  clear h2;have HV:Hid (validM m=false):=lh (by unfold validM;rw[H0.out,H1.out,H2.out];rfl);rw[HV.out]
  go_enter Tryz.func148,Tryz.ntmps148
  go_wp2_with (first
    | (go_at_call 143;(with_reducible refine(isName_any m.name _).mono ?_);rintro e w' ⟨rfl,rfl⟩;rw[H0.out])
    | (go_at_call 163;(with_reducible refine(within_any m.to (-1048576) 1048576 _).mono ?_);rintro e w' ⟨rfl,rfl⟩;rw[H1.out])
    | (go_at_call 163;(with_reducible refine(within_any m.spd 1 8192 _).mono ?_);rintro e w' ⟨rfl,rfl⟩;rw[H2.out]))
  go_ret;exact⟨rfl,below_new _ _⟩
 have H2:=lh h2;clear h2
 cases h3:inB m.rise 1 16384
 ·have H3:=lh h3
  clear h3;have HV:Hid (validM m=false):=lh (by unfold validM;rw[H0.out,H1.out,H2.out,H3.out];rfl);rw[HV.out]
  go_enter Tryz.func148,Tryz.ntmps148
  go_wp2_with (first
    | (go_at_call 143;(with_reducible refine(isName_any m.name _).mono ?_);rintro e w' ⟨rfl,rfl⟩;rw[H0.out])
    | (go_at_call 163;(with_reducible refine(within_any m.to (-1048576) 1048576 _).mono ?_);rintro e w' ⟨rfl,rfl⟩;rw[H1.out])
    | (go_at_call 163;(with_reducible refine(within_any m.spd 1 8192 _).mono ?_);rintro e w' ⟨rfl,rfl⟩;rw[H2.out])
    | (go_at_call 163;(with_reducible refine(within_any m.rise 1 16384 _).mono ?_);rintro e w' ⟨rfl,rfl⟩;rw[H3.out]))
  go_ret;exact⟨rfl,below_new _ _⟩
 have H3:=lh h3;clear h3
 cases h4:inB m.fall 1 16384
 ·have H4:=lh h4
  clear h4;have HV:Hid (validM m=false):=lh (by unfold validM;rw[H0.out,H1.out,H2.out,H3.out,H4.out];rfl);rw[HV.out]
  go_enter Tryz.func148,Tryz.ntmps148
  go_wp2_with (first
    | (go_at_call 143;(with_reducible refine(isName_any m.name _).mono ?_);rintro e w' ⟨rfl,rfl⟩;rw[H0.out])
    | (go_at_call 163;(with_reducible refine(within_any m.to (-1048576) 1048576 _).mono ?_);rintro e w' ⟨rfl,rfl⟩;rw[H1.out])
    | (go_at_call 163;(with_reducible refine(within_any m.spd 1 8192 _).mono ?_);rintro e w' ⟨rfl,rfl⟩;rw[H2.out])
    | (go_at_call 163;(with_reducible refine(within_any m.rise 1 16384 _).mono ?_);rintro e w' ⟨rfl,rfl⟩;rw[H3.out])
    | (go_at_call 163;(with_reducible refine(within_any m.fall 1 16384 _).mono ?_);rintro e w' ⟨rfl,rfl⟩;rw[H4.out]))
  go_ret;exact⟨rfl,below_new _ _⟩
 have H4:=lh h4;clear h4;have HV:Hid (validM m=true):=lh (by unfold validM;rw[H0.out,H1.out,H2.out,H3.out,H4.out];rfl);rw[HV.out]
 go_enter Tryz.func148,Tryz.ntmps148
 go_wp2_with (first
   | (go_at_call 143;(with_reducible refine(isName_any m.name _).mono ?_);rintro e w' ⟨rfl,rfl⟩;rw[H0.out])
   | (go_at_call 163;(with_reducible refine(within_any m.to (-1048576) 1048576 _).mono ?_);rintro e w' ⟨rfl,rfl⟩;rw[H1.out])
   | (go_at_call 163;(with_reducible refine(within_any m.spd 1 8192 _).mono ?_);rintro e w' ⟨rfl,rfl⟩;rw[H2.out])
   | (go_at_call 163;(with_reducible refine(within_any m.rise 1 16384 _).mono ?_);rintro e w' ⟨rfl,rfl⟩;rw[H3.out])
   | (go_at_call 163;(with_reducible refine(within_any m.fall 1 16384 _).mono ?_);rintro e w' ⟨rfl,rfl⟩;rw[H4.out]))
 go_ret;exact⟨rfl,below_new _ _⟩
theorem given_any(d:Int)(m:Mv)(w:World):Calls Tryz.prog 119 #[.int .i64 d,.agg #[.string m.name,.int .i64 m.to,.int .i64 m.spd,.int .i64 m.rise,.int .i64 m.fall]] w fun e w'=>e=.returned (.int .i64 (givenP d m))∧Below w.heap.size w w':=by
 have HI:Hid (∀b,validM m=b→givenP d m=if b then(if inB d 0 1048576 then 0 else 2)else 1):=lh fun b h=>by unfold givenP;rw[h]
 cases h1:validM m
 ·have H1:=lh h1
  have HR:Hid (givenP d m=1):=lh (HI.out _ h1);rw[HR.out];clear h1
  go_enter Tryz.func119,Tryz.ntmps119
  go_wp2_with (first
   | (go_at_call 148;(with_reducible refine(valid_anyM m _).mono ?_);rintro e w1 ⟨rfl,hb1⟩;rw[H1.out]))
  go_ret;exact⟨rfl,(below_new _ _).trans (hb1.mono (by simp))⟩
 have H1:=lh h1
 cases h2:inB d 0 1048576
 ·have H2:=lh h2
  have HR:Hid (givenP d m=2):=lh ((HI.out _ h1).trans (by rw[h2];rfl));rw[HR.out];clear h1 h2
  go_enter Tryz.func119,Tryz.ntmps119
  go_wp2_with (first
   | (go_at_call 148;(with_reducible refine(valid_anyM m _).mono ?_);rintro e w1 ⟨rfl,hb1⟩;rw[H1.out])
   | (go_at_call 163;(with_reducible refine(within_any d 0 1048576 _).mono ?_);rintro e w' ⟨rfl,rfl⟩;rw[H2.out]))
  go_ret;exact⟨rfl,(below_new _ _).trans (hb1.mono (by simp))⟩
 ·have H2:=lh h2
  have HR:Hid (givenP d m=0):=lh ((HI.out _ h1).trans (by rw[h2];rfl));rw[HR.out];clear h1 h2
  go_enter Tryz.func119,Tryz.ntmps119
  go_wp2_with (first
   | (go_at_call 148;(with_reducible refine(valid_anyM m _).mono ?_);rintro e w1 ⟨rfl,hb1⟩;rw[H1.out])
   | (go_at_call 163;(with_reducible refine(within_any d 0 1048576 _).mono ?_);rintro e w' ⟨rfl,rfl⟩;rw[H2.out]))
  go_ret;exact⟨rfl,(below_new _ _).trans (hb1.mono (by simp))⟩
theorem valid_bds{m:Mv}(h:validM m=true):1≤m.spd∧m.spd≤8192∧1≤m.rise∧m.rise≤16384∧1≤m.fall∧m.fall≤16384:=by
 unfold validM at h;simp only[Bool.and_eq_true,inB_iff]at h;omega

theorem top_any(d:Int)(m:Mv)(t:Int)(hg:givenP d m=0)(ht:IsTop d m.spd m.rise m.fall t)(w:World):Calls Tryz.prog 120 #[.int .i64 d,.agg #[.string m.name,.int .i64 m.to,.int .i64 m.spd,.int .i64 m.rise,.int .i64 m.fall]] w fun e w'=>e=.returned (.int .i64 t)∧Below w.heap.size w w':=by
 obtain⟨hv,hd⟩:=given_ok hg;obtain⟨v1,v2,r1,r2,f1,f2⟩:=valid_bds hv;obtain⟨d1,d2⟩:=inB_iff.1 hd;have HT:=lh ht;clear hg hv hd ht
 by_cases dz:d=0
 ·have HR:Hid (t=0):=lh (top_unique (by omega) (by omega) HT.out (by rw[dz];exact top_zero (by omega) (by omega) (by omega)))
  subst dz;rw[HR.out]
  go_enter Tryz.func120,Tryz.ntmps120
  go_wp2_with fail
  go_quiet (fail)
  go_wp2_with fail
  go_ret;exact⟨rfl,below_drewN (below_new _ _) _⟩
 ·have dz':(d==0)=false:=by simpa using dz
  clear dz
  go_enter Tryz.func120,Tryz.ntmps120
  go_wp2_with fail
  go_quiet (fail)
  go_wp2_with fail
  go_loopw [5,6] (fun i j wr=>∃lo hi:Int,0≤lo∧lo≤hi∧hi≤m.spd∧i=.int .i64 lo∧j=.int .i64 hi∧Hid (Room d m.rise m.fall lo∧(hi=m.spd∨¬Room d m.rise m.fall (hi+1)))∧Below w.heap.size w wr∧wr.cell? ⟨w.heap.size,3,none⟩=some (.int .i64 m.rise)∧wr.cell? ⟨w.heap.size,4,none⟩=some (.int .i64 m.fall)) (fun i j _=>(intOf j-intOf i).toNat)
  case atStart=>exact⟨0,m.spd,Int.le_refl _,by omega,Int.le_refl _,rfl,rfl,lh ⟨room_zero (by omega) (by omega) (by omega),.inl rfl⟩,below_drewN (below_new _ _) _,by simp,by simp⟩
  case round=>
   obtain⟨lo,hi,l0,l1,l2,rfl,rfl,HA,hB,k3,k4⟩:=hrel
   by_cases c:lo<hi
   ·obtain⟨x,hx⟩:=nm ((lo+hi+1)/2)
    have x0:0≤x:=by omega
    have x1:x≤8192:=by omega
    have s1:IntKind.i64.wrap (lo+hi)=lo+hi:=IntWalk.i64_in _ (by omega);have s2:IntKind.i64.wrap (lo+hi+1)=lo+hi+1:=IntWalk.i64_in _ (by omega);have s3:IntKind.i64.wrap ((lo+hi+1).tdiv 2)=x:=by rw[Int.tdiv_eq_ediv_of_nonneg (by omega),hx];exact IntWalk.i64_in _ (by omega)
    obtain⟨b1,b2,b3,b4,b5,b6,b7,b8,b9,_,_⟩:=room_bd (d:=d) (R:=m.rise) (F:=m.fall) (w:=x) d1 d2 (by omega) r2 (by omega) f2 x0 x1;have s4:IntKind.i64.wrap (x*x)=x*x:=IntWalk.i64_in _ (by omega);have s5:IntKind.i64.wrap (m.rise+m.fall)=m.rise+m.fall:=IntWalk.i64_in _ (by omega);have s6:IntKind.i64.wrap (x*x*(m.rise+m.fall))=x*x*(m.rise+m.fall):=IntWalk.i64_in _ (by omega);have s7:IntKind.i64.wrap (2*d)=2*d:=IntWalk.i64_in _ (by omega);have s8:IntKind.i64.wrap (2*d*m.rise)=2*d*m.rise:=IntWalk.i64_in _ (by omega);have s9:IntKind.i64.wrap (2*d*m.rise*m.fall)=2*d*m.rise*m.fall:=IntWalk.i64_in _ (by omega);have s10:IntKind.i64.wrap (x-1)=x-1:=IntWalk.i64_in _ (by omega)
    by_cases q:x*x*(m.rise+m.fall)≤2*d*m.rise*m.fall
    ·have z:=decide_eq_true q
     have HN:Hid (Room d m.rise m.fall x):=lh (by unfold Room;omega);clear q b1 b2 b3 b4 b5 b6 b7 b8 b9
     go_wp2_with fail
     go_roundw
     case rel=>exact⟨x,hi,x0,by omega,l2,rfl,rfl,lh ⟨HN.out,HA.out.2⟩,hB,k3,k4⟩
     case measure=>simp[intOf];omega
    ·have z:=decide_eq_false q
     have HN:Hid (¬Room d m.rise m.fall x):=lh (by unfold Room;omega);clear q b1 b2 b3 b4 b5 b6 b7 b8 b9
     go_wp2_with fail
     go_roundw
     case rel=>exact⟨lo,x-1,l0,by omega,by omega,rfl,rfl,lh ⟨HA.out.1,.inr (by rw[show x-1+1=x by omega];exact HN.out)⟩,hB,k3,k4⟩
     case measure=>simp[intOf];omega
   ·have c':=decide_eq_false c
    obtain rfl:lo=hi:=by omega
    have HR:Hid (lo=t):=lh (top_unique (by omega) (by omega) ⟨l0,l2,HA.out.1,HA.out.2⟩ HT.out)
    go_wp2_with fail
    go_ret;exact⟨ret_u HR.out,hB⟩
end
end Go.Proofs.YtebofaenlhhkaaaGreat
