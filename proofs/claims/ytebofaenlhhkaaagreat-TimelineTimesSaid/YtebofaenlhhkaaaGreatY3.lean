import Derived.Maps.OwnOps
import Derived.Maps.OwnSet
import Derived.Maps.Views
import Derived.Outline
import Derived.Test.YtebofaenlhhkaaaGreatY2
namespace Go.Proofs.YtebofaenlhhkaaaGreat
set_option maxRecDepth 100000
set_option maxHeartbeats 80000000
section
open Go.RowKit Go.Shelf Go.Maps Go.WideMaps
attribute [local go_sem] Oper.semAt_some
def Qh(l:List ByteArray):List Lit:=l.map fun s=>.string s.data.toList
theorem ACb(l:List ByteArray):∀x∈Qh l,WideAt.IsKeyLit x:=by
 intro x hx;unfold Qh at hx;rw[List.mem_map]at hx;obtain⟨s,_,rfl⟩:=hx
 trivial
theorem ABr(acc:List Lit)(x:Lit)(hx:WideAt.IsKeyLit x):acc.any (fun y=>y.sameKey x)=true↔x∈acc:=by
 rw[List.any_eq_true]
 constructor
 ·rintro ⟨y,hy,e⟩
  rw[←WideAt.sameKey_eq e];exact hy
 ·exact fun h=>⟨x,h,WideAt.sameKey_self hx⟩
theorem Ri:∀(xs acc:List Lit),(∀x∈xs,WideAt.IsKeyLit x)→(xs.foldl addKey acc).length≤acc.length+xs.length∧((xs.foldl addKey acc).length<acc.length+xs.length↔¬(xs.Nodup∧∀x∈xs,x∉acc))
 | [],acc,_=>⟨nr,by simp⟩
 | x::r,acc,h=>by
  have hx:=h x (List.mem_cons_self ..);rw[List.foldl_cons,List.length_cons]
  by_cases hm:x∈acc
  ·rw[show addKey acc x=acc by unfold addKey;rw[if_pos ((ABr acc x hx).2 hm)]]
   have h1:=(Ri r acc fun y hy=>h y (List.mem_cons_of_mem _ hy)).1;refine⟨by omega,fun _ q=>q.2 x (List.mem_cons_self ..) hm,fun _=>by omega⟩
  ·rw[show addKey acc x=acc++[x]by unfold addKey;rw[if_neg fun q=>hm ((ABr acc x hx).1 q)]]
   obtain⟨h1,h2⟩:=Ri r (acc++[x]) fun y hy=>h y (List.mem_cons_of_mem _ hy);rw[List.length_append,List.length_singleton]at h1 h2;refine⟨by omega,?_⟩;rw[show acc.length+(r.length+1)=acc.length+1+r.length by omega,h2]
   apply not_congr
   rw[List.nodup_cons];simp only[List.mem_append,List.mem_cons,not_or]
   constructor
   ·rintro ⟨a,b⟩
    refine⟨⟨fun q=>(b x q).2.1 rfl,a⟩,fun y hy=>?_⟩;rcases hy with rfl | hy
    ·exact hm
    ·exact(b y hy).1
   ·rintro ⟨⟨a,b⟩,c⟩
    exact⟨b,fun y hy=>⟨c y (.inr hy),fun e=>a (e▸hy),fun h=>by cases h⟩⟩
def Ub(l:List ByteArray):Bool:=decide (¬l.Nodup)
theorem AEv(l:List ByteArray):(Qh l).Nodup↔l.Nodup:=by
 unfold Qh
 induction l with
 | nil=>simp
 | cons s t ih=>
  rw[List.map_cons,List.nodup_cons,List.nodup_cons,ih,List.mem_map]
  constructor
  ·rintro ⟨a,b⟩
   exact⟨fun q=>a ⟨s,q,rfl⟩,b⟩
  ·rintro ⟨a,b⟩
   refine⟨?_,b⟩;rintro ⟨t',h1,h2⟩
   apply a
   have:t'=s:=by
    obtain⟨⟨x⟩⟩:=t';obtain⟨⟨y⟩⟩:=s
    simp at h2
    rw[h2]
   rw[←this];exact h1
def Qk(l:List ByteArray):DataW Unit:=setOf (.agg []) (Qh l)
theorem Wg(l:List ByteArray):Maps.size (Qk l)≤l.length∧decide (Maps.size (Qk l)<l.length)=Ub l:=by
 unfold Qk;rw[size_setOf _ _ (ACb l)];obtain⟨h1,h2⟩:=Ri (Qh l) [] (ACb l);have e:(Qh l).length=l.length:=by unfold Qh;rw[List.length_map]
 rw[List.length_nil,Nat.zero_add,e]at h1 h2;refine⟨h1,?_⟩;unfold Ub;rw[Bool.eq_iff_iff,decide_eq_true_eq,decide_eq_true_eq,←AEv l];have h3:(∀x∈Qh l,x∉([]:List Lit)):=fun _ _ h=>by cases h
 rw[h2];exact not_congr ⟨fun h=>h.1,fun h=>⟨h,h3⟩⟩
theorem Xi(l:List ByteArray)(s:ByteArray):(Qk l).put (.string s.data.toList) (.agg [])=Qk (l++[s]):=by
 unfold Qk Qh;rw[List.map_append,List.map_cons,List.map_nil,setOf_snoc]
theorem ANl:Keyed Tryz.prog 9:=string_keyed Tryz.underlying9
theorem Gv{H:Type}{w w':World}{b n:Nat}{D:DataW H}{R:Value→Option (DataW H×List MemPlace)}{k:TypeId}{P:Program}(h:w.ownsMap P k R b n D)(hB:Below w.heap.size w w'):w'.ownsMap P k R b n D:=by
 have hlt:=h.lt;obtain⟨es,clock,hb,F,hs,hD⟩:=h;exact⟨es,clock,(hB.block b hlt).trans hb,F,hs,hD⟩
theorem Ye{w wr w2 w3:World}{o:Obj}(hB:Below w.heap.size w wr)(h2:Below (wr.alloc o).heap.size (wr.alloc o) w2)(h3:w2.grownBy w3 (some w.heap.size)):Below w.heap.size w w3:=
 have h4:Below w.heap.size w w2:=hB.trans ((Dh _ h2).mono hB.size)
 h4.grown h3 h4.size (fun j hj=>by cases hj;exact nr)
theorem Uw(L:List Cd){k:Nat}(h:k<L.length):(L.take (k+1)).map (·.name)=(L.take k).map (·.name)++[(tg L k).name]:=by
 rw[List.take_succ_eq_append_getElem h,List.map_append,Jm L k h]
 rfl
theorem Ym(r:Cd)(w:World):
  Calls Tryz.prog 199 #[.agg #[.string r.name,.int .i64 r.pos,.int .i64 r.width,.int .i64 r.weight,.int .i64 r.hang,.int .i64 r.front,.int .i64 r.back]] w fun e w'=>e=.returned (.string r.name)∧Below w.heap.size w w':=by
 go_enter Tryz.func199,Tryz.ntmps199
 go_wp2_with fail
 go_ret;exact⟨rfl,(br).alloc nr _⟩
theorem Xg(a:Option Addr)(L:List Cd)(cap n₀:Nat)(w:World)(hn₀:n₀≤w.heap.size)(hl:L.length≤1000)(hs:∀x∈L,x.name.size≤1000)(h:Gp n₀ w a L):
  Calls Tryz.prog 198 #[.slice a L.length cap,.func (.func 199) #[] #[]] w fun e w'=>e=.returned (.bool (Ub (L.map (·.name))))∧Below w.heap.size w w':=by
 have HL:=lh h;have HS:Hid (∀k,k<L.length→(tg L k).name.size≤1000):=lh fun k hk=>hs _ (by rw[Jm L k hk];exact List.getElem_mem hk);clear h hs;have hmm:=@run_makeMap Tryz.prog
 go_enter Tryz.func198,Tryz.ntmps198
 go_wp2
 go_loopw [11] (fun i wr=>∃k:Nat,k≤L.length∧i=.int .i64 k∧Hid (wr.ownsMap Tryz.prog 9 unitElem w.heap.size k (Qk ((L.take k).map (·.name))))∧Below w.heap.size w wr) (fun i _=>L.length-(intOf i).toNat)
 case atStart=>exact⟨0,nz,rfl,lh (World.ownsMap_made _ _ _ _),(br).alloc nr _⟩
 case round=>
  obtain⟨k,hk,rfl,HO,hB⟩:=hrel
  by_cases hlt:k<L.length
  ·obtain⟨b,off,rfl,hb,hx⟩:=HL.out (by omega)
   obtain⟨e0,e1,e2,e3,e4,e5,e6⟩:=hx k hlt;have d0:=(ct hB e0 (show b<w.heap.size by omega));have d1:=(ct hB e1 (show b<w.heap.size by omega));have d2:=(ct hB e2 (show b<w.heap.size by omega));have d3:=(ct hB e3 (show b<w.heap.size by omega));have d4:=(ct hB e4 (show b<w.heap.size by omega));have d5:=(ct hB e5 (show b<w.heap.size by omega));have d6:=(ct hB e6 (show b<w.heap.size by omega));have HSZ:=lh (HS.out k hlt);have HN:=lh (Uw L hlt);generalize hr:tg L k=r at *;clear hx hr e0 e1 e2 e3 e4 e5 e6
   go_wp2_with (first
    | (go_at_call 199;go_fit (Ym r _);rintro e w2 ⟨rfl,hb2⟩;have HB2:=lh hb2;clear hb2)
    | (at_mapUpdate;refine wpList_mapUpdate_own _ rfl _ _ _ 245 rfl 9 208 ANl Tryz.underlying245 unitElem w.heap.size k (Qk ((L.take k).map (·.name))) rfl (Gv (HO.out.alloc _) HB2.out) (by unfold maxLen;omega) (.string r.name) (.agg #[]) (.string r.name.data.toList) rfl rfl (keyOf_string_mk Tryz.underlying9 (by have:=HSZ.out;unfold maxLen;omega)) (.agg []) [] unitElem_mk ?_;intro w3 hown3 hgrow3;rw[Xi,←HN.out]at hown3;have HO3:=lh hown3;have HG3:=lh hgrow3;clear hown3 hgrow3))
   go_roundw
   case rel=>exact⟨k+1,by omega,by go_num,HO3,Ye hB HB2.out HG3.out⟩
   case measure=>simp[intOf];omega
  ·obtain rfl:k=L.length:=by omega
   rw[List.take_length]at HO;obtain⟨n1,n2⟩:=Wg (L.map (·.name));rw[List.length_map]at n1 n2;have HE:=lh n2;clear n2 hlt
   go_wp2_with (at_len;refine wpList_len_own _ rfl _ 245 rfl 9 208 Tryz.underlying245 unitElem w.heap.size L.length _ rfl HO.out ?_)
   go_ret;exact⟨Ab HE.out,hB⟩
theorem Mf(L:List Cb){k:Nat}(h:k<L.length):(L.take (k+1)).map (·.name)=(L.take k).map (·.name)++[(bg L k).name]:=by
 rw[List.take_succ_eq_append_getElem h,List.map_append,AEn L k h]
 rfl
theorem Vy(r:Cb)(w:World):
  Calls Tryz.prog 206 #[.agg #[.string r.name,.int .i64 r.weight,.int .i64 r.count]] w fun e w'=>e=.returned (.string r.name)∧Below w.heap.size w w':=by
 go_enter Tryz.func206,Tryz.ntmps206
 go_wp2_with fail
 go_ret;exact⟨rfl,(br).alloc nr _⟩
theorem Ul(a:Option Addr)(L:List Cb)(cap n₀:Nat)(w:World)(hn₀:n₀≤w.heap.size)(hl:L.length≤1000)(hs:∀x∈L,x.name.size≤1000)(h:Fm n₀ w a L):
  Calls Tryz.prog 205 #[.slice a L.length cap,.func (.func 206) #[] #[]] w fun e w'=>e=.returned (.bool (Ub (L.map (·.name))))∧Below w.heap.size w w':=by
 have HL:=lh h;have HS:Hid (∀k,k<L.length→(bg L k).name.size≤1000):=lh fun k hk=>hs _ (by rw[AEn L k hk];exact List.getElem_mem hk);clear h hs;have hmm:=@run_makeMap Tryz.prog
 go_enter Tryz.func205,Tryz.ntmps205
 go_wp2
 go_loopw [11] (fun i wr=>∃k:Nat,k≤L.length∧i=.int .i64 k∧Hid (wr.ownsMap Tryz.prog 9 unitElem w.heap.size k (Qk ((L.take k).map (·.name))))∧Below w.heap.size w wr) (fun i _=>L.length-(intOf i).toNat)
 case atStart=>exact⟨0,nz,rfl,lh (World.ownsMap_made _ _ _ _),(br).alloc nr _⟩
 case round=>
  obtain⟨k,hk,rfl,HO,hB⟩:=hrel
  by_cases hlt:k<L.length
  ·obtain⟨b,off,rfl,hb,hx⟩:=HL.out (by omega)
   obtain⟨e0,e1,e2⟩:=hx k hlt;have d0:=(ct hB e0 (show b<w.heap.size by omega));have d1:=(ct hB e1 (show b<w.heap.size by omega));have d2:=(ct hB e2 (show b<w.heap.size by omega));have HSZ:=lh (HS.out k hlt);have HN:=lh (Mf L hlt);generalize hr:bg L k=r at *;clear hx hr e0 e1 e2
   go_wp2_with (first
    | (go_at_call 206;go_fit (Vy r _);rintro e w2 ⟨rfl,hb2⟩;have HB2:=lh hb2;clear hb2)
    | (at_mapUpdate;refine wpList_mapUpdate_own _ rfl _ _ _ 245 rfl 9 208 ANl Tryz.underlying245 unitElem w.heap.size k (Qk ((L.take k).map (·.name))) rfl (Gv (HO.out.alloc _) HB2.out) (by unfold maxLen;omega) (.string r.name) (.agg #[]) (.string r.name.data.toList) rfl rfl (keyOf_string_mk Tryz.underlying9 (by have:=HSZ.out;unfold maxLen;omega)) (.agg []) [] unitElem_mk ?_;intro w3 hown3 hgrow3;rw[Xi,←HN.out]at hown3;have HO3:=lh hown3;have HG3:=lh hgrow3;clear hown3 hgrow3))
   go_roundw
   case rel=>exact⟨k+1,by omega,by go_num,HO3,Ye hB HB2.out HG3.out⟩
   case measure=>simp[intOf];omega
  ·obtain rfl:k=L.length:=by omega
   rw[List.take_length]at HO;obtain⟨n1,n2⟩:=Wg (L.map (·.name));rw[List.length_map]at n1 n2;have HE:=lh n2;clear n2 hlt
   go_wp2_with (at_len;refine wpList_len_own _ rfl _ 245 rfl 9 208 Tryz.underlying245 unitElem w.heap.size L.length _ rfl HO.out ?_)
   go_ret;exact⟨Ab HE.out,hB⟩
end
section
open Go.RowKit Go.Shelf
theorem Nm(w:World)(o p:Obj):Below w.heap.size w ((w.alloc o).alloc p):=(Aa w o).alloc (by simp) p
theorem Bh(n lo hi:Int)(w:World):
  Calls Tryz.prog 180 #[.int .i64 n,.int .i64 lo,.int .i64 hi] w fun e w'=>e=.returned (.bool (Ai n lo hi))∧w=w':=by
 have HR:Hid (Ai n lo hi=(decide (lo≤n)&&decide (n≤hi))):=lh rfl
 by_cases p1:lo≤n
 ·have g1:decide (lo≤n)=true:=dT p1
  rw[g1]at HR;clear p1
  go_enter Tryz.func180,Tryz.ntmps180
  go_wp2_with fail
  go_ret;exact⟨Ab (by rw[HR.out];rfl),rfl⟩
 ·have g1:decide (lo≤n)=false:=dF p1
  rw[g1]at HR;clear p1
  go_enter Tryz.func180,Tryz.ntmps180
  go_wp2_with fail
  go_ret;exact⟨Ab (by rw[HR.out];rfl),rfl⟩
theorem Bi(n lo hi:Int)(w:World):
  Calls Tryz.prog 192 #[.int .i64 n,.int .i64 lo,.int .i64 hi] w fun e w'=>e=.returned (.bool (Ai n lo hi))∧w=w':=by
 have HR:Hid (Ai n lo hi=(decide (lo≤n)&&decide (n≤hi))):=lh rfl
 by_cases p1:lo≤n
 ·have g1:decide (lo≤n)=true:=dT p1
  rw[g1]at HR;clear p1
  go_enter Tryz.func192,Tryz.ntmps192
  go_wp2_with fail
  go_ret;exact⟨Ab (by rw[HR.out];rfl),rfl⟩
 ·have g1:decide (lo≤n)=false:=dF p1
  rw[g1]at HR;clear p1
  go_enter Tryz.func192,Tryz.ntmps192
  go_wp2_with fail
  go_ret;exact⟨Ab (by rw[HR.out];rfl),rfl⟩
theorem Py(r:Cd)(w:World):
  Calls Tryz.prog 200 #[.agg #[.string r.name,.int .i64 r.pos,.int .i64 r.width,.int .i64 r.weight,.int .i64 r.hang,.int .i64 r.front,.int .i64 r.back]] w fun e w'=>e=.returned (.bool (Fn r))∧Below w.heap.size w w':=by
 go_enter Tryz.func200,Tryz.ntmps200
 cases h0:Ao r.name
 ·have HR:Hid (Fn r=false):=lh (by simp only[Fn,h0,Bool.false_and])
  have H0:=lh h0;clear h0
  go_wp2_with (first
   | (go_at_call 143;go_fit (Ah r.name _);rintro e w1 ⟨rfl,rfl⟩;rw[H0.out]))
  go_ret;exact⟨Ab HR.out.symm,Aa _ _⟩
 cases h1:Ai r.weight 0 1048576
 ·have HR:Hid (Fn r=false):=lh (by simp only[Fn,h0,h1,Bool.true_and,Bool.false_and])
  have H0:=lh h0;have H1:=lh h1;clear h0 h1
  go_wp2_with (first
   | (go_at_call 143;go_fit (Ah r.name _);rintro e w1 ⟨rfl,rfl⟩;rw[H0.out])
   | (go_at_call 180;go_fit (Bh r.weight 0 1048576 _);rintro e w1 ⟨rfl,rfl⟩;rw[H1.out]))
  go_ret;exact⟨Ab HR.out.symm,Aa _ _⟩
 cases h2:Ai r.hang 0 1048576
 ·have HR:Hid (Fn r=false):=lh (by simp only[Fn,h0,h1,h2,Bool.true_and,Bool.false_and])
  have H0:=lh h0;have H1:=lh h1;have H2:=lh h2;clear h0 h1 h2
  go_wp2_with (first
   | (go_at_call 143;go_fit (Ah r.name _);rintro e w1 ⟨rfl,rfl⟩;rw[H0.out])
   | (go_at_call 180;go_fit (Bh _ _ _ _);rintro e w1 ⟨rfl,rfl⟩;simp only[H1.out,H2.out]))
  go_ret;exact⟨Ab HR.out.symm,Aa _ _⟩
 cases h3:Ai r.front 0 1048576
 ·have HR:Hid (Fn r=false):=lh (by simp only[Fn,h0,h1,h2,h3,Bool.true_and,Bool.false_and])
  have H0:=lh h0;have H1:=lh h1;have H2:=lh h2;have H3:=lh h3;clear h0 h1 h2 h3
  go_wp2_with (first
   | (go_at_call 143;go_fit (Ah r.name _);rintro e w1 ⟨rfl,rfl⟩;rw[H0.out])
   | (go_at_call 180;go_fit (Bh _ _ _ _);rintro e w1 ⟨rfl,rfl⟩;simp only[H1.out,H2.out,H3.out]))
  go_ret;exact⟨Ab HR.out.symm,Aa _ _⟩
 cases h4:Ai r.back 0 1048576
 ·have HR:Hid (Fn r=false):=lh (by simp only[Fn,h0,h1,h2,h3,h4,Bool.true_and])
  have H0:=lh h0;have H1:=lh h1;have H2:=lh h2;have H3:=lh h3;have H4:=lh h4;clear h0 h1 h2 h3 h4
  go_wp2_with (first
   | (go_at_call 143;go_fit (Ah r.name _);rintro e w1 ⟨rfl,rfl⟩;rw[H0.out])
   | (go_at_call 180;go_fit (Bh _ _ _ _);rintro e w1 ⟨rfl,rfl⟩;simp only[H1.out,H2.out,H3.out,H4.out]))
  go_ret;exact⟨Ab HR.out.symm,Aa _ _⟩
 have HR:Hid (Fn r=true):=lh (by simp only[Fn,h0,h1,h2,h3,h4,Bool.and_self]);have H0:=lh h0;have H1:=lh h1;have H2:=lh h2;have H3:=lh h3;have H4:=lh h4;clear h0 h1 h2 h3 h4
 go_wp2_with (first
  | (go_at_call 143;go_fit (Ah r.name _);rintro e w1 ⟨rfl,rfl⟩;rw[H0.out])
  | (go_at_call 180;go_fit (Bh r.weight 0 1048576 _);rintro e w1 ⟨rfl,rfl⟩;rw[H1.out])
  | (go_at_call 180;go_fit (Bh r.hang 0 1048576 _);rintro e w1 ⟨rfl,rfl⟩;rw[H2.out])
  | (go_at_call 180;go_fit (Bh r.front 0 1048576 _);rintro e w1 ⟨rfl,rfl⟩;rw[H3.out])
  | (go_at_call 180;go_fit (Bh r.back 0 1048576 _);rintro e w1 ⟨rfl,rfl⟩;rw[H4.out]))
 go_ret;exact⟨Ab HR.out.symm,Aa _ _⟩
theorem Nh(r:Cd)(len:Int)(w:World)(hl:0≤len∧len≤1048576):
  Calls Tryz.prog 201 #[.agg #[.string r.name,.int .i64 r.pos,.int .i64 r.width,.int .i64 r.weight,.int .i64 r.hang,.int .i64 r.front,.int .i64 r.back],.int .i64 len] w fun e w'=>e=.returned (.bool (Fh r len))∧Below w.heap.size w w':=by
 go_enter Tryz.func201,Tryz.ntmps201
 cases h0:decide (0≤r.pos)
 ·have HR:Hid (Fh r len=false):=lh (by simp only[Fh,h0,Bool.false_and])
  go_wp2_with fail
  go_ret;exact⟨Ab HR.out.symm,Aa _ _⟩
 cases h1:Ai r.width 1 1048576
 ·have HR:Hid (Fh r len=false):=lh (by simp only[Fh,h0,h1,Bool.true_and,Bool.false_and])
  have H1:=lh h1;clear h1
  go_wp2_with (first
   | (go_at_call 180;go_fit (Bh r.width 1 1048576 _);rintro e w1 ⟨rfl,rfl⟩;rw[H1.out]))
  go_ret;exact⟨Ab HR.out.symm,Aa _ _⟩
 have hw:=Am.1 h1;have s1:IntKind.i64.wrap (len-r.width)=len-r.width:=IntWalk.i64_in _ (by omega)
 cases h2:decide (r.pos≤len-r.width)
 ·have HR:Hid (Fh r len=false):=lh (by simp only[Fh,h0,h1,h2,Bool.true_and])
  have H1:=lh h1;clear h1
  go_wp2_with (first
   | (go_at_call 180;go_fit (Bh r.width 1 1048576 _);rintro e w1 ⟨rfl,rfl⟩;rw[H1.out]))
  go_ret;exact⟨Ab HR.out.symm,Aa _ _⟩
 have HR:Hid (Fh r len=true):=lh (by simp only[Fh,h0,h1,h2,Bool.and_self]);have H1:=lh h1;clear h1
 go_wp2_with (first
  | (go_at_call 180;go_fit (Bh r.width 1 1048576 _);rintro e w1 ⟨rfl,rfl⟩;rw[H1.out]))
 go_ret;exact⟨Ab HR.out.symm,Aa _ _⟩
def Et(r:Cd)(len:Int):Bool:=Ao r.name&&(Ai r.width 1 1048576&&(Ai r.pos 0 (len-r.width)&&(Ai r.weight 0 1048576&&(Ai r.hang 0 1048576&&(Ai r.front 0 1048576&&Ai r.back 0 1048576)))))
theorem AMd(r:Cd)(len:Int):Et r len=Ej len r:=by
 rw[Bool.eq_iff_iff,Uc];unfold Et;simp only[Bool.and_eq_true,Am]
 constructor
 ·rintro ⟨a,b,c,d,e,f,g⟩;exact⟨a,d,e,f,g,c.1,b,c.2⟩
 ·rintro ⟨a,d,e,f,g,c,b,c'⟩;exact⟨a,b,⟨c,c'⟩,d,e,f,g⟩
theorem Vr(r:Cd)(len:Int)(w:World)(hl:0≤len∧len≤1048576):
  Calls Tryz.prog 209 #[.agg #[.string r.name,.int .i64 r.pos,.int .i64 r.width,.int .i64 r.weight,.int .i64 r.hang,.int .i64 r.front,.int .i64 r.back],.int .i64 len] w fun e w'=>e=.returned (.bool (Ej len r))∧Below w.heap.size w w':=by
 rw[←AMd]
 go_enter Tryz.func209,Tryz.ntmps209
 cases h0:Ao r.name
 ·have HR:Hid (Et r len=false):=lh (by simp only[Et,h0,Bool.false_and])
  have H0:=lh h0;clear h0
  go_wp2_with (first
   | (go_at_call 167;go_fit (Af r.name _);rintro e w1 ⟨rfl,rfl⟩;rw[H0.out]))
  go_ret;exact⟨Ab HR.out.symm,Aa _ _⟩
 cases h1:Ai r.width 1 1048576
 ·have HR:Hid (Et r len=false):=lh (by simp only[Et,h0,h1,Bool.true_and,Bool.false_and])
  have H0:=lh h0;have H1:=lh h1;clear h0 h1
  go_wp2_with (first
   | (go_at_call 167;go_fit (Af r.name _);rintro e w1 ⟨rfl,rfl⟩;rw[H0.out])
   | (go_at_call 192;go_fit (Bi r.width 1 1048576 _);rintro e w1 ⟨rfl,rfl⟩;rw[H1.out]))
  go_ret;exact⟨Ab HR.out.symm,Aa _ _⟩
 have hw:=Am.1 h1;have s1:IntKind.i64.wrap (len-r.width)=len-r.width:=IntWalk.i64_in _ (by omega)
 cases h2:Ai r.pos 0 (len-r.width)
 ·have HR:Hid (Et r len=false):=lh (by simp only[Et,h0,h1,h2,Bool.true_and,Bool.false_and])
  have H0:=lh h0;have H1:=lh h1;have H2:=lh h2;clear h0 h1 h2
  go_wp2_with (first
   | (go_at_call 167;go_fit (Af r.name _);rintro e w1 ⟨rfl,rfl⟩;rw[H0.out])
   | (go_at_call 192;go_fit (Bi _ _ _ _);rintro e w1 ⟨rfl,rfl⟩;simp only[H1.out,H2.out]))
  go_ret;exact⟨Ab HR.out.symm,Aa _ _⟩
 cases h3:Ai r.weight 0 1048576
 ·have HR:Hid (Et r len=false):=lh (by simp only[Et,h0,h1,h2,h3,Bool.true_and,Bool.false_and])
  have H0:=lh h0;have H1:=lh h1;have H2:=lh h2;have H3:=lh h3;clear h0 h1 h2 h3
  go_wp2_with (first
   | (go_at_call 167;go_fit (Af r.name _);rintro e w1 ⟨rfl,rfl⟩;rw[H0.out])
   | (go_at_call 192;go_fit (Bi _ _ _ _);rintro e w1 ⟨rfl,rfl⟩;simp only[H1.out,H2.out,H3.out]))
  go_ret;exact⟨Ab HR.out.symm,Aa _ _⟩
 cases h4:Ai r.hang 0 1048576
 ·have HR:Hid (Et r len=false):=lh (by simp only[Et,h0,h1,h2,h3,h4,Bool.true_and,Bool.false_and])
  have H0:=lh h0;have H1:=lh h1;have H2:=lh h2;have H3:=lh h3;have H4:=lh h4;clear h0 h1 h2 h3 h4
  go_wp2_with (first
   | (go_at_call 167;go_fit (Af r.name _);rintro e w1 ⟨rfl,rfl⟩;rw[H0.out])
   | (go_at_call 192;go_fit (Bi _ _ _ _);rintro e w1 ⟨rfl,rfl⟩;simp only[H1.out,H2.out,H3.out,H4.out]))
  go_ret;exact⟨Ab HR.out.symm,Aa _ _⟩
 cases h5:Ai r.front 0 1048576
 ·have HR:Hid (Et r len=false):=lh (by simp only[Et,h0,h1,h2,h3,h4,h5,Bool.true_and,Bool.false_and])
  have H0:=lh h0;have H1:=lh h1;have H2:=lh h2;have H3:=lh h3;have H4:=lh h4;have H5:=lh h5;clear h0 h1 h2 h3 h4 h5
  go_wp2_with (first
   | (go_at_call 167;go_fit (Af r.name _);rintro e w1 ⟨rfl,rfl⟩;rw[H0.out])
   | (go_at_call 192;go_fit (Bi _ _ _ _);rintro e w1 ⟨rfl,rfl⟩;simp only[H1.out,H2.out,H3.out,H4.out,H5.out]))
  go_ret;exact⟨Ab HR.out.symm,Aa _ _⟩
 cases h6:Ai r.back 0 1048576
 ·have HR:Hid (Et r len=false):=lh (by simp only[Et,h0,h1,h2,h3,h4,h5,h6,Bool.true_and])
  have H0:=lh h0;have H1:=lh h1;have H2:=lh h2;have H3:=lh h3;have H4:=lh h4;have H5:=lh h5;have H6:=lh h6;clear h0 h1 h2 h3 h4 h5 h6
  go_wp2_with (first
   | (go_at_call 167;go_fit (Af r.name _);rintro e w1 ⟨rfl,rfl⟩;rw[H0.out])
   | (go_at_call 192;go_fit (Bi _ _ _ _);rintro e w1 ⟨rfl,rfl⟩;simp only[H1.out,H2.out,H3.out,H4.out,H5.out,H6.out]))
  go_ret;exact⟨Ab HR.out.symm,Aa _ _⟩
 have HR:Hid (Et r len=true):=lh (by simp only[Et,h0,h1,h2,h3,h4,h5,h6,Bool.and_self]);have H0:=lh h0;have H1:=lh h1;have H2:=lh h2;have H3:=lh h3;have H4:=lh h4;have H5:=lh h5;have H6:=lh h6;clear h0 h1 h2 h3 h4 h5 h6
 go_wp2_with (first
  | (go_at_call 167;go_fit (Af r.name _);rintro e w1 ⟨rfl,rfl⟩;rw[H0.out])
  | (go_at_call 192;go_fit (Bi r.width 1 1048576 _);rintro e w1 ⟨rfl,rfl⟩;rw[H1.out])
  | (go_at_call 192;go_fit (Bi r.pos 0 (len-r.width) _);rintro e w1 ⟨rfl,rfl⟩;rw[H2.out])
  | (go_at_call 192;go_fit (Bi r.weight 0 1048576 _);rintro e w1 ⟨rfl,rfl⟩;rw[H3.out])
  | (go_at_call 192;go_fit (Bi r.hang 0 1048576 _);rintro e w1 ⟨rfl,rfl⟩;rw[H4.out])
  | (go_at_call 192;go_fit (Bi r.front 0 1048576 _);rintro e w1 ⟨rfl,rfl⟩;rw[H5.out])
  | (go_at_call 192;go_fit (Bi r.back 0 1048576 _);rintro e w1 ⟨rfl,rfl⟩;rw[H6.out]))
 go_ret;exact⟨Ab HR.out.symm,Aa _ _⟩
def Du(x y:Cd):Bool:=decide (IntKind.i64.wrap (x.pos+x.width)≤y.pos)||decide (IntKind.i64.wrap (y.pos+y.width)≤x.pos)
theorem Tc{x y:Cd}{len:Int}(hx:Ej len x=true)(hy:Ej len y=true)(hl:0≤len∧len≤1048576):Du x y=Dt x y:=by
 obtain⟨_,_,_,_,_,a,b,c⟩:=Uc.1 hx;obtain⟨_,_,_,_,_,d,e,f⟩:=Uc.1 hy;unfold Du Dt;rw[IntWalk.i64_in _ (by omega),IntWalk.i64_in _ (by omega)]
theorem AKe(x y:Cd)(w:World):
  Calls Tryz.prog 204 #[.agg #[.string x.name,.int .i64 x.pos,.int .i64 x.width,.int .i64 x.weight,.int .i64 x.hang,.int .i64 x.front,.int .i64 x.back],.agg #[.string y.name,.int .i64 y.pos,.int .i64 y.width,.int .i64 y.weight,.int .i64 y.hang,.int .i64 y.front,.int .i64 y.back]] w fun e w'=>e=.returned (.bool (Du x y))∧Below w.heap.size w w':=by
 have HR:Hid (Du x y=(decide (IntKind.i64.wrap (x.pos+x.width)≤y.pos)||decide (IntKind.i64.wrap (y.pos+y.width)≤x.pos))):=lh rfl;rw[IntWalk.i64_left,IntWalk.i64_left]at HR;obtain⟨p,hp⟩:=nm (wrap64 (x.pos+x.width));obtain⟨q,hq⟩:=nm (wrap64 (y.pos+y.width));rw[hp,hq]at HR
 by_cases p1:p≤y.pos
 ·have g1:decide (p≤y.pos)=true:=dT p1
  rw[g1]at HR;clear p1
  go_enter Tryz.func204,Tryz.ntmps204
  go_wp2_with fail
  go_ret;exact⟨Ab (by rw[HR.out];rfl),Nm _ _ _⟩
 ·have g1:decide (p≤y.pos)=false:=dF p1
  rw[g1]at HR;clear p1
  go_enter Tryz.func204,Tryz.ntmps204
  go_wp2_with fail
  go_ret;exact⟨Ab (by rw[HR.out];rfl),Nm _ _ _⟩
theorem Wb(x y:Cd)(w:World):
  Calls Tryz.prog 210 #[.agg #[.string x.name,.int .i64 x.pos,.int .i64 x.width,.int .i64 x.weight,.int .i64 x.hang,.int .i64 x.front,.int .i64 x.back],.agg #[.string y.name,.int .i64 y.pos,.int .i64 y.width,.int .i64 y.weight,.int .i64 y.hang,.int .i64 y.front,.int .i64 y.back]] w fun e w'=>e=.returned (.bool (Du x y))∧Below w.heap.size w w':=by
 have HR:Hid (Du x y=(decide (IntKind.i64.wrap (x.pos+x.width)≤y.pos)||decide (IntKind.i64.wrap (y.pos+y.width)≤x.pos))):=lh rfl;rw[IntWalk.i64_left,IntWalk.i64_left]at HR;obtain⟨p,hp⟩:=nm (wrap64 (x.pos+x.width));obtain⟨q,hq⟩:=nm (wrap64 (y.pos+y.width));rw[hp,hq]at HR
 by_cases p1:p≤y.pos
 ·have g1:decide (p≤y.pos)=true:=dT p1
  rw[g1]at HR;clear p1
  go_enter Tryz.func210,Tryz.ntmps210
  go_wp2_with fail
  go_ret;exact⟨Ab (by rw[HR.out];rfl),Nm _ _ _⟩
 ·have g1:decide (p≤y.pos)=false:=dF p1
  rw[g1]at HR;clear p1
  go_enter Tryz.func210,Tryz.ntmps210
  go_wp2_with fail
  go_ret;exact⟨Ab (by rw[HR.out];rfl),Nm _ _ _⟩
def Ma(w:World)(b:Nat)(r:Cd):Prop:=w.cell? ⟨b,0,none⟩=some (.string r.name)∧w.cell? ⟨b,1,none⟩=some (.int .i64 r.pos)∧w.cell? ⟨b,2,none⟩=some (.int .i64 r.width)∧w.cell? ⟨b,3,none⟩=some (.int .i64 r.weight)∧w.cell? ⟨b,4,none⟩=some (.int .i64 r.hang)∧w.cell? ⟨b,5,none⟩=some (.int .i64 r.front)∧w.cell? ⟨b,6,none⟩=some (.int .i64 r.back)
theorem Ma.below{w w':World}{b:Nat}{r:Cd}(h:Ma w b r)(hb:Below w.heap.size w w')(hlt:b<w.heap.size):Ma w' b r:=
 let ⟨a0,a1,a2,a3,a4,a5,a6⟩:=h
 ⟨ct hb a0 hlt,ct hb a1 hlt,ct hb a2 hlt,ct hb a3 hlt,ct hb a4 hlt,ct hb a5 hlt,ct hb a6 hlt⟩
theorem Ma.new(w:World)(r:Cd)(t:TypeId):Ma (w.alloc (.cells #[.string r.name,.int .i64 r.pos,.int .i64 r.width,.int .i64 r.weight,.int .i64 r.hang,.int .i64 r.front,.int .i64 r.back] t)) w.heap.size r:=by
 unfold Ma
 simp
theorem Pv(args:Array Value)(w:World):(callFunc 203 args).run Tryz.prog w=.ok (.enter 203 args) w:=enters_of Tryz.func203 (by kernel_rfl) rfl args w
theorem AHo(bx:Nat)(x y:Cd)(w:World)(h:Ma w bx x)(hlt:bx<w.heap.size):
  Calls Tryz.prog 203 #[.agg #[.string y.name,.int .i64 y.pos,.int .i64 y.width,.int .i64 y.weight,.int .i64 y.hang,.int .i64 y.front,.int .i64 y.back],.pointer (some ⟨bx,0,none⟩)] w fun e w'=>e=.returned (.bool (!Du x y))∧Below w.heap.size w w':=by
 obtain⟨a0,a1,a2,a3,a4,a5,a6⟩:=h
 go_enter Tryz.func203,Tryz.ntmps203
 go_wp2_with (first
  | (go_at_call 204;go_fit (AKe x y _);rintro e w1 ⟨rfl,hb⟩))
 go_ret;exact⟨rfl,Dh _ hb⟩
theorem AGe{w:World}{bx:Nat}{x:Cd}(h:Ma w bx x)(hlt:bx<w.heap.size):AEm 203 #[.pointer (some ⟨bx,0,none⟩)] w.heap.size w (fun y=>!Du x y):=by
 intro W r hb;exact AHo bx x r W (h.below hb hlt) (Nat.lt_of_lt_of_le hlt hb.size)
end
section
open Go.RowKit Go.Shelf
attribute [local go_sem] Oper.semAt_some
theorem AIx{f:Nat→Int}{n:Nat}(h:∀j,j+1<n→f j<f (j+1)):∀j,j<n→∀i,i<j→f i<f j
 | 0,_,i,hi=>absurd hi (Nat.not_lt_zero _)
 | j+1,hj,i,hi=>by
  have h1:=h j hj;rcases(show i<j∨i=j by omega)with l | l
  ·have:=AIx h j (by omega) i l
   omega
  ·subst l;exact h1
theorem Tn{L:List Int}{len:Int}:Nb L len=true↔(2≤L.length∧L.length≤10)∧0≤ig L 0∧ig L (L.length-1)≤len∧∀j,j+1<L.length→ig L j<ig L (j+1):=by
 unfold Nb;rw[Bool.and_eq_true,Bool.and_eq_true,Am,List.all_eq_true,decide_eq_true_eq]
 constructor
 ·rintro ⟨h1,h2,h3⟩
  have h4:∀j,j<L.length→0≤ig L j∧ig L j≤len:=fun j hj=>by
   rw[Ie L j hj];exact Am.1 (h2 _ (List.getElem_mem hj))
  refine⟨by omega,(h4 0 (by omega)).1,(h4 _ (by omega)).2,fun j hj=>?_⟩;rw[Ie L j (by omega),Ie L (j+1) hj];exact List.pairwise_iff_getElem.1 h3 j (j+1) _ _ (Nat.lt_succ_self _)
 ·rintro ⟨h1,h2,h3,h4⟩
  have h5:=AIx (f:=ig L) h4;refine⟨by omega,fun x hx=>?_,?_⟩
  ·obtain⟨j,hj,rfl⟩:=List.getElem_of_mem hx
   rw[←Ie L j hj,Am]
   have a:ig L 0≤ig L j:=by
    rcases Nat.eq_zero_or_pos j with e | e
    ·subst e;exact Int.le_refl _
    ·have:=h5 j hj 0 e;omega
   have b:ig L j≤ig L (L.length-1):=by
    rcases(show j=L.length-1∨j<L.length-1 by omega)with e | e
    ·subst e;exact Int.le_refl _
    ·have:=h5 (L.length-1) (by omega) j e;omega
   omega
  ·rw[List.pairwise_iff_getElem]
   intro i j hi hj hij;rw[←Ie L i hi,←Ie L j hj];exact h5 j hj i hij
theorem Xc{L:List Int}{len:Int}:Nb L len=true↔Ai L.length 2 10=true∧∀j,j<L.length→Ai (ig L j) 0 len=true∧(0<j→ig L (j-1)<ig L j):=by
 rw[Am]
 constructor
 ·intro h
  have h':=h;unfold Nb at h';rw[Bool.and_eq_true,Bool.and_eq_true,Am,List.all_eq_true]at h';obtain⟨h1,_,_,h4⟩:=Tn.1 h;refine⟨h'.1,fun j hj=>⟨by rw[Ie L j hj];exact h'.2.1 _ (List.getElem_mem hj),fun h0=>?_⟩⟩;have:=h4 (j-1) (by omega)
  rwa [show j-1+1=j by omega]at this
 ·rintro ⟨h1,h2⟩
  refine Tn.2 ⟨by omega,(Am.1 (h2 0 (by omega)).1).1,(Am.1 (h2 (L.length-1) (by omega)).1).2,fun j hj=>?_⟩;have:=(h2 (j+1) hj).2 (by omega)
  rwa [show j+1-1=j by omega]at this
theorem Ha(a:Option Addr)(L:List Int)(cap:Nat)(len:Int)(w:World)(h:Bl w.heap.size w a L):
  Calls Tryz.prog 181 #[.slice a L.length cap,.int .i64 len] w fun e w'=>e=.returned (.bool (Nb L len))∧Below w.heap.size w w':=by
 have HL:=lh h;clear h;obtain⟨R,hR⟩:=nm (Nb L len);have HI:Hid (R=true↔(2≤L.length∧L.length≤10)∧0≤ig L 0∧ig L (L.length-1)≤len∧∀j,j+1<L.length→ig L j<ig L (j+1)):=lh (by rw[←hR];exact Tn);rw[hR];clear hR
 cases hb:Ai L.length 2 10
 ·have HB:=lh hb
  have HR:Hid (R=false):=lh (by
   rw[Bool.eq_false_iff];intro q;have h1:=(HI.out.1 q).1;rw[Am.2 (by omega)]at hb
   cases hb)
  clear hb
  go_enter Tryz.func181,Tryz.ntmps181
  go_wp2_with (first
   | (go_at_call 180;go_fit (Bh (L.length:Int) 2 10 _);rintro e w1 ⟨rfl,rfl⟩;rw[HB.out]))
  go_ret;exact⟨Ab HR.out.symm,br⟩
 have HB:=lh hb;have hbd:=Am.1 hb;obtain⟨b,off,rfl,hlt,hc⟩:=HL.out (by omega);have HC:=lh hc;have HLT:=lh hlt;obtain⟨m,hm⟩:=nm (L.length-1);have e0:=hc 0 (by omega);rw[Nat.add_zero]at e0;have eL:=hc m (by omega);have z1:(L.length:Int)-1=(m:Int):=by omega
 have z2:(m:Int)<L.length:=by omega
 have z3:m<L.length:=by omega
 rw[hm]at HI;obtain⟨x,hx⟩:=nm (ig L 0);obtain⟨y,hy⟩:=nm (ig L m);rw[hx]at e0 HI;rw[hy]at eL HI;clear hb hc hlt hm hx hy
 by_cases q1:x<0
 ·have g1:decide (x<0)=true:=dT q1
  have HR:Hid (R=false):=lh (by
   rw[Bool.eq_false_iff];intro q;have:=(HI.out.1 q).2.1;omega)
  clear q1
  go_enter Tryz.func181,Tryz.ntmps181
  go_wp2_with (first
   | (go_at_call 180;go_fit (Bh (L.length:Int) 2 10 _);rintro e w1 ⟨rfl,rfl⟩;rw[HB.out]))
  go_ret;exact⟨Ab HR.out.symm,br⟩
 have g1:decide (x<0)=false:=dF q1
 by_cases q2:len<y
 ·have g2:decide (len<y)=true:=dT q2
  have HR:Hid (R=false):=lh (by
   rw[Bool.eq_false_iff];intro q;have:=(HI.out.1 q).2.2.1;omega)
  clear q1 q2
  go_enter Tryz.func181,Tryz.ntmps181
  go_wp2_with (first
   | (go_at_call 180;go_fit (Bh (L.length:Int) 2 10 _);rintro e w1 ⟨rfl,rfl⟩;rw[HB.out]))
  go_ret;exact⟨Ab HR.out.symm,br⟩
 have g2:decide (len<y)=false:=dF q2
 have HI2:Hid (R=true↔∀j,j+1<L.length→ig L j<ig L (j+1)):=lh (by
  rw[HI.out];exact⟨fun h=>h.2.2.2,fun h=>⟨by omega,by omega,by omega,h⟩⟩)
 clear q1 q2 HI
 go_enter Tryz.func181,Tryz.ntmps181
 go_wp2_with (first
  | (go_at_call 180;go_fit (Bh (L.length:Int) 2 10 _);rintro e w1 ⟨rfl,rfl⟩;rw[HB.out]))
 clear g1 g2 z1 z2 z3 e0 eL
 go_loopw [5] (fun v wr=>∃k:Nat,1≤k∧k≤L.length∧v=.int .i64 k∧Hid (∀j,j+1<k→ig L j<ig L (j+1))∧Below w.heap.size w wr) (fun v _=>L.length-(intOf v).toNat)
 case atStart=>exact⟨1,nr,by omega,rfl,lh (fun j hj=>by omega),br⟩
 case round=>
  obtain⟨k,hk1,hk,rfl,HA,hBB⟩:=hrel
  by_cases hlt:k<L.length
  ·obtain⟨q,hq⟩:=nm (k-1)
   have e1:=(hBB.cell (p:=⟨b,off+k,none⟩) HLT.out).trans (HC.out k hlt);have e2:=(hBB.cell (p:=⟨b,off+q,none⟩) HLT.out).trans (HC.out q (by omega));have hkq:k=q+1:=by omega
   have HD:Hid (∀p:Prop,(ig L q<ig L k→p)→(∀j,j+1<k→ig L j<ig L (j+1))→p∨¬ig L q<ig L k):=lh fun p h _=>by
    by_cases c:ig L q<ig L k
    ·exact .inl (h c)
    ·exact .inr c
   have HN:Hid (ig L q<ig L k→∀j,j+1<k+1→ig L j<ig L (j+1)):=lh fun h j hj=>by
    rcases(show j+1<k∨j=q by omega)with l | l
    ·exact HA.out j l
    ·subst l;rw[←hkq];exact h
   have HX:Hid (¬ig L q<ig L k→R=false):=lh fun h=>by
    rw[Bool.eq_false_iff];intro r;have:=HI2.out.1 r q (by omega);rw[←hkq]at this;exact h this
   have z5:(k:Int)-1=(q:Int):=by omega
   have z6:(q:Int)<L.length:=by omega
   have z7:q<L.length:=by omega
   have z8:IntKind.i64.wrap ((k:Int)-1)=(q:Int):=by rw[z5];exact IntWalk.i64_in _ (by omega)
   have z9:(k:Int)<L.length:=by omega
   generalize ig L q=y' at *;generalize ig L k=x' at *;clear hq hkq HD
   by_cases c:y'<x'
   ·have g3:decide (x'≤y')=false:=dF (by omega)
    have HN2:=lh (HN.out c);clear c
    go_wp2_with (go_quiet (fail))
    go_roundw
    case rel=>exact⟨k+1,by omega,by omega,by go_num,HN2,Aj hBB _⟩
    case measure=>simp[intOf];omega
   ·have g3:decide (x'≤y')=true:=dT (by omega)
    have HR:=lh (HX.out c);clear c
    go_wp2_with (go_quiet (fail))
    go_ret;exact⟨Ab HR.out.symm,Aj hBB _⟩
  ·obtain rfl:k=L.length:=by omega
   have HR:Hid (R=true):=lh (HI2.out.2 HA.out)
   go_wp2_with fail
   go_ret;exact⟨Ab HR.out.symm,hBB⟩
theorem ADg{L:List Cb}:∀{k:Nat},k≤L.length→(Tm L k=true↔(∀j,j<k→En (bg L j)=true)∧((L.take k).map (·.name)).Nodup)
 | 0,_=>by simp[Tm]
 | k+1,hk=>by
  have ih:=ADg (L:=L) (k:=k) (by omega);rw[Mf L (show k<L.length by omega),List.nodup_append];simp only[Tm,Bool.and_eq_true,ih];unfold Mc;rw[Bool.and_eq_true,Bool.not_eq_true',AAt,Bool.eq_false_iff,Ne,List.any_eq_true]
  constructor
  ·rintro ⟨⟨a,b⟩,c,d⟩
   refine⟨fun j hj=>?_,b,by simp,fun x hx y hy=>?_⟩
   ·rcases(show j<k∨j=k by omega)with l | l
    ·exact a j l
    ·subst l;exact c
   ·rw[List.mem_singleton]at hy
    subst hy;intro e
    apply d
    rw[List.mem_map]at hx;obtain⟨r,hr,e2⟩:=hx;exact⟨r,hr,by unfold Nx;rw[e2,e];exact dT rfl⟩
  ·rintro ⟨a,b,_,d⟩
   refine⟨⟨fun j hj=>a j (by omega),b⟩,a k (by omega),?_⟩;rintro ⟨r,hr,e⟩;unfold Nx at e;rw[decide_eq_true_eq]at e;exact d r.name (List.mem_map.2 ⟨r,hr,rfl⟩) (bg L k).name (List.mem_singleton.2 rfl) e
theorem AFd{L:List Cb}:Hg L=true↔L.length≤8∧(L.map (·.name)).Nodup∧(∀j,j<L.length→En (bg L j)=true)∧Gn L L.length≤60:=by
 unfold Hg;rw[Bool.and_eq_true,Bool.and_eq_true,decide_eq_true_eq,decide_eq_true_eq,ADg nr,List.take_length]
 constructor
 ·rintro ⟨a,⟨b,c⟩,d⟩;exact⟨a,c,b,d⟩
 ·rintro ⟨a,c,b,d⟩;exact⟨a,⟨b,c⟩,d⟩
theorem Pp(r:Cb):En r=(Ao r.name&&(Ai r.weight 1 1048576&&Ai r.count 0 60)):=by
 rw[Bool.eq_iff_iff,La];simp only[Bool.and_eq_true,Am]
 constructor
 ·rintro ⟨a,b,c,d,e⟩;exact⟨a,⟨b,c⟩,d,e⟩
 ·rintro ⟨a,⟨b,c⟩,d,e⟩;exact⟨a,b,c,d,e⟩
theorem AIp{L:List Cb}:∀{k:Nat},(∀j,j<k→En (bg L j)=true)→0≤Gn L k∧Gn L k≤60*k
 | 0,_=>by simp[Gn]
 | k+1,h=>by
  obtain⟨a,b⟩:=AIp (L:=L) (k:=k) fun j hj=>h j (by omega);obtain⟨_,_,_,c,d⟩:=(La _).1 (h k (by omega));simp only[Gn];omega
theorem Xy(a:Option Addr)(L:List Cb)(cap:Nat)(w:World)(hsz:∀x∈L,x.name.size≤1000)(h:Fm w.heap.size w a L):
  Calls Tryz.prog 183 #[.slice a L.length cap] w fun e w'=>e=.returned (.bool (Hg L))∧Below w.heap.size w w':=by
 have HU:=lh h;have HSZ:=lh hsz;clear h hsz;obtain⟨R,hR⟩:=nm (Hg L);have HI:Hid (R=true↔L.length≤8∧(L.map (·.name)).Nodup∧(∀j,j<L.length→En (bg L j)=true)∧Gn L L.length≤60):=lh (by rw[←hR];exact AFd);rw[hR];clear hR
 by_cases q:8<L.length
 ·have HR:Hid (R=false):=lh (by
   rw[Bool.eq_false_iff];intro h;have:=(HI.out.1 h).1;omega)
  have g:decide ((8:Int)<L.length)=true:=dT (by omega);have g':decide (8<L.length)=true:=dT (by omega);clear q
  go_enter Tryz.func183,Tryz.ntmps183
  go_wp2_with fail
  go_ret;exact⟨Ab HR.out.symm,br⟩
 have g:decide ((8:Int)<L.length)=false:=dF (by omega);have g':decide (8<L.length)=false:=dF (by omega);have hq:L.length≤8:=by omega
 clear q
 cases ht:Ub (L.map (·.name))
 case true=>
  have HT:=lh ht
  have HR:Hid (R=false):=lh (by
   rw[Bool.eq_false_iff];intro h;exact(of_decide_eq_true ht) (HI.out.1 h).2.1)
  clear ht
  go_enter Tryz.func183,Tryz.ntmps183
  go_wp2_with (first
   | (go_at_call 205;go_fit (Ul a L cap w.heap.size _ nr (by omega) HSZ.out HU.out);rintro e w1 ⟨rfl,hb1⟩;rw[HT.out]))
  go_ret;exact⟨Ab HR.out.symm,hb1⟩
 have HT:=lh ht
 have HI2:Hid (R=true↔(∀j,j<L.length→En (bg L j)=true)∧Gn L L.length≤60):=lh (by
  rw[HI.out];have hn:(L.map (·.name)).Nodup:=Classical.not_not.1 (of_decide_eq_false ht);exact⟨fun h=>⟨h.2.2.1,h.2.2.2⟩,fun h=>⟨hq,hn,h.1,h.2⟩⟩)
 clear ht HI
 go_enter Tryz.func183,Tryz.ntmps183
 go_wp2_with (first
  | (go_at_call 205;go_fit (Ul a L cap w.heap.size _ nr (by omega) HSZ.out HU.out);rintro e w1 ⟨rfl,hb1⟩;rw[HT.out]))
 go_loopw [3,15] (fun s i wr=>∃k:Nat,k≤L.length∧i=.int .i64 k∧s=.int .i64 (Gn L k)∧Hid (∀j,j<k→En (bg L j)=true)∧Below w.heap.size w wr) (fun _ i _=>L.length-(intOf i).toNat)
 case atStart=>exact⟨0,nz,rfl,rfl,lh (fun j hj=>by omega),hb1⟩
 case round=>
  obtain⟨k,hk,rfl,rfl,HO,hB⟩:=hrel
  by_cases hlt:k<L.length
  ·obtain⟨b,off,rfl,hb,hc⟩:=HU.out (by omega)
   obtain⟨e0,e1,e2⟩:=hc k hlt;have c0:=(ct hB e0 hb);have c1:=(ct hB e1 hb);have c2:=(ct hB e2 hb);have hbd:=AIp HO.out;have HC:Hid (Gn L (k+1)=Gn L k+(bg L k).count):=lh rfl
   have HN:Hid (En (bg L k)=false→R=false):=lh fun h=>by
    rw[Bool.eq_false_iff];intro q;rw[(HI2.out.1 q).1 k hlt]at h;cases h
   have HY:Hid (En (bg L k)=true→∀j,j<k+1→En (bg L j)=true):=lh fun h j hj=>by
    rcases(show j<k∨j=k by omega)with l | l
    ·exact HO.out j l
    ·subst l;exact h
   generalize Gn L k=s at *;generalize bg L k=r at *;clear hc e0 e1 e2;have hB2:=hB.alloc hB.size (.cells #[.string r.name,.int .i64 r.weight,.int .i64 r.count] 179)
   cases h0:Ao r.name
   ·have HR:Hid ((Ao r.name&&(Ai r.weight 1 1048576&&Ai r.count 0 60))=false):=lh (by simp only[h0,Bool.false_and])
    have H0:=lh h0;clear h0;have HZ:=lh (HN.out (by rw[Pp];exact HR.out));clear HN HY
    go_wp2_with (first
     | (go_at_call 143;go_fit (Ah r.name _);rintro e w1 ⟨rfl,rfl⟩;rw[H0.out])
     | (go_at_call 180;go_fit (Bh r.weight 1 1048576 _);rintro e w1 ⟨rfl,rfl⟩;rw[H1.out])
     | (go_at_call 180;go_fit (Bh r.count 0 60 _);rintro e w1 ⟨rfl,rfl⟩;rw[H2.out]))
    go_ret;exact⟨Ab HZ.out.symm,hB2⟩
   cases h1:Ai r.weight 1 1048576
   ·have HR:Hid ((Ao r.name&&(Ai r.weight 1 1048576&&Ai r.count 0 60))=false):=lh (by simp only[h0,h1,Bool.true_and,Bool.false_and])
    have H0:=lh h0;have H1:=lh h1;clear h0 h1;have HZ:=lh (HN.out (by rw[Pp];exact HR.out));clear HN HY
    go_wp2_with (first
     | (go_at_call 143;go_fit (Ah r.name _);rintro e w1 ⟨rfl,rfl⟩;rw[H0.out])
     | (go_at_call 180;go_fit (Bh r.weight 1 1048576 _);rintro e w1 ⟨rfl,rfl⟩;rw[H1.out])
     | (go_at_call 180;go_fit (Bh r.count 0 60 _);rintro e w1 ⟨rfl,rfl⟩;rw[H2.out]))
    go_ret;exact⟨Ab HZ.out.symm,hB2⟩
   cases h2:Ai r.count 0 60
   ·have HR:Hid ((Ao r.name&&(Ai r.weight 1 1048576&&Ai r.count 0 60))=false):=lh (by simp only[h0,h1,h2,Bool.true_and])
    have H0:=lh h0;have H1:=lh h1;have H2:=lh h2;clear h0 h1 h2;have HZ:=lh (HN.out (by rw[Pp];exact HR.out));clear HN HY
    go_wp2_with (first
     | (go_at_call 143;go_fit (Ah r.name _);rintro e w1 ⟨rfl,rfl⟩;rw[H0.out])
     | (go_at_call 180;go_fit (Bh r.weight 1 1048576 _);rintro e w1 ⟨rfl,rfl⟩;rw[H1.out])
     | (go_at_call 180;go_fit (Bh r.count 0 60 _);rintro e w1 ⟨rfl,rfl⟩;rw[H2.out]))
    go_ret;exact⟨Ab HZ.out.symm,hB2⟩
   have HR:Hid ((Ao r.name&&(Ai r.weight 1 1048576&&Ai r.count 0 60))=true):=lh (by simp only[h0,h1,h2,Bool.and_self]);have H0:=lh h0;have H1:=lh h1;have H2:=lh h2;have h2x:=h2;clear h0 h1 h2;have HYY:=lh (HY.out (by rw[Pp];exact HR.out));have hbb:=Am.1 h2x;have t1:IntKind.i64.wrap (s+r.count)=s+r.count:=IntWalk.i64_in _ (by omega);clear HN HY h2x
   go_wp2_with (first
    | (go_at_call 143;go_fit (Ah r.name _);rintro e w1 ⟨rfl,rfl⟩;rw[H0.out])
    | (go_at_call 180;go_fit (Bh r.weight 1 1048576 _);rintro e w1 ⟨rfl,rfl⟩;rw[H1.out])
    | (go_at_call 180;go_fit (Bh r.count 0 60 _);rintro e w1 ⟨rfl,rfl⟩;rw[H2.out]))
   go_roundw
   case rel=>exact⟨k+1,by omega,by go_num,by rw[HC.out],HYY,hB2⟩
   case measure=>simp[intOf];omega
  ·obtain rfl:k=L.length:=by omega
   have HF:Hid (decide (Gn L L.length≤60)=R):=lh (by
    rw[Bool.eq_iff_iff,decide_eq_true_eq,HI2.out];exact⟨fun h=>⟨HO.out,h⟩,fun h=>h.2⟩)
   go_wp2_with fail
   go_ret;exact⟨Ab HF.out,hB⟩
theorem Ht(a:Option Addr)(M:List Cd)(n cap n₀ g:Nat)(cb:Array Value)(p:Cd→Bool)(w:World)(hn:n=M.length)(eg:∀args w,(callFunc g args).run Tryz.prog w=.ok (.enter g args) w)
  (hl:n≤1100) (hn₀:n₀≤w.heap.size) (hI:Gp n₀ w a M) (hp:AEm g cb n₀ w p):
  Calls Tryz.prog 202 #[.slice a n cap,.func (.func g) #[] cb] w fun e w'=>e=.returned (.bool (Eo M p))∧Below w.heap.size w w':=by
 subst hn;exact Sa a M cap n₀ g cb p w eg hl hn₀ hI hp
theorem AIt{I:List Cd}{k j:Nat}(h:j<k):tg (I.take k) j=tg I j:=by
 unfold tg;rw[List.getElem?_take,if_pos h]
theorem Wk{I:List Cd}{len:Int}:Iw I len=true↔I.length≤40∧(I.map (·.name)).Nodup∧(∀j,j<I.length→Ej len (tg I j)=true)∧∀j,j<I.length→∀i,i<j→Dt (tg I i) (tg I j)=true:=by
 rw[ALw]
 have hm:(∀x∈I,Ej len x=true)↔∀j,j<I.length→Ej len (tg I j)=true:=by
  constructor
  ·intro h j hj
   rw[Jm I j hj];exact h _ (List.getElem_mem hj)
  ·intro h x hx
   obtain⟨j,hj,rfl⟩:=List.getElem_of_mem hx;rw[←Jm I j hj];exact h j hj
 rw[hm,List.Nodup,List.pairwise_map]
 constructor
 ·rintro ⟨a,b,c⟩
  refine⟨a,c.imp fun h=>h.1,b,fun j hj i hi=>?_⟩;rw[Jm I i (by omega),Jm I j hj];exact(List.pairwise_iff_getElem.1 c i j _ _ hi).2
 ·rintro ⟨a,b,c,d⟩
  refine⟨a,c,List.pairwise_iff_getElem.2 fun i j hi hj hij=>⟨List.pairwise_iff_getElem.1 b i j hi hj hij,?_⟩⟩;have:=d j hj i hij
  rwa [Jm I i hi,Jm I j hj]at this
theorem AGp{I:List Cd}{k:Nat}{r:Cd}{len:Int}(hk:k≤I.length)(hlen:0≤len∧len≤1048576)(hr:Ej len r=true)(hI:∀j,j<k→Ej len (tg I j)=true):
  Eo (I.take k) (fun y=>!Du r y)=false↔∀i,i<k→Dt (tg I i) r=true:=by
 have hT:(I.take k).length=k:=by rw[List.length_take];omega
 rw[AEh,Bool.eq_false_iff,Ne,List.any_eq_true]
 constructor
 ·intro h i hi
  cases q:Dt (tg I i) r
  ·exfalso
   apply h
   refine⟨tg I i,?_,?_⟩
   ·rw[←AIt hi,Jm (I.take k) i (by omega)]
    exact List.getElem_mem _
   ·rw[Tc hr (hI i hi) hlen,Xr,q];rfl
  ·rfl
 ·rintro h ⟨x,hx,e⟩
  obtain⟨i,hi,rfl⟩:=List.getElem_of_mem hx;rw[←Jm (I.take k) i hi,AIt (by omega),Tc hr (hI i (by omega)) hlen,Xr,h i (by omega)]at e
  cases e
theorem Tb(a:Option Addr)(I:List Cd)(cap:Nat)(len:Int)(w:World)(hlen:0≤len∧len≤1048576)(hcap:I.length≤cap)(hsz:∀x∈I,x.name.size≤1000)(h:Gp w.heap.size w a I):
  Calls Tryz.prog 182 #[.slice a I.length cap,.int .i64 len] w fun e w'=>e=.returned (.bool (Iw I len))∧Below w.heap.size w w':=by
 have HU:=lh h;have HSZ:=lh hsz;clear h hsz;obtain⟨R,hR⟩:=nm (Iw I len);have HI:Hid (R=true↔I.length≤40∧(I.map (·.name)).Nodup∧(∀j,j<I.length→Ej len (tg I j)=true)∧∀j,j<I.length→∀i,i<j→Dt (tg I i) (tg I j)=true):=lh (by rw[←hR];exact Wk);rw[hR];clear hR
 by_cases q:40<I.length
 ·have HR:Hid (R=false):=lh (by
   rw[Bool.eq_false_iff];intro h;have:=(HI.out.1 h).1;omega)
  have g:decide ((40:Int)<I.length)=true:=dT (by omega);have g':decide (40<I.length)=true:=dT (by omega);clear q
  go_enter Tryz.func182,Tryz.ntmps182
  go_wp2_with fail
  go_ret;exact⟨Ab HR.out.symm,br⟩
 have g:decide ((40:Int)<I.length)=false:=dF (by omega);have g':decide (40<I.length)=false:=dF (by omega);have hq:I.length≤40:=by omega
 clear q
 cases ht:Ub (I.map (·.name))
 case true=>
  have HT:=lh ht
  have HR:Hid (R=false):=lh (by
   rw[Bool.eq_false_iff];intro h;exact(of_decide_eq_true ht) (HI.out.1 h).2.1)
  clear ht
  go_enter Tryz.func182,Tryz.ntmps182
  go_wp2_with (first
   | (go_at_call 198;go_fit (Xg a I cap w.heap.size _ nr (by omega) HSZ.out HU.out);rintro e w1 ⟨rfl,hb1⟩;rw[HT.out]))
  go_ret;exact⟨Ab HR.out.symm,hb1⟩
 have HT:=lh ht
 have HI2:Hid (R=true↔(∀j,j<I.length→Ej len (tg I j)=true)∧∀j,j<I.length→∀i,i<j→Dt (tg I i) (tg I j)=true):=lh (by
  rw[HI.out];have hn:(I.map (·.name)).Nodup:=Classical.not_not.1 (of_decide_eq_false ht);exact⟨fun h=>⟨h.2.2.1,h.2.2.2⟩,fun h=>⟨hq,hn,h.1,h.2⟩⟩)
 clear ht HI
 go_enter Tryz.func182,Tryz.ntmps182
 go_wp2_with (first
  | (go_at_call 198;go_fit (Xg a I cap w.heap.size _ nr (by omega) HSZ.out HU.out);rintro e w1 ⟨rfl,hb1⟩;rw[HT.out]))
 go_loopw [16] (fun i wr=>∃k:Nat,k≤I.length∧i=.int .i64 k∧Hid ((∀j,j<k→Ej len (tg I j)=true)∧∀j,j<k→∀i,i<j→Dt (tg I i) (tg I j)=true)∧Below w.heap.size w wr) (fun i _=>I.length-(intOf i).toNat)
 case atStart=>exact⟨0,nz,rfl,lh ⟨fun j hj=>by omega,fun j hj=>by omega⟩,hb1⟩
 case round=>
  obtain⟨k,hk,rfl,HO,hB⟩:=hrel
  by_cases hlt:k<I.length
  ·obtain⟨b,off,rfl,hb,hc⟩:=HU.out (by omega)
   obtain⟨e0,e1,e2,e3,e4,e5,e6⟩:=hc k hlt;have c0:=(ct hB e0 hb);have c1:=(ct hB e1 hb);have c2:=(ct hB e2 hb);have c3:=(ct hB e3 hb);have c4:=(ct hB e4 hb);have c5:=(ct hB e5 hb);have c6:=(ct hB e6 hb)
   have HN1:Hid (Ej len (tg I k)=false→R=false):=lh fun h=>by
    rw[Bool.eq_false_iff];intro q;rw[(HI2.out.1 q).1 k hlt]at h;cases h
   have HT0:Hid (Ej len (tg I k)=true→(Eo (I.take k) (fun y=>!Du (tg I k) y)=false↔∀i,i<k→Dt (tg I i) (tg I k)=true)):=lh fun h=>AGp (by omega) hlen h HO.out.1
   have HN2:Hid (Ej len (tg I k)=true→Eo (I.take k) (fun y=>!Du (tg I k) y)=true→R=false):=lh fun h h2=>by
    rw[Bool.eq_false_iff];intro q;rw[(HT0.out h).2 fun i hi=>(HI2.out.1 q).2 k hlt i hi]at h2
    cases h2
   have HY:Hid (Ej len (tg I k)=true→Eo (I.take k) (fun y=>!Du (tg I k) y)=false→(∀j,j<k+1→Ej len (tg I j)=true)∧∀j,j<k+1→∀i,i<j→Dt (tg I i) (tg I j)=true):=lh fun h h2=>by
    refine⟨fun j hj=>?_,fun j hj i hi=>?_⟩
    ·rcases(show j<k∨j=k by omega)with l | l
     ·exact HO.out.1 j l
     ·subst l;exact h
    ·rcases(show j<k∨j=k by omega)with l | l
     ·exact HO.out.2 j l i hi
     ·subst l;exact(HT0.out h).1 h2 i hi
   have hTl:k=(I.take k).length:=by rw[List.length_take];omega
   have HTL:=lh hTl;have k1:k≤cap:=by omega
   have k2:(k:Int)≤(cap:Int):=by omega
   generalize tg I k=r at *;have hB2':=hB.alloc hB.size (.cells #[.string r.name,.int .i64 r.pos,.int .i64 r.width,.int .i64 r.weight,.int .i64 r.hang,.int .i64 r.front,.int .i64 r.back] 177);have HAT:=Ma.new wr r 177;have hz:wr.heap.size<(wr.alloc (.cells #[.string r.name,.int .i64 r.pos,.int .i64 r.width,.int .i64 r.weight,.int .i64 r.hang,.int .i64 r.front,.int .i64 r.back] 177)).heap.size:=by simp
   have HIT:Hid (∀wx,Below (wr.alloc (.cells #[.string r.name,.int .i64 r.pos,.int .i64 r.width,.int .i64 r.weight,.int .i64 r.hang,.int .i64 r.front,.int .i64 r.back] 177)).heap.size (wr.alloc (.cells #[.string r.name,.int .i64 r.pos,.int .i64 r.width,.int .i64 r.weight,.int .i64 r.hang,.int .i64 r.front,.int .i64 r.back] 177)) wx→Gp wx.heap.size wx (some ⟨b,off,none⟩) (I.take k)):=lh fun wx h=>(((HU.out.take k).below (hB2'.trans (h.mono hB2'.size))).mono (nt hB2'.size h.size));have HX:Hid (∀wx,Below (wr.alloc (.cells #[.string r.name,.int .i64 r.pos,.int .i64 r.width,.int .i64 r.weight,.int .i64 r.hang,.int .i64 r.front,.int .i64 r.back] 177)).heap.size (wr.alloc (.cells #[.string r.name,.int .i64 r.pos,.int .i64 r.width,.int .i64 r.weight,.int .i64 r.hang,.int .i64 r.front,.int .i64 r.back] 177)) wx→Below w.heap.size w wx):=lh fun wx h=>hB2'.trans (h.mono hB2'.size);have HAK:Hid (∀wx,Below (wr.alloc (.cells #[.string r.name,.int .i64 r.pos,.int .i64 r.width,.int .i64 r.weight,.int .i64 r.hang,.int .i64 r.front,.int .i64 r.back] 177)).heap.size (wr.alloc (.cells #[.string r.name,.int .i64 r.pos,.int .i64 r.width,.int .i64 r.weight,.int .i64 r.hang,.int .i64 r.front,.int .i64 r.back] 177)) wx→AEm 203 #[.pointer (some ⟨wr.heap.size,0,none⟩)] wx.heap.size wx (fun y=>!Du r y)):=lh fun wx h=>AGe (HAT.below h hz) (Nat.lt_of_lt_of_le hz h.size);have HCX:Hid (∀wx,Below (wr.alloc (.cells #[.string r.name,.int .i64 r.pos,.int .i64 r.width,.int .i64 r.weight,.int .i64 r.hang,.int .i64 r.front,.int .i64 r.back] 177)).heap.size (wr.alloc (.cells #[.string r.name,.int .i64 r.pos,.int .i64 r.width,.int .i64 r.weight,.int .i64 r.hang,.int .i64 r.front,.int .i64 r.back] 177)) wx→Ma wx wr.heap.size r):=lh fun wx h=>HAT.below h hz;clear hc e0 e1 e2 e3 e4 e5 e6 HO HT0 hTl HAT hB2'
   go_wp2_with fail
   generalize (wr.alloc (.cells #[.string r.name,.int .i64 r.pos,.int .i64 r.width,.int .i64 r.weight,.int .i64 r.hang,.int .i64 r.front,.int .i64 r.back] 177))=W1 at *;have hB1:=Below.refl W1.heap.size W1;have x0:∀wx,Below W1.heap.size W1 wx→wx.cell? ⟨wr.heap.size,0,none⟩=some (.string r.name):=fun wx h=>(HCX.out wx h).1;have x1:∀wx,Below W1.heap.size W1 wx→wx.cell? ⟨wr.heap.size,1,none⟩=some (.int .i64 r.pos):=fun wx h=>(HCX.out wx h).2.1;have x2:∀wx,Below W1.heap.size W1 wx→wx.cell? ⟨wr.heap.size,2,none⟩=some (.int .i64 r.width):=fun wx h=>(HCX.out wx h).2.2.1;have x3:∀wx,Below W1.heap.size W1 wx→wx.cell? ⟨wr.heap.size,3,none⟩=some (.int .i64 r.weight):=fun wx h=>(HCX.out wx h).2.2.2.1;have x4:∀wx,Below W1.heap.size W1 wx→wx.cell? ⟨wr.heap.size,4,none⟩=some (.int .i64 r.hang):=fun wx h=>(HCX.out wx h).2.2.2.2.1;have x5:∀wx,Below W1.heap.size W1 wx→wx.cell? ⟨wr.heap.size,5,none⟩=some (.int .i64 r.front):=fun wx h=>(HCX.out wx h).2.2.2.2.2.1;have x6:∀wx,Below W1.heap.size W1 wx→wx.cell? ⟨wr.heap.size,6,none⟩=some (.int .i64 r.back):=fun wx h=>(HCX.out wx h).2.2.2.2.2.2;clear c0 c1 c2 c3 c4 c5 c6 HCX
   cases h0:Fn r
   ·have HR:Hid ((Fn r&&(Fh r len&&!Eo (I.take k) (fun y=>!Du r y)))=false):=lh (by simp only[h0,Bool.false_and])
    have H0:=lh h0;clear h0;have HZ:=lh (HN1.out (by unfold Ej;rw[H0.out];rfl));clear HN1 HN2 HY
    go_wp2_with (first
     | (go_at_call 200;go_fit (Py r _);rintro e w2 ⟨rfl,hb⟩;rw[H0.out];have hB2:=hB1.trans (hb.mono hB1.size);clear hb)
     | (go_at_call 201;go_fit (Nh r len _ hlen);rintro e w3 ⟨rfl,hb⟩;rw[H1.out];have hB3:=hB2.trans (hb.mono hB2.size);clear hb)
     | (go_at_call 202;go_fit (Ht (some ⟨b,off,none⟩) (I.take k) k cap _ _ _ (fun y=>!Du r y) _ HTL.out Pv (by omega) nr (HIT.out _ hB3) (HAK.out _ hB3));rintro e w4 ⟨rfl,hb⟩;rw[H2.out];have hB4:=hB3.trans (hb.mono hB3.size);clear hb))
    go_ret;exact⟨Ab HZ.out.symm,HX.out _ hB2⟩
   cases h1:Fh r len
   ·have HR:Hid ((Fn r&&(Fh r len&&!Eo (I.take k) (fun y=>!Du r y)))=false):=lh (by simp only[h0,h1,Bool.true_and,Bool.false_and])
    have H0:=lh h0;have H1:=lh h1;clear h0 h1;have HZ:=lh (HN1.out (by unfold Ej;rw[H0.out,H1.out];rfl));clear HN1 HN2 HY
    go_wp2_with (first
     | (go_at_call 200;go_fit (Py r _);rintro e w2 ⟨rfl,hb⟩;rw[H0.out];have hB2:=hB1.trans (hb.mono hB1.size);clear hb)
     | (go_at_call 201;go_fit (Nh r len _ hlen);rintro e w3 ⟨rfl,hb⟩;rw[H1.out];have hB3:=hB2.trans (hb.mono hB2.size);clear hb)
     | (go_at_call 202;go_fit (Ht (some ⟨b,off,none⟩) (I.take k) k cap _ _ _ (fun y=>!Du r y) _ HTL.out Pv (by omega) nr (HIT.out _ hB3) (HAK.out _ hB3));rintro e w4 ⟨rfl,hb⟩;rw[H2.out];have hB4:=hB3.trans (hb.mono hB3.size);clear hb))
    go_ret;exact⟨Ab HZ.out.symm,HX.out _ hB3⟩
   cases h2:!Eo (I.take k) (fun y=>!Du r y)
   ·have HR:Hid ((Fn r&&(Fh r len&&!Eo (I.take k) (fun y=>!Du r y)))=false):=lh (by simp only[h0,h1,h2,Bool.true_and])
    have H0:=lh h0;have H1:=lh h1;have H2:=lh h2;clear h0 h1 h2;have HZ:=lh (HN2.out (by unfold Ej;rw[H0.out,H1.out];rfl) (by have:=H2.out;simpa using this));have H2:Hid (Eo (I.take k) (fun y=>!Du r y)=true):=lh (by have:=H2.out;simpa using this);clear HN1 HN2 HY
    go_wp2_with (first
     | (go_at_call 200;go_fit (Py r _);rintro e w2 ⟨rfl,hb⟩;rw[H0.out];have hB2:=hB1.trans (hb.mono hB1.size);clear hb)
     | (go_at_call 201;go_fit (Nh r len _ hlen);rintro e w3 ⟨rfl,hb⟩;rw[H1.out];have hB3:=hB2.trans (hb.mono hB2.size);clear hb)
     | (go_at_call 202;go_fit (Ht (some ⟨b,off,none⟩) (I.take k) k cap _ _ _ (fun y=>!Du r y) _ HTL.out Pv (by omega) nr (HIT.out _ hB3) (HAK.out _ hB3));rintro e w4 ⟨rfl,hb⟩;rw[H2.out];have hB4:=hB3.trans (hb.mono hB3.size);clear hb))
    go_ret;exact⟨Ab HZ.out.symm,HX.out _ hB4⟩
   have HR:Hid ((Fn r&&(Fh r len&&!Eo (I.take k) (fun y=>!Du r y)))=true):=lh (by simp only[h0,h1,h2,Bool.and_self]);have H0:=lh h0;have H1:=lh h1;have H2:=lh h2;clear h0 h1 h2;have HYY:=lh (HY.out (by unfold Ej;rw[H0.out,H1.out];rfl) (by have:=H2.out;simpa using this));have H2:Hid (Eo (I.take k) (fun y=>!Du r y)=false):=lh (by have:=H2.out;simpa using this);clear HN1 HN2 HY
   go_wp2_with (first
    | (go_at_call 200;go_fit (Py r _);rintro e w2 ⟨rfl,hb⟩;rw[H0.out];have hB2:=hB1.trans (hb.mono hB1.size);clear hb)
    | (go_at_call 201;go_fit (Nh r len _ hlen);rintro e w3 ⟨rfl,hb⟩;rw[H1.out];have hB3:=hB2.trans (hb.mono hB2.size);clear hb)
    | (go_at_call 202;go_fit (Ht (some ⟨b,off,none⟩) (I.take k) k cap _ _ _ (fun y=>!Du r y) _ HTL.out Pv (by omega) nr (HIT.out _ hB3) (HAK.out _ hB3));rintro e w4 ⟨rfl,hb⟩;rw[H2.out];have hB4:=hB3.trans (hb.mono hB3.size);clear hb))
   go_roundw
   case rel=>exact⟨k+1,by omega,by go_num,HYY,HX.out _ hB4⟩
   case measure=>simp[intOf];omega
  ·obtain rfl:k=I.length:=by omega
   have HF:Hid (R=true):=lh (HI2.out.2 HO.out)
   go_wp2_with fail
   go_ret;exact⟨Ab HF.out.symm,hB⟩
end
section
open Go.RowKit Go.Shelf
structure SetIn0(w:World)(r:Ds):Prop where
 lines:Bl w.heap.size w r.la r.lines
 items:Gp w.heap.size w r.ia r.items
 bricks:Fm w.heap.size w r.ba r.bricks
 lcap:r.lines.length≤r.lc
 icap:r.items.length≤r.ic
 bcap:r.bricks.length≤r.bc
 lnil:r.la=none→r.lc=0
 inil:r.ia=none→r.ic=0
 bnil:r.ba=none→r.bc=0
structure Ls(w:World)(r:Ds):Prop extends SetIn0 w r where
 inames:∀x∈r.items,x.name.size≤1000
 bnames:∀x∈r.bricks,x.name.size≤1000
theorem SetIn0.grow{w w':World}{r:Ds}(h:SetIn0 w r)(hb:Below w.heap.size w w'):SetIn0 w' r:=
 ⟨h.lines.grow hb,h.items.grow hb,h.bricks.grow hb,h.lcap,h.icap,h.bcap,h.lnil,h.inil,h.bnil⟩
theorem Ls.grow{w w':World}{r:Ds}(h:Ls w r)(hb:Below w.heap.size w w'):Ls w' r:=
 ⟨h.toSetIn0.grow hb,h.inames,h.bnames⟩
def Ke(w:World)(b:Nat)(r:Ds):Prop:=w.cell? ⟨b,0,none⟩=some (.string r.name)∧w.cell? ⟨b,1,none⟩=some (.int .i64 r.depth)∧w.cell? ⟨b,2,none⟩=some (.int .i64 r.low)∧w.cell? ⟨b,3,none⟩=some (.int .i64 r.high)∧w.cell? ⟨b,4,none⟩=some (.int .i64 r.length)∧w.cell? ⟨b,5,none⟩=some (.slice r.la r.lines.length r.lc)∧w.cell? ⟨b,6,none⟩=some (.int .i64 r.pipe)∧w.cell? ⟨b,7,none⟩=some (.int .i64 r.arbor)∧w.cell? ⟨b,8,none⟩=some (.int .i64 r.purchase)∧w.cell? ⟨b,9,none⟩=some (.int .i64 r.most)∧w.cell? ⟨b,10,none⟩=some (.int .i64 r.brake)∧w.cell? ⟨b,11,none⟩=some (.slice r.ia r.items.length r.ic)∧w.cell? ⟨b,12,none⟩=some (.slice r.ba r.bricks.length r.bc)
theorem Ke.below{w w':World}{b:Nat}{r:Ds}(h:Ke w b r)(hb:Below w.heap.size w w')(hlt:b<w.heap.size):Ke w' b r:=
 let ⟨a0,a1,a2,a3,a4,a5,a6,a7,a8,a9,a10,a11,a12⟩:=h
 ⟨ct hb a0 hlt,ct hb a1 hlt,ct hb a2 hlt,ct hb a3 hlt,ct hb a4 hlt,ct hb a5 hlt,ct hb a6 hlt,ct hb a7 hlt,ct hb a8 hlt,ct hb a9 hlt,ct hb a10 hlt,ct hb a11 hlt,ct hb a12 hlt⟩
theorem Ke.new(w:World)(r:Ds)(t:TypeId):Ke (w.alloc (.cells #[.string r.name,.int .i64 r.depth,.int .i64 r.low,.int .i64 r.high,.int .i64 r.length,.slice r.la r.lines.length r.lc,.int .i64 r.pipe,.int .i64 r.arbor,.int .i64 r.purchase,.int .i64 r.most,.int .i64 r.brake,.slice r.ia r.items.length r.ic,.slice r.ba r.bricks.length r.bc] t)) w.heap.size r:=by
 unfold Ke
 simp
theorem Od{W0:World}{b:Nat}{r:Ds}(H:Hid (∀wx,Below W0.heap.size W0 wx→Ke wx b r)):(∀wx,Below W0.heap.size W0 wx→wx.cell? ⟨b,0,none⟩=some (.string r.name))∧(∀wx,Below W0.heap.size W0 wx→wx.cell? ⟨b,1,none⟩=some (.int .i64 r.depth))∧(∀wx,Below W0.heap.size W0 wx→wx.cell? ⟨b,2,none⟩=some (.int .i64 r.low))∧(∀wx,Below W0.heap.size W0 wx→wx.cell? ⟨b,3,none⟩=some (.int .i64 r.high))∧(∀wx,Below W0.heap.size W0 wx→wx.cell? ⟨b,4,none⟩=some (.int .i64 r.length))∧(∀wx,Below W0.heap.size W0 wx→wx.cell? ⟨b,5,none⟩=some (.slice r.la r.lines.length r.lc))∧(∀wx,Below W0.heap.size W0 wx→wx.cell? ⟨b,6,none⟩=some (.int .i64 r.pipe))∧(∀wx,Below W0.heap.size W0 wx→wx.cell? ⟨b,7,none⟩=some (.int .i64 r.arbor))∧(∀wx,Below W0.heap.size W0 wx→wx.cell? ⟨b,8,none⟩=some (.int .i64 r.purchase))∧(∀wx,Below W0.heap.size W0 wx→wx.cell? ⟨b,9,none⟩=some (.int .i64 r.most))∧(∀wx,Below W0.heap.size W0 wx→wx.cell? ⟨b,10,none⟩=some (.int .i64 r.brake))∧(∀wx,Below W0.heap.size W0 wx→wx.cell? ⟨b,11,none⟩=some (.slice r.ia r.items.length r.ic))∧(∀wx,Below W0.heap.size W0 wx→wx.cell? ⟨b,12,none⟩=some (.slice r.ba r.bricks.length r.bc)):=
 ⟨fun wx h=>(H.out wx h).1,fun wx h=>(H.out wx h).2.1,fun wx h=>(H.out wx h).2.2.1,fun wx h=>(H.out wx h).2.2.2.1,fun wx h=>(H.out wx h).2.2.2.2.1,fun wx h=>(H.out wx h).2.2.2.2.2.1,fun wx h=>(H.out wx h).2.2.2.2.2.2.1,fun wx h=>(H.out wx h).2.2.2.2.2.2.2.1,fun wx h=>(H.out wx h).2.2.2.2.2.2.2.2.1,fun wx h=>(H.out wx h).2.2.2.2.2.2.2.2.2.1,fun wx h=>(H.out wx h).2.2.2.2.2.2.2.2.2.2.1,fun wx h=>(H.out wx h).2.2.2.2.2.2.2.2.2.2.2.1,fun wx h=>(H.out wx h).2.2.2.2.2.2.2.2.2.2.2.2⟩
end
section
def Km(d R F w:Int):Prop:=w*w*(R+F)≤2*R*F*d
def Hd(d V R F t:Int):Prop:=0≤t∧t≤V∧Km d R F t∧(t=V∨¬Km d R F (t+1))
theorem Yv{d R F v w:Int}(hR:0≤R)(hF:0≤F)(hv:0≤v)(h:v≤w)(r:Km d R F w):Km d R F v:=by
 unfold Km at *;have h1:v*v≤w*w:=Int.mul_le_mul h h hv (by omega);have h2:v*v*(R+F)≤w*w*(R+F):=Int.mul_le_mul_of_nonneg_right h1 (by omega);omega
theorem Np{d V R F s t:Int}(hR:0≤R)(hF:0≤F)(hs:Hd d V R F s)(ht:Hd d V R F t):s=t:=by
 obtain⟨s0,s1,s2,s3⟩:=hs;obtain⟨t0,t1,t2,t3⟩:=ht;rcases Int.lt_trichotomy s t with l | l | l
 ·rcases s3 with e | e
  ·omega
  ·exact absurd (Yv hR hF (by omega) (by omega) t2) e
 ·exact l
 ·rcases t3 with e | e
  ·omega
  ·exact absurd (Yv hR hF (by omega) (by omega) s2) e
theorem Pu{d R F:Int}(hR:0≤R)(hF:0≤F)(hd:0≤d):Km d R F 0:=by
 unfold Km;have:=Int.mul_nonneg (Int.mul_nonneg (Int.mul_nonneg (show(0:Int)≤2 by decide) hR) hF) hd
 simpa using this
theorem ATo{d R F:Int}(hR:0≤R)(hF:0≤F)(hd:0≤d)(n:Nat):∃t,Hd d n R F t:=by
 induction n with
 | zero=>exact⟨0,Int.le_refl _,Int.le_refl _,Pu hR hF hd,.inl rfl⟩
 | succ n ih=>
  obtain⟨t,t0,t1,t2,t3⟩:=ih;rcases t3 with e | e
  ·by_cases c:Km d R F (t+1)
   ·exact⟨t+1,by omega,by omega,c,.inl (by omega)⟩
   ·exact⟨t,t0,by omega,t2,.inr c⟩
  ·exact⟨t,t0,by omega,t2,.inr e⟩
theorem AQs{d V R F:Int}(hR:0≤R)(hF:0≤F)(hd:0≤d)(hV:0≤V):∃t,Hd d V R F t:=by
 obtain⟨n,rfl⟩:=Int.eq_ofNat_of_zero_le hV;exact ATo hR hF hd n
theorem AMn{V R F:Int}(hR:0<R)(hF:0<F)(hV:0≤V):Hd 0 V R F 0:=by
 refine⟨Int.le_refl _,hV,Pu (by omega) (by omega) (Int.le_refl _),.inr ?_⟩;unfold Km
 simp
 omega
theorem Vf{d R F w:Int}(d0:0≤d)(d1:d≤1048576)(R0:0≤R)(R1:R≤16384)(F0:0≤F)(F1:F≤16384)(w0:0≤w)(w1:w≤8192):
  0≤w*w∧w*w≤67108864∧0≤w*w*(R+F)∧w*w*(R+F)≤2199023255552∧0≤2*d*R∧2*d*R≤34359738368∧0≤2*d*R*F∧2*d*R*F≤562949953421312∧2*d*R*F=2*R*F*d∧0≤2*R*F∧2*R*F≤536870912:=by
 have a0:=Int.mul_nonneg w0 w0;have a1:w*w≤8192*8192:=Int.mul_le_mul w1 w1 w0 (by decide);have b0:=Int.mul_nonneg a0 (show 0≤R+F by omega);have b1:w*w*(R+F)≤67108864*32768:=Int.mul_le_mul (by omega) (by omega) (by omega) (by decide);have c0:=Int.mul_nonneg (show 0≤2*d by omega) R0;have c1:2*d*R≤2097152*16384:=Int.mul_le_mul (by omega) (by omega) (by omega) (by decide);have e0:=Int.mul_nonneg c0 F0;have e1:2*d*R*F≤34359738368*16384:=Int.mul_le_mul (by omega) (by omega) (by omega) (by decide);have f0:=Int.mul_nonneg (show 0≤2*R by omega) F0;have f1:2*R*F≤32768*16384:=Int.mul_le_mul (by omega) (by omega) (by omega) (by decide);refine⟨a0,by omega,b0,by omega,c0,by omega,e0,by omega,by ac_rfl,f0,by omega⟩
end
section
open Go.RowKit Go.Shelf
structure Mv where
 name:ByteArray
 to:Int
 spd:Int
 rise:Int
 fall:Int
def Vk(n lo hi:Int):Bool:=decide (lo≤n)&&decide (n≤hi)
theorem Fj{n lo hi:Int}:Vk n lo hi=true↔lo≤n∧n≤hi:=by simp[Vk]
theorem ASe{n lo hi:Int}:Vk n lo hi=false↔¬(lo≤n∧n≤hi):=by rw[←Fj];simp
def Ct(m:Mv):Bool:=Ao m.name&&(Vk m.to (-1048576) 1048576&&(Vk m.spd 1 8192&&(Vk m.rise 1 16384&&Vk m.fall 1 16384)))
def Ck(d:Int)(m:Mv):Int:=if Ct m then(if Vk d 0 1048576 then 0 else 2)else 1
theorem Hk{d:Int}{m:Mv}(h:Ck d m=0):Ct m=true∧Vk d 0 1048576=true:=by
 unfold Ck at h
 cases e:Ct m
 ·rw[e]at h;simp at h
 ·rw[e,if_pos rfl]at h
  cases f:Vk d 0 1048576
  ·rw[f]at h;simp at h
  ·exact⟨rfl,rfl⟩
theorem Tx{a b:Bool}(h:a=b):Ending.returned (.bool a)=.returned (.bool b):=by rw[h]
theorem De(n lo hi:Int)(w:World):Calls Tryz.prog 163 #[.int .i64 n,.int .i64 lo,.int .i64 hi] w fun e w'=>e=.returned (.bool (Vk n lo hi))∧w=w':=by
 go_enter Tryz.func163,Tryz.ntmps163
 go_wp2
 all_goals (go_ret;exact⟨Tx (by unfold Vk;rw[Bool.eq_iff_iff];simp;omega),rfl⟩)
theorem Dy(n hi:Int)(w:World):Calls Tryz.prog 195 #[.int .i64 n,.int .i64 hi] w fun e w'=>e=.returned (.bool (Vk n 1 hi))∧w=w':=by
 go_enter Tryz.func195,Tryz.ntmps195
 go_wp2
 all_goals (go_ret;exact⟨Tx (by unfold Vk;rw[Bool.eq_iff_iff];simp;omega),rfl⟩)
theorem Gr(m:Mv)(w:World):Calls Tryz.prog 148 #[.agg #[.string m.name,.int .i64 m.to,.int .i64 m.spd,.int .i64 m.rise,.int .i64 m.fall]] w fun e w'=>e=.returned (.bool (Ct m))∧Below w.heap.size w w':=by
 cases h0:Ao m.name
 ·have H0:=lh h0
  clear h0;have HV:Hid (Ct m=false):=lh (by unfold Ct;rw[H0.out];rfl);rw[HV.out]
  go_enter Tryz.func148,Tryz.ntmps148
  go_wp2_with (first
    | (go_at_call 143;go_fit (Ah m.name _);rintro e w' ⟨rfl,rfl⟩;rw[H0.out]))
  go_ret;exact⟨rfl,Aa _ _⟩
 have H0:=lh h0;clear h0
 cases h1:Vk m.to (-1048576) 1048576
 ·have H1:=lh h1
  clear h1;have HV:Hid (Ct m=false):=lh (by unfold Ct;rw[H0.out,H1.out];rfl);rw[HV.out]
  go_enter Tryz.func148,Tryz.ntmps148
  go_wp2_with (first
    | (go_at_call 143;go_fit (Ah m.name _);rintro e w' ⟨rfl,rfl⟩;rw[H0.out])
    | (go_at_call 163;go_fit (De m.to (-1048576) 1048576 _);rintro e w' ⟨rfl,rfl⟩;rw[H1.out]))
  go_ret;exact⟨rfl,Aa _ _⟩
 have H1:=lh h1;clear h1
 cases h2:Vk m.spd 1 8192
 ·have H2:=lh h2
  clear h2;have HV:Hid (Ct m=false):=lh (by unfold Ct;rw[H0.out,H1.out,H2.out];rfl);rw[HV.out]
  go_enter Tryz.func148,Tryz.ntmps148
  go_wp2_with (first
    | (go_at_call 143;go_fit (Ah m.name _);rintro e w' ⟨rfl,rfl⟩;rw[H0.out])
    | (go_at_call 163;go_fit (De m.to (-1048576) 1048576 _);rintro e w' ⟨rfl,rfl⟩;rw[H1.out])
    | (go_at_call 163;go_fit (De m.spd 1 8192 _);rintro e w' ⟨rfl,rfl⟩;rw[H2.out]))
  go_ret;exact⟨rfl,Aa _ _⟩
 have H2:=lh h2;clear h2
 cases h3:Vk m.rise 1 16384
 ·have H3:=lh h3
  clear h3;have HV:Hid (Ct m=false):=lh (by unfold Ct;rw[H0.out,H1.out,H2.out,H3.out];rfl);rw[HV.out]
  go_enter Tryz.func148,Tryz.ntmps148
  go_wp2_with (first
    | (go_at_call 143;go_fit (Ah m.name _);rintro e w' ⟨rfl,rfl⟩;rw[H0.out])
    | (go_at_call 163;go_fit (De m.to (-1048576) 1048576 _);rintro e w' ⟨rfl,rfl⟩;rw[H1.out])
    | (go_at_call 163;go_fit (De m.spd 1 8192 _);rintro e w' ⟨rfl,rfl⟩;rw[H2.out])
    | (go_at_call 163;go_fit (De m.rise 1 16384 _);rintro e w' ⟨rfl,rfl⟩;rw[H3.out]))
  go_ret;exact⟨rfl,Aa _ _⟩
 have H3:=lh h3;clear h3
 cases h4:Vk m.fall 1 16384
 ·have H4:=lh h4
  clear h4;have HV:Hid (Ct m=false):=lh (by unfold Ct;rw[H0.out,H1.out,H2.out,H3.out,H4.out];rfl);rw[HV.out]
  go_enter Tryz.func148,Tryz.ntmps148
  go_wp2_with (first
    | (go_at_call 143;go_fit (Ah m.name _);rintro e w' ⟨rfl,rfl⟩;rw[H0.out])
    | (go_at_call 163;go_fit (De m.to (-1048576) 1048576 _);rintro e w' ⟨rfl,rfl⟩;rw[H1.out])
    | (go_at_call 163;go_fit (De m.spd 1 8192 _);rintro e w' ⟨rfl,rfl⟩;rw[H2.out])
    | (go_at_call 163;go_fit (De m.rise 1 16384 _);rintro e w' ⟨rfl,rfl⟩;rw[H3.out])
    | (go_at_call 163;go_fit (De m.fall 1 16384 _);rintro e w' ⟨rfl,rfl⟩;rw[H4.out]))
  go_ret;exact⟨rfl,Aa _ _⟩
 have H4:=lh h4;clear h4;have HV:Hid (Ct m=true):=lh (by unfold Ct;rw[H0.out,H1.out,H2.out,H3.out,H4.out];rfl);rw[HV.out]
 go_enter Tryz.func148,Tryz.ntmps148
 go_wp2_with (first
   | (go_at_call 143;go_fit (Ah m.name _);rintro e w' ⟨rfl,rfl⟩;rw[H0.out])
   | (go_at_call 163;go_fit (De m.to (-1048576) 1048576 _);rintro e w' ⟨rfl,rfl⟩;rw[H1.out])
   | (go_at_call 163;go_fit (De m.spd 1 8192 _);rintro e w' ⟨rfl,rfl⟩;rw[H2.out])
   | (go_at_call 163;go_fit (De m.rise 1 16384 _);rintro e w' ⟨rfl,rfl⟩;rw[H3.out])
   | (go_at_call 163;go_fit (De m.fall 1 16384 _);rintro e w' ⟨rfl,rfl⟩;rw[H4.out]))
 go_ret;exact⟨rfl,Aa _ _⟩
theorem Hq(m:Mv)(w:World):Calls Tryz.prog 170 #[.agg #[.string m.name,.int .i64 m.to,.int .i64 m.spd,.int .i64 m.rise,.int .i64 m.fall]] w fun e w'=>e=.returned (.bool (Ct m))∧Below w.heap.size w w':=by
 cases h0:Ao m.name
 ·have H0:=lh h0
  clear h0;have HV:Hid (Ct m=false):=lh (by unfold Ct;rw[H0.out];rfl);rw[HV.out]
  go_enter Tryz.func170,Tryz.ntmps170
  go_wp2_with (first
    | (go_at_call 167;go_fit (Af m.name _);rintro e w' ⟨rfl,rfl⟩;rw[H0.out]))
  go_ret;exact⟨rfl,Aa _ _⟩
 have H0:=lh h0;clear h0
 cases h1:Vk m.to (-1048576) 1048576
 ·have H1:=lh h1
  by_cases cl:m.to< -1048576
  ·have cl':=dT cl
   clear cl h1;have HV:Hid (Ct m=false):=lh (by unfold Ct;rw[H0.out,H1.out];rfl);rw[HV.out]
   go_enter Tryz.func170,Tryz.ntmps170
   go_wp2_with (first
     | (go_at_call 167;go_fit (Af m.name _);rintro e w' ⟨rfl,rfl⟩;rw[H0.out]))
   go_ret;exact⟨rfl,Aa _ _⟩
  ·have cg:1048576<m.to:=by have:=ASe.1 h1;omega
   have cl':=dF cl;have cg':=dT cg;clear cl h1;have HV:Hid (Ct m=false):=lh (by unfold Ct;rw[H0.out,H1.out];rfl);rw[HV.out]
   go_enter Tryz.func170,Tryz.ntmps170
   go_wp2_with (first
     | (go_at_call 167;go_fit (Af m.name _);rintro e w' ⟨rfl,rfl⟩;rw[H0.out]))
   go_ret;exact⟨rfl,Aa _ _⟩
 have H1:=lh h1;have cl:¬m.to< -1048576:=by have:=Fj.1 h1;omega
 have cg:¬1048576<m.to:=by have:=Fj.1 h1;omega
 have cl':=dF cl;have cg':=dF cg;clear h1
 cases h2:Vk m.spd 1 8192
 ·have H2:=lh h2
  clear h2;have HV:Hid (Ct m=false):=lh (by unfold Ct;rw[H0.out,H1.out,H2.out];rfl);rw[HV.out]
  go_enter Tryz.func170,Tryz.ntmps170
  go_wp2_with (first
    | (go_at_call 167;go_fit (Af m.name _);rintro e w' ⟨rfl,rfl⟩;rw[H0.out])
    | (go_at_call 195;go_fit (Dy m.spd 8192 _);rintro e w' ⟨rfl,rfl⟩;rw[H2.out]))
  go_ret;exact⟨rfl,Aa _ _⟩
 have H2:=lh h2;clear h2
 cases h3:Vk m.rise 1 16384
 ·have H3:=lh h3
  clear h3;have HV:Hid (Ct m=false):=lh (by unfold Ct;rw[H0.out,H1.out,H2.out,H3.out];rfl);rw[HV.out]
  go_enter Tryz.func170,Tryz.ntmps170
  go_wp2_with (first
    | (go_at_call 167;go_fit (Af m.name _);rintro e w' ⟨rfl,rfl⟩;rw[H0.out])
    | (go_at_call 195;go_fit (Dy m.spd 8192 _);rintro e w' ⟨rfl,rfl⟩;rw[H2.out])
    | (go_at_call 195;go_fit (Dy m.rise 16384 _);rintro e w' ⟨rfl,rfl⟩;rw[H3.out]))
  go_ret;exact⟨rfl,Aa _ _⟩
 have H3:=lh h3;clear h3
 cases h4:Vk m.fall 1 16384
 ·have H4:=lh h4
  clear h4;have HV:Hid (Ct m=false):=lh (by unfold Ct;rw[H0.out,H1.out,H2.out,H3.out,H4.out];rfl);rw[HV.out]
  go_enter Tryz.func170,Tryz.ntmps170
  go_wp2_with (first
    | (go_at_call 167;go_fit (Af m.name _);rintro e w' ⟨rfl,rfl⟩;rw[H0.out])
    | (go_at_call 195;go_fit (Dy m.spd 8192 _);rintro e w' ⟨rfl,rfl⟩;rw[H2.out])
    | (go_at_call 195;go_fit (Dy m.rise 16384 _);rintro e w' ⟨rfl,rfl⟩;rw[H3.out])
    | (go_at_call 195;go_fit (Dy m.fall 16384 _);rintro e w' ⟨rfl,rfl⟩;rw[H4.out]))
  go_ret;exact⟨rfl,Aa _ _⟩
 have H4:=lh h4;clear h4;have HV:Hid (Ct m=true):=lh (by unfold Ct;rw[H0.out,H1.out,H2.out,H3.out,H4.out];rfl);rw[HV.out]
 go_enter Tryz.func170,Tryz.ntmps170
 go_wp2_with (first
   | (go_at_call 167;go_fit (Af m.name _);rintro e w' ⟨rfl,rfl⟩;rw[H0.out])
   | (go_at_call 195;go_fit (Dy m.spd 8192 _);rintro e w' ⟨rfl,rfl⟩;rw[H2.out])
   | (go_at_call 195;go_fit (Dy m.rise 16384 _);rintro e w' ⟨rfl,rfl⟩;rw[H3.out])
   | (go_at_call 195;go_fit (Dy m.fall 16384 _);rintro e w' ⟨rfl,rfl⟩;rw[H4.out]))
 go_ret;exact⟨rfl,Aa _ _⟩

theorem Ug(d:Int)(m:Mv)(w:World):Calls Tryz.prog 119 #[.int .i64 d,.agg #[.string m.name,.int .i64 m.to,.int .i64 m.spd,.int .i64 m.rise,.int .i64 m.fall]] w fun e w'=>e=.returned (.int .i64 (Ck d m))∧Below w.heap.size w w':=by
 have HI:Hid (∀b,Ct m=b→Ck d m=if b then(if Vk d 0 1048576 then 0 else 2)else 1):=lh fun b h=>by unfold Ck;rw[h]
 cases h1:Ct m
 ·have H1:=lh h1
  have HR:Hid (Ck d m=1):=lh (HI.out _ h1);rw[HR.out];clear h1
  go_enter Tryz.func119,Tryz.ntmps119
  go_wp2_with (first
   | (go_at_call 148;go_fit (Gr m _);rintro e w1 ⟨rfl,hb1⟩;rw[H1.out]))
  go_ret;exact⟨rfl,(Aa _ _).trans (hb1.mono (by simp))⟩
 have H1:=lh h1
 cases h2:Vk d 0 1048576
 ·have H2:=lh h2
  have HR:Hid (Ck d m=2):=lh ((HI.out _ h1).trans (by rw[h2];rfl));rw[HR.out];clear h1 h2
  go_enter Tryz.func119,Tryz.ntmps119
  go_wp2_with (first
   | (go_at_call 148;go_fit (Gr m _);rintro e w1 ⟨rfl,hb1⟩;rw[H1.out])
   | (go_at_call 163;go_fit (De d 0 1048576 _);rintro e w' ⟨rfl,rfl⟩;rw[H2.out]))
  go_ret;exact⟨rfl,(Aa _ _).trans (hb1.mono (by simp))⟩
 ·have H2:=lh h2
  have HR:Hid (Ck d m=0):=lh ((HI.out _ h1).trans (by rw[h2];rfl));rw[HR.out];clear h1 h2
  go_enter Tryz.func119,Tryz.ntmps119
  go_wp2_with (first
   | (go_at_call 148;go_fit (Gr m _);rintro e w1 ⟨rfl,hb1⟩;rw[H1.out])
   | (go_at_call 163;go_fit (De d 0 1048576 _);rintro e w' ⟨rfl,rfl⟩;rw[H2.out]))
  go_ret;exact⟨rfl,(Aa _ _).trans (hb1.mono (by simp))⟩
theorem Gb{m:Mv}(h:Ct m=true):1≤m.spd∧m.spd≤8192∧1≤m.rise∧m.rise≤16384∧1≤m.fall∧m.fall≤16384:=by
 unfold Ct at h;simp only[Bool.and_eq_true,Fj]at h;omega

theorem ASi(d:Int)(m:Mv)(t:Int)(hg:Ck d m=0)(ht:Hd d m.spd m.rise m.fall t)(w:World):Calls Tryz.prog 120 #[.int .i64 d,.agg #[.string m.name,.int .i64 m.to,.int .i64 m.spd,.int .i64 m.rise,.int .i64 m.fall]] w fun e w'=>e=.returned (.int .i64 t)∧Below w.heap.size w w':=by
 obtain⟨hv,hd⟩:=Hk hg;obtain⟨v1,v2,r1,r2,f1,f2⟩:=Gb hv;obtain⟨d1,d2⟩:=Fj.1 hd;have HT:=lh ht;clear hg hv hd ht
 by_cases dz:d=0
 ·have HR:Hid (t=0):=lh (Np (by omega) (by omega) HT.out (by rw[dz];exact AMn (by omega) (by omega) (by omega)))
  subst dz;rw[HR.out]
  go_enter Tryz.func120,Tryz.ntmps120
  go_wp2_with fail
  go_quiet (fail)
  go_wp2_with fail
  go_ret;exact⟨rfl,Aj (Aa _ _) _⟩
 ·have dz':(d==0)=false:=by simpa using dz
  clear dz
  go_enter Tryz.func120,Tryz.ntmps120
  go_wp2_with fail
  go_quiet (fail)
  go_wp2_with fail
  go_loopw [5,6] (fun i j wr=>∃lo hi:Int,0≤lo∧lo≤hi∧hi≤m.spd∧i=.int .i64 lo∧j=.int .i64 hi∧Hid (Km d m.rise m.fall lo∧(hi=m.spd∨¬Km d m.rise m.fall (hi+1)))∧Below w.heap.size w wr∧wr.cell? ⟨w.heap.size,3,none⟩=some (.int .i64 m.rise)∧wr.cell? ⟨w.heap.size,4,none⟩=some (.int .i64 m.fall)) (fun i j _=>(intOf j-intOf i).toNat)
  case atStart=>exact⟨0,m.spd,Int.le_refl _,by omega,Int.le_refl _,rfl,rfl,lh ⟨Pu (by omega) (by omega) (by omega),.inl rfl⟩,Aj (Aa _ _) _,by simp,by simp⟩
  case round=>
   obtain⟨lo,hi,l0,l1,l2,rfl,rfl,HA,hB,k3,k4⟩:=hrel
   by_cases c:lo<hi
   ·obtain⟨x,hx⟩:=nm ((lo+hi+1)/2)
    have x0:0≤x:=by omega
    have x1:x≤8192:=by omega
    have s1:IntKind.i64.wrap (lo+hi)=lo+hi:=IntWalk.i64_in _ (by omega);have s2:IntKind.i64.wrap (lo+hi+1)=lo+hi+1:=IntWalk.i64_in _ (by omega);have s3:IntKind.i64.wrap ((lo+hi+1).tdiv 2)=x:=by rw[Int.tdiv_eq_ediv_of_nonneg (by omega),hx];exact IntWalk.i64_in _ (by omega)
    obtain⟨b1,b2,b3,b4,b5,b6,b7,b8,b9,_,_⟩:=Vf (d:=d) (R:=m.rise) (F:=m.fall) (w:=x) d1 d2 (by omega) r2 (by omega) f2 x0 x1;have s4:IntKind.i64.wrap (x*x)=x*x:=IntWalk.i64_in _ (by omega);have s5:IntKind.i64.wrap (m.rise+m.fall)=m.rise+m.fall:=IntWalk.i64_in _ (by omega);have s6:IntKind.i64.wrap (x*x*(m.rise+m.fall))=x*x*(m.rise+m.fall):=IntWalk.i64_in _ (by omega);have s7:IntKind.i64.wrap (2*d)=2*d:=IntWalk.i64_in _ (by omega);have s8:IntKind.i64.wrap (2*d*m.rise)=2*d*m.rise:=IntWalk.i64_in _ (by omega);have s9:IntKind.i64.wrap (2*d*m.rise*m.fall)=2*d*m.rise*m.fall:=IntWalk.i64_in _ (by omega);have s10:IntKind.i64.wrap (x-1)=x-1:=IntWalk.i64_in _ (by omega)
    by_cases q:x*x*(m.rise+m.fall)≤2*d*m.rise*m.fall
    ·have z:=dT q
     have HN:Hid (Km d m.rise m.fall x):=lh (by unfold Km;omega);clear q b1 b2 b3 b4 b5 b6 b7 b8 b9
     go_wp2_with fail
     go_roundw
     case rel=>exact⟨x,hi,x0,by omega,l2,rfl,rfl,lh ⟨HN.out,HA.out.2⟩,hB,k3,k4⟩
     case measure=>simp[intOf];omega
    ·have z:=dF q
     have HN:Hid (¬Km d m.rise m.fall x):=lh (by unfold Km;omega);clear q b1 b2 b3 b4 b5 b6 b7 b8 b9
     go_wp2_with fail
     go_roundw
     case rel=>exact⟨lo,x-1,l0,by omega,by omega,rfl,rfl,lh ⟨HA.out.1,.inr (by rw[show x-1+1=x by omega];exact HN.out)⟩,hB,k3,k4⟩
     case measure=>simp[intOf];omega
   ·have c':=dF c
    obtain rfl:lo=hi:=by omega
    have HR:Hid (lo=t):=lh (Np (by omega) (by omega) ⟨l0,l2,HA.out.1,HA.out.2⟩ HT.out)
    go_wp2_with fail
    go_ret;exact⟨Lw HR.out,hB⟩

theorem AEx(d:Int)(m:Mv)(x:Int)(b:Bool)(hg:Ck d m=0)(x0:0≤x)(x1:x≤8192)(hb:Km d m.rise m.fall x↔b=true)(w:World):Calls Tryz.prog 173 #[.int .i64 d,.agg #[.string m.name,.int .i64 m.to,.int .i64 m.spd,.int .i64 m.rise,.int .i64 m.fall],.int .i64 x] w fun e w'=>e=.returned (.bool b)∧Below w.heap.size w w':=by
 obtain⟨hv,hd⟩:=Hk hg;obtain⟨v1,v2,r1,r2,f1,f2⟩:=Gb hv;obtain⟨d1,d2⟩:=Fj.1 hd;obtain⟨b1,b2,b3,b4,b5,b6,b7,b8,b9,b10,b11⟩:=Vf (d:=d) (R:=m.rise) (F:=m.fall) (w:=x) d1 d2 (by omega) r2 (by omega) f2 x0 x1;have s4:IntKind.i64.wrap (x*x)=x*x:=IntWalk.i64_in _ (by omega);have s5:IntKind.i64.wrap (m.rise+m.fall)=m.rise+m.fall:=IntWalk.i64_in _ (by omega);have s6:IntKind.i64.wrap (x*x*(m.rise+m.fall))=x*x*(m.rise+m.fall):=IntWalk.i64_in _ (by omega);have s7:IntKind.i64.wrap (2*m.rise)=2*m.rise:=IntWalk.i64_in _ (by omega);have s8:IntKind.i64.wrap (2*m.rise*m.fall)=2*m.rise*m.fall:=IntWalk.i64_in _ (by omega);have s9:IntKind.i64.wrap (2*m.rise*m.fall*d)=2*m.rise*m.fall*d:=IntWalk.i64_in _ (by omega)
 have hb':decide (x*x*(m.rise+m.fall)≤2*m.rise*m.fall*d)=b:=by
  unfold Km at hb;rw[Bool.eq_iff_iff,←hb]
  simp
 clear b1 b2 b3 b4 b5 b6 b7 b8 b9 b10 b11 hb hg hv hd
 go_enter Tryz.func173,Tryz.ntmps173
 go_wp2_with fail
 go_ret;exact⟨Tx (by first | rfl | exact hb'),Aa _ _⟩

theorem AGz(d:Int)(m:Mv)(t:Int)(hg:Ck d m=0)(ht:Hd d m.spd m.rise m.fall t)(w:World):Calls Tryz.prog 138 #[.int .i64 d,.agg #[.string m.name,.int .i64 m.to,.int .i64 m.spd,.int .i64 m.rise,.int .i64 m.fall]] w fun e w'=>e=.returned (.int .i64 t)∧Below w.heap.size w w':=by
 have HGV:=lh hg;obtain⟨hv,hd⟩:=Hk hg;obtain⟨v1,v2,r1,r2,f1,f2⟩:=Gb hv;obtain⟨d1,d2⟩:=Fj.1 hd;have HT:=lh ht;clear hg hv hd ht
 go_enter Tryz.func138,Tryz.ntmps138
 go_wp2_with fail
 go_loopw [5,6] (fun i k wr=>∃x y:Int,∃j:Nat,0≤x∧x≤m.spd∧j≤15∧0≤y∧y≤16384∧i=.int .i64 x∧k=.int .i64 y∧Hid (y=(2^j:Nat)/2∧Km d m.rise m.fall x∧¬(x+(2^j:Nat)≤m.spd∧Km d m.rise m.fall (x+(2^j:Nat))))∧Below w.heap.size w wr∧wr.cell? ⟨w.heap.size,0,none⟩=some (.string m.name)∧wr.cell? ⟨w.heap.size,1,none⟩=some (.int .i64 m.to)∧wr.cell? ⟨w.heap.size,2,none⟩=some (.int .i64 m.spd)∧wr.cell? ⟨w.heap.size,3,none⟩=some (.int .i64 m.rise)∧wr.cell? ⟨w.heap.size,4,none⟩=some (.int .i64 m.fall)) (fun _ k _=>(intOf k).toNat)
 case atStart=>exact⟨0,16384,15,Int.le_refl _,by omega,nr,by decide,Int.le_refl _,rfl,rfl,lh ⟨by decide,Pu (by omega) (by omega) (by omega),fun h=>by have:=h.1;simp at this;omega⟩,Aa _ _,by simp,by simp,by simp,by simp,by simp⟩
 case round=>
  obtain⟨x,y,j,x0,x1,j1,y0,y1,rfl,rfl,HA,hB,k0,k1,k2,k3,k4⟩:=hrel
  by_cases c:0<y
  ·have c':=dT c
   obtain⟨j',rfl⟩:∃j',j=j'+1:=by
    cases j with
    | zero=>have:=HA.out.1;simp at this;omega
    | succ j'=>exact⟨j',rfl⟩
   have hy:y=(2^j':Nat):=by have:=HA.out.1;rw[Nat.pow_succ]at this;omega
   have hyy:((2^(j'+1):Nat):Int)=y+y:=by rw[Nat.pow_succ];omega
   have s1:IntKind.i64.wrap (x+y)=x+y:=IntWalk.i64_in _ (by omega);have s2:IntKind.i64.wrap (y.tdiv 2)=y/2:=by rw[Int.tdiv_eq_ediv_of_nonneg (by omega)];exact IntWalk.i64_in _ (by omega)
   have hbz:w.heap.size<wr.heap.size:=wl k0;have HN:Hid (¬(x+y+y≤m.spd∧Km d m.rise m.fall (x+y+y))):=lh (by have:=HA.out.2.2;rw[hyy]at this;rw[Int.add_assoc];exact this);have HY:Hid (y/2=((2^j':Nat):Int)/2):=lh (by rw[hy]);have HY2:=lh hy;clear hy hyy
   by_cases q1:x+y≤m.spd
   ·have z1:=dT q1
    by_cases q2:Km d m.rise m.fall (x+y)
    ·have HC:=lh (AEx d m (x+y) true HGV.out (by omega) (by omega) ⟨fun _=>rfl,fun _=>q2⟩)
     have HQ:=lh q2;clear q2
     go_wp2_with (go_at_call 173;go_fit (HC.out _);rintro e w1 ⟨rfl,hb1⟩)
     go_roundw
     case rel=>exact⟨x+y,y/2,j',by omega,q1,by omega,by omega,by omega,rfl,rfl,lh ⟨HY.out,HQ.out,by rw[←HY2.out];exact HN.out⟩,hB.trans (hb1.mono hB.size),ct hb1 k0 hbz,ct hb1 k1 hbz,ct hb1 k2 hbz,ct hb1 k3 hbz,ct hb1 k4 hbz⟩
     case measure=>simp[intOf];omega
    ·have HC:=lh (AEx d m (x+y) false HGV.out (by omega) (by omega) ⟨fun h=>absurd h q2,fun h=>by cases h⟩)
     have HQ:=lh q2;clear q2
     go_wp2_with (go_at_call 173;go_fit (HC.out _);rintro e w1 ⟨rfl,hb1⟩)
     go_roundw
     case rel=>exact⟨x,y/2,j',x0,x1,by omega,by omega,by omega,rfl,rfl,lh ⟨HY.out,HA.out.2.1,by rw[←HY2.out];exact fun h=>HQ.out h.2⟩,hB.trans (hb1.mono hB.size),ct hb1 k0 hbz,ct hb1 k1 hbz,ct hb1 k2 hbz,ct hb1 k3 hbz,ct hb1 k4 hbz⟩
     case measure=>simp[intOf];omega
   ·have z1:=dF q1
    have HQ:=lh q1;clear q1
    go_wp2_with fail
    go_roundw
    case rel=>exact⟨x,y/2,j',x0,x1,by omega,by omega,by omega,rfl,rfl,lh ⟨HY.out,HA.out.2.1,by rw[←HY2.out];exact fun h=>HQ.out h.1⟩,hB,k0,k1,k2,k3,k4⟩
    case measure=>simp[intOf];omega
  ·have c':=dF c
   have HR:Hid (x=t):=lh (by
    obtain⟨e,r,n⟩:=HA.out;have hy:y=0:=by omega
    cases j with
    | zero=>
     refine Np (by omega) (by omega) ⟨x0,x1,r,?_⟩ HT.out;simp only[Nat.pow_zero]at n
     by_cases e1:x=m.spd
     ·exact .inl e1
     ·exact .inr fun h=>n ⟨by omega,h⟩
    | succ j'=>rw[Nat.pow_succ]at e;have:=Nat.two_pow_pos j';omega)
   go_wp2_with fail
   go_ret;exact⟨Lw HR.out,hB⟩
end
end Go.Proofs.YtebofaenlhhkaaaGreat
