import Derived.Laws.EntriesVeiled
import Derived.Test.YtebofaenlhhkaaaGreatY6
import Derived.Test.YtebofaenlhhkaaaGreatY3
namespace Go.Proofs.YtebofaenlhhkaaaGreat
set_option maxRecDepth 100000
set_option maxHeartbeats 80000000
section
open Go.RowKit Go.Shelf
theorem So{W w:World}(p:Addr)(u:Value)(h:Below W.heap.size W w)(hp:W.heap.size≤p.block):Below W.heap.size W (w.setCell p u):=h.setCell hp u

theorem Lj(n d:Int)(p:Value)(w:World):
  Calls Tryz.prog 121 #[.agg #[.int .i64 n,.int .i64 d],.int .i64 0,p] w fun e w'=>e=.returned (.agg #[.int .i64 n,.int .i64 d])∧Below w.heap.size w w':=by
 go_enter Tryz.func121,Tryz.ntmps121
 go_wp2_with fail
 refine bodyPost_ret (v:=.agg #[.int .i64 n,.int .i64 d]) (by simp[results,Tryz.results121,go_sem]) rfl ⟨rfl,?_⟩;exact(Aa _ _).alloc (by simp) _

theorem Mg(n:Int)(w:World):
  Calls Tryz.prog 122 #[.int .i64 n] w fun e w'=>e=.returned (.agg #[.int .i64 n,.int .i64 1])∧Below w.heap.size w w':=by
 go_enter Tryz.func122,Tryz.ntmps122
 go_wp2_with fail
 refine bodyPost_ret (v:=.agg #[.int .i64 n,.int .i64 1]) (by simp[results,Tryz.results122,go_sem]) rfl ⟨rfl,?_⟩;exact Aa _ _

def Ev(f:FuncId)(args:Array Value)(n d:Int):Prop:=∀w,Calls Tryz.prog f args w fun e w'=>e=.returned (.tuple #[.agg #[.int .i64 n,.int .i64 d],.int .i64 0])∧Below w.heap.size w w'
theorem Ev.at{f:FuncId}{args:Array Value}{n d:Int}(h:Ev f args n d)(w:World):Calls Tryz.prog f args w fun e w'=>e=.returned (.tuple #[.agg #[.int .i64 n,.int .i64 d],.int .i64 0])∧Below w.heap.size w w':=h w

theorem Ml(n d n' d':Int)(hm:Ev 53 #[.int .i64 n,.int .i64 d] n' d')(B:Nat)(p:Value)(w:World)(hc:w.cell? ⟨B,0,none⟩=some (.func (.func 121) #[] #[p])):
  Calls Tryz.prog 123 #[.int .i64 n,.int .i64 d,.pointer (some ⟨B,0,none⟩)] w fun e w'=>e=.returned (.agg #[.int .i64 n',.int .i64 d'])∧Below w.heap.size w w':=by
 have HM:=lh hm;clear hm;have hz:B<w.heap.size:=wl hc
 go_enter Tryz.func123,Tryz.ntmps123
 go_wp2_with fail
 have k0:(w.alloc (.cells #[.int .i64 0,.int .i64 0] 49)).cell? ⟨B,0,none⟩=some (.func (.func 121) #[] #[p]):=(World.cell?_alloc_lt _ _ _ hz).trans hc;have hb0:=Aa w (.cells #[.int .i64 0,.int .i64 0] 49);have hs0:w.heap.size<(w.alloc (.cells #[.int .i64 0,.int .i64 0] 49)).heap.size:=by simp
 have HN:Hid (∀w',Below (w.alloc (.cells #[.int .i64 0,.int .i64 0] 49)).heap.size (w.alloc (.cells #[.int .i64 0,.int .i64 0] 49)) w'→w'.cell? ⟨w.heap.size,0,none⟩=some (.int .i64 0)∧w'.cell? ⟨w.heap.size,1,none⟩=some (.int .i64 0)∧w'.frozen? ⟨w.heap.size,0,none⟩=false∧w'.frozen? ⟨w.heap.size,1,none⟩=false):=lh fun w' h=>
  ⟨(h.cell (p:=⟨w.heap.size,0,none⟩) (by simp)).trans (by simp),(h.cell (p:=⟨w.heap.size,1,none⟩) (by simp)).trans (by simp),(h.frozen (p:=⟨w.heap.size,0,none⟩) (by simp)).trans (by simp),(h.frozen (p:=⟨w.heap.size,1,none⟩) (by simp)).trans (by simp)⟩
 generalize w.alloc (.cells #[.int .i64 0,.int .i64 0] 49)=W0 at *;have HS:Hid (∀w',Below W0.heap.size W0 w'→Below w.heap.size w w'∧w'.cell? ⟨B,0,none⟩=some (.func (.func 121) #[] #[p])):=lh fun w' h=>⟨hb0.trans (h.mono hb0.size),(ct h k0)⟩;have hbz:=Below.refl W0.heap.size W0;clear hc
 go_region_held3 (fun w'=>Below w.heap.size w w'∧w'.cell? ⟨B,0,none⟩=some (.func (.func 121) #[] #[p]))
  (first | exact HS.out _ hbz.drew | exact HS.out _ hx1 | exact HS.out _ hx2 | exact⟨So _ _ (So _ _ (HS.out _ hx2).1 nr) nr,(Ch (Nat.ne_of_lt hz) _ _ _).trans (HS.out _ hx2).2⟩)
  (first
   | (go_at_call 53;go_split_ands;go_fit (HM.out.at _);rintro e w1 ⟨rfl,hb1⟩;have hx1:Below W0.heap.size W0 w1:=hbz.drew.trans hb1)
   | (go_at_call 121;go_split_ands;go_fit (Lj n' d' _ _);rintro e w2 ⟨rfl,hb2⟩;have hx2:=Av (wr:=W0) hx1 hb2;obtain⟨u0,u1,u2,u3⟩:=HN.out _ hx2))
 go_wp2_with fail
 have s2:=(Ag (v0:=.int .i64 n') (v1:=.int .i64 d') u0 u1).1;have s3:=(Ag (v0:=.int .i64 n') (v1:=.int .i64 d') u0 u1).2;refine bodyPost_ret (v:=.agg #[.int .i64 n',.int .i64 d']) (by simp[results,Tryz.results123,go_sem,s2,s3]) rfl ⟨rfl,?_⟩;exact So _ _ (So _ _ (HS.out _ hx2).1 nr) nr
def Tu(w:World)(b:Nat):Prop:=w.cell? ⟨b,0,none⟩=some (.int .i64 0)∧w.cell? ⟨b,1,none⟩=some (.int .i64 0)∧w.frozen? ⟨b,0,none⟩=false∧w.frozen? ⟨b,1,none⟩=false∧b<w.heap.size
theorem Fq{W w:World}{b:Nat}(h:Below W.heap.size W w)(f:Tu W b):Tu w b:=
 ⟨ct h f.1 f.2.2.2.2,ct h f.2.1 f.2.2.2.2,(h.frozen (p:=⟨b,0,none⟩) f.2.2.2.2).trans f.2.2.1,(h.frozen (p:=⟨b,1,none⟩) f.2.2.2.2).trans f.2.2.2.1,Nat.lt_of_lt_of_le f.2.2.2.2 h.size⟩
theorem AUt(W:World)(ty:TypeId):Tu (W.alloc (.cells #[.int .i64 0,.int .i64 0] ty)) W.heap.size:=⟨by simp,by simp,by simp,by simp,by simp⟩
theorem Li{W w:World}{ty:TypeId}(h:Below (W.alloc (.cells #[.int .i64 0,.int .i64 0] ty)).heap.size (W.alloc (.cells #[.int .i64 0,.int .i64 0] ty)) w):Tu w W.heap.size:=Fq h (AUt W ty)
theorem ASw{W w:World}{ty:TypeId}(h:Below ((W.alloc (.cells #[.int .i64 0,.int .i64 0] ty)).alloc (.cells #[.int .i64 0,.int .i64 0] ty)).heap.size ((W.alloc (.cells #[.int .i64 0,.int .i64 0] ty)).alloc (.cells #[.int .i64 0,.int .i64 0] ty)) w):Tu w W.heap.size∧Tu w (W.heap.size+1):=
 ⟨Fq h (Fq (Aa _ _) (AUt W ty)),by have:=Fq h (AUt (W.alloc (.cells #[.int .i64 0,.int .i64 0] ty)) ty);rwa [World.size_alloc]at this⟩
theorem Io{W w:World}{ty:TypeId}(h:Below (W.alloc (.cells #[.int .i64 0,.int .i64 0] ty)).drew.heap.size (W.alloc (.cells #[.int .i64 0,.int .i64 0] ty)).drew w):Tu w W.heap.size:=Li (ty:=ty) ⟨h.os,h.tape,h.output,h.size,h.block⟩
theorem ATr{W w:World}{ty:TypeId}(h:Below ((W.alloc (.cells #[.int .i64 0,.int .i64 0] ty)).alloc (.cells #[.int .i64 0,.int .i64 0] ty)).drew.heap.size ((W.alloc (.cells #[.int .i64 0,.int .i64 0] ty)).alloc (.cells #[.int .i64 0,.int .i64 0] ty)).drew w):Tu w W.heap.size∧Tu w (W.heap.size+1):=ASw (ty:=ty) ⟨h.os,h.tape,h.output,h.size,h.block⟩
def FR(w:World)(B:Nat)(n d:Int):Prop:=w.cell? ⟨B,0,none⟩=some (.int .i64 n)∧w.cell? ⟨B,1,none⟩=some (.int .i64 d)
def ADn(W0:World)(B C:Nat)(x' x y' y:Int)(wx:World):Prop:=Below W0.heap.size W0 wx∧FR wx B x' x∧FR wx C y' y
theorem ADn.swap{W0:World}{B C:Nat}{x' x y' y:Int}{wx:World}(h:ADn W0 B C x' x y' y wx):ADn W0 C B y' y x' x wx:=⟨h.1,h.2.2,h.2.1⟩
theorem ASp{W0 w:World}(x' x y' y:Int)(t:TypeId)(h:Below W0.heap.size W0 w):ADn W0 w.heap.size (w.heap.size+1) x' x y' y ((w.alloc (.cells #[.int .i64 x',.int .i64 x] t)).alloc (.cells #[.int .i64 y',.int .i64 y] t)):=
 ⟨Aw _ (Aw _ h),⟨by simp,by simp⟩,⟨by simp,by simp⟩⟩
theorem ATb{W0 w:World}(B:Nat)(x' x y' y:Int)(t:TypeId)(h:Below W0.heap.size W0 w)(f:Tu w B)(hB:W0.heap.size≤B):ADn W0 B w.heap.size x' x y' y (((w.setCell ⟨B,0,none⟩ (.int .i64 x')).setCell ⟨B,1,none⟩ (.int .i64 x)).alloc (.cells #[.int .i64 y',.int .i64 y] t)):=by
 obtain⟨c0,c1⟩:=Ag (v0:=.int .i64 x') (v1:=.int .i64 x) f.1 f.2.1;have hl:B<((w.setCell ⟨B,0,none⟩ (.int .i64 x')).setCell ⟨B,1,none⟩ (.int .i64 x)).heap.size:=by simpa using f.2.2.2.2
 have hs:((w.setCell ⟨B,0,none⟩ (.int .i64 x')).setCell ⟨B,1,none⟩ (.int .i64 x)).heap.size=w.heap.size:=by simp
 refine⟨Aw _ (Ad ⟨B,1,none⟩ _ (Ad ⟨B,0,none⟩ _ h hB) hB),⟨(World.cell?_alloc_lt _ _ _ hl).trans c0,(World.cell?_alloc_lt _ _ _ hl).trans c1⟩,?_⟩;have:=Mk ((w.setCell ⟨B,0,none⟩ (.int .i64 x')).setCell ⟨B,1,none⟩ (.int .i64 x)) (.int .i64 y') (.int .i64 y) t
 rwa [hs]at this
theorem AUz{W0 w:World}(B C:Nat)(x' x y' y:Int)(h:Below W0.heap.size W0 w)(f:Tu w B)(f':Tu w C)(hB:W0.heap.size≤B)(hC:W0.heap.size≤C)(hne:B≠C):ADn W0 B C x' x y' y ((((w.setCell ⟨B,0,none⟩ (.int .i64 x')).setCell ⟨B,1,none⟩ (.int .i64 x)).setCell ⟨C,0,none⟩ (.int .i64 y')).setCell ⟨C,1,none⟩ (.int .i64 y)):=by
 obtain⟨c0,c1⟩:=Ag (v0:=.int .i64 x') (v1:=.int .i64 x) f.1 f.2.1;obtain⟨d0,d1⟩:=Ag (w:=(w.setCell ⟨B,0,none⟩ (.int .i64 x')).setCell ⟨B,1,none⟩ (.int .i64 x)) (B:=C) (v0:=.int .i64 y') (v1:=.int .i64 y) ((Ch (Ne.symm hne) _ _ _).trans f'.1) ((Ch (Ne.symm hne) _ _ _).trans f'.2.1);exact⟨Ad ⟨C,1,none⟩ _ (Ad ⟨C,0,none⟩ _ (Ad ⟨B,1,none⟩ _ (Ad ⟨B,0,none⟩ _ h hB) hB) hC) hC,⟨(Ch hne _ _ _).trans c0,(Ch hne _ _ _).trans c1⟩,⟨d0,d1⟩⟩
def ACq(W0:World)(B:Nat)(n d:Int)(wx:World):Prop:=Below W0.heap.size W0 wx∧FR wx B n d
theorem ANe{W0 w:World}(n d:Int)(t:TypeId)(h:Below W0.heap.size W0 w):ACq W0 w.heap.size n d (w.alloc (.cells #[.int .i64 n,.int .i64 d] t)):=⟨Aw _ h,⟨by simp,by simp⟩⟩
theorem AMw{W0 w:World}(B:Nat)(n d:Int)(h:Below W0.heap.size W0 w)(f:Tu w B)(hB:W0.heap.size≤B):ACq W0 B n d ((w.setCell ⟨B,0,none⟩ (.int .i64 n)).setCell ⟨B,1,none⟩ (.int .i64 d)):=
 ⟨Ad ⟨B,1,none⟩ _ (Ad ⟨B,0,none⟩ _ h hB) hB,Ag f.1 f.2.1⟩

theorem ACn{w:World}{b b' size n:Nat}{e:TypeId}{v:Value}{xs:List Value}(h:w.ownsRow b' e size v n xs)(hb:b≤b'):w.ownsRow b e size v n xs:=by
 refine⟨h.1,?_⟩;rcases h.2 with hn | ⟨g,cap,cur,e1,hb1,rest⟩
 ·exact .inl hn
 ·exact .inr ⟨g,cap,cur,e1,nt hb hb1,rest⟩
theorem Zj(W:World)(l:List Value)(t:TypeId):∀j u,l[j]? =some u→(W.alloc (.cells l.toArray t)).cell? ((⟨W.heap.size,0,none⟩:Addr).add j)=some u:=fun j u h=>by
 have e:(⟨W.heap.size,0,none⟩:Addr).add j=⟨W.heap.size,j,none⟩:=by simp[Addr.add];exact fun h=>h.symm
 rw[e]
 simp[h]
theorem Lh:(Tryz.prog.info? 122).map (fun i=>(i.zero,i.size,i.bytes))=some (some (.agg #[.int .i64 0,.int .i64 0,.int .i64 0,.int .i64 0,.int .i64 0,.int .i64 0,.int .i64 0,.int .i64 0]),8,64):=by kernel_rfl


def Jp(n:Nat):Code→Option Code
 | .region k xs b=>bif Nat.beq k n then some (.region k xs b)else none
 | .seq a b=>match Jp n a with
  | some c=>some c
  | none=>Jp n b
 | .loop c=>Jp n c
 | .block _ c=>Jp n c
 | .scope c=>Jp n c
 | .cond _ a b=>match Jp n a with
  | some c=>some c
  | none=>Jp n b
 | _=>none
noncomputable def Qu(n:Nat):Code:=((Tryz.f80.body.bind (Jp n)).getD .skip)
end
end Go.Proofs.YtebofaenlhhkaaaGreat
