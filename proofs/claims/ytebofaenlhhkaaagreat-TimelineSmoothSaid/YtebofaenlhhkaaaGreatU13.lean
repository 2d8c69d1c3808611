/-
  THE WALKS of bits.Div64 and ratio.over in general.
-/
import Derived.Deep.RegionHeld
import Derived.Test.YtebofaenlhhkaaaGreatU12
namespace Go.Proofs.YtebofaenlhhkaaaGreat
set_option maxRecDepth 100000
set_option maxHeartbeats 80000000
section
open Go.RowKit Go.Shelf
theorem div64_all(hi lo v:Int)(hi0:0≤hi)(hv:hi<v)(v1:v<18446744073709551616)(l0:0≤lo)(l1:lo<18446744073709551616)(w:World):
  Calls Tryz.prog 188 #[.int .u64 hi,.int .u64 lo,.int .u64 v] w fun e w'=>e=.returned (.tuple #[.int .u64 ((hi*18446744073709551616+lo)/v),.int .u64 ((hi*18446744073709551616+lo)%v)])∧∃m,w'=w.drewN m:=by
 by_cases z:hi=0
 ·subst z
  have:=div64_small lo v l0 l1 hv v1 w;rw[show(0:Int)*18446744073709551616+lo=lo by omega];exact this
 ·exact(div64_any hi lo v (by omega) hv v1 l0 l1 w).mono fun e w' h=>⟨h.1,0,h.2.symm⟩
theorem over_words{a ah al b:Int}(e:ah*18446744073709551616+al=a)(hb:0<b)(l0:0≤al)(l1:al<18446744073709551616):
  ah/b=hiW (a/b)∧(ah%b*18446744073709551616+al)/b=loW (a/b)∧(ah%b*18446744073709551616+al)%b=a%b:=by
 have r0:=Int.emod_nonneg ah (show b≠0 by omega);have r1:=Int.emod_lt_of_pos ah hb;have e2:=Int.mul_ediv_add_emod ah b
 have e3:a=(ah%b*18446744073709551616+al)+b*(ah/b*18446744073709551616):=by
  rw[←e,←Int.mul_assoc];generalize b*(ah/b)=X at *;omega
 have q0:0≤(ah%b*18446744073709551616+al)/b:=Int.ediv_nonneg (by omega) (by omega)
 have q1:(ah%b*18446744073709551616+al)/b<18446744073709551616:=by
  refine Int.ediv_lt_of_lt_mul hb ?_;have:=Int.mul_le_mul_of_nonneg_left (show ah%b+1≤b by omega) (show(0:Int)≤18446744073709551616 by decide);omega
 have e4:a/b=(ah%b*18446744073709551616+al)/b+ah/b*18446744073709551616:=by
  conv=>lhs;rw[e3]
  exact Int.add_mul_ediv_left _ _ (by omega)
 have e5:a%b=(ah%b*18446744073709551616+al)%b:=by
  conv=>lhs;rw[e3]
  exact Int.add_mul_emod_self_left _ _ _
 refine⟨?_,?_,e5.symm⟩
 ·unfold hiW;rw[e4];omega
 ·unfold loW;rw[e4];omega
theorem over_wide(x y:Int)(hx:0≤x)(hx':x<340282366920938463463374607431768211456)(hy:0<y)(hy':y<18446744073709551616)(w:World):
  Calls Tryz.prog 166 #[.agg #[.int .u64 (hiW x),.int .u64 (loW x)],.int .u64 y] w fun e w'=>e=.returned (.tuple #[.agg #[.int .u64 (hiW (x/y)),.int .u64 (loW (x/y))],.int .u64 (x%y)])∧Below w.heap.size w w':=by
 have h1:=hi_bd hx hx';have h2:=lo_bd x;obtain⟨p1,p2,p3⟩:=over_words (hi_lo x) hy h2.1 h2.2;generalize hiW x=h at *;generalize loW x=l at *;generalize hiW (x/y)=qh at *;generalize loW (x/y)=ql at *;generalize x%y=rr at *;have y0:¬y=0:=by omega
 have y0':(y==0)=false:=by simpa using y0
 have m0:=Int.emod_nonneg h y0;have m1:=Int.emod_lt_of_pos h hy;have m2:=Int.ediv_nonneg h1.1 (Int.le_of_lt hy);have m3:=Int.ediv_le_self y h1.1;have u1:IntKind.u64.wrap (h.tmod y)=h%y:=by rw[Int.tmod_eq_emod_of_nonneg h1.1,IntKind.wrap_u64];omega
 have u2:IntKind.u64.wrap (h.tdiv y)=qh:=by rw[Int.tdiv_eq_ediv_of_nonneg h1.1,IntKind.wrap_u64,←p1];omega
 have HD:=lh (div64_all (h%y) l y m0 m1 hy' h2.1 h2.2);rw[p2,p3]at HD;have u3:h.tmod y=h%y:=Int.tmod_eq_emod_of_nonneg h1.1;have u4:h.tdiv y=qh:=by rw[Int.tdiv_eq_ediv_of_nonneg h1.1];exact p1
 have u5:IntKind.u64.wrap qh=qh:=by rw[IntKind.wrap_u64];omega
 obtain⟨r,hr⟩:=nm (h%y);rw[hr]at HD u1 u3 m0 m1;clear p2 p3 m2 m3
 go_enter Tryz.func166,Tryz.ntmps166
 go_wp2_with fail
 go_quiet ((go_at_call 188;with_reducible refine Calls.quiet_of (v:=.tuple #[.int .u64 ql,.int .u64 rr]) (HD.out _)))
 go_wp2_with fail
 refine bodyPost_ret (v:=.tuple #[.agg #[.int .u64 qh,.int .u64 ql],.int .u64 rr]) (by simp[results,Tryz.results166,go_sem]) rfl ⟨rfl,?_⟩;exact((below_drewN ((below_new _ _).alloc (by simp) _) _).setCell (p:=⟨w.heap.size+1,0,none⟩) (by simp) _).setCell (p:=⟨w.heap.size+1,1,none⟩) (by simp) _
theorem product_wide(x y:Int)(hx:0≤x)(hx':x<18446744073709551616)(hy:0≤y)(hy':y<18446744073709551616)(w:World):
  Calls Tryz.prog 110 #[.int .u64 x,.int .u64 y] w fun e w'=>e=.returned (.agg #[.int .u64 (hiW (x*y)),.int .u64 (loW (x*y))])∧Below w.heap.size w w':=product_any x y hx hx' hy hy' w
theorem eql_V(h l:Int)(w:World):(binOp .eql 184 (.agg #[.int .u64 h,.int .u64 l]) (.agg #[.int .u64 0,.int .u64 0])).run Tryz.prog w=.ok (.bool ((h==0)&&(l==0))) w:=by
 simp[go_sem]
 by_cases a:h=0
 ·by_cases b:l=0
  ·simp[a,b]
  ·simp[a,b]
 ·simp[a]
theorem eqV_yes{x:Int}(h:x=0)(w:World):(binOp .eql 184 (.agg #[.int .u64 (hiW x),.int .u64 (loW x)]) (.agg #[.int .u64 0,.int .u64 0])).run Tryz.prog w=.ok (.bool true) w:=by subst h;exact eql_V _ _ _
theorem eqV_no{x:Int}(h:¬x=0)(w:World):(binOp .eql 184 (.agg #[.int .u64 (hiW x),.int .u64 (loW x)]) (.agg #[.int .u64 0,.int .u64 0])).run Tryz.prog w=.ok (.bool false) w:=by
 rw[eql_V];have:=hi_lo x
 have e:((hiW x==0)&&(loW x==0))=false:=by
  rw[Bool.and_eq_false_iff,beq_eq_false_iff_ne,beq_eq_false_iff_ne];omega
 rw[e]
end
section
section
variable {P:Program} {ops:Array Oper} {Q:Exit→Act→World→Prop} {md:Region.Mode} {S:World→Prop}
def EntersQ(P:Program)(ops:Array Oper)(S:World→Prop)(o:Oper)(v:Value)(a:Act):Prop:=
 Region.wanted o (yielded ops a.tmps)=true∧∃f args,(∀w,S w→(execOp a.eval o).run P w=.ok (.enter f args) w)∧∀w,S w→Calls P f args w fun e w'=>e=.returned v∧w=w'
theorem EntersQ.step{i:Nat}{o:Oper}{v:Value}{a:Act}(hi:ops[i]? =some o)(hy:EntersQ P ops S o v a){K:Act→World→Prop}{w:World}(hS:S w)(h:K (a.put o.dst v) w):wpOp P ops Q i K a w:=by
 obtain⟨hw,f,args,hr,hc⟩:=hy;unfold wpOp;rw[hi];simp only[hw,if_true];refine .inl ?_;unfold Oper.wp;rw[hr w hS,Oper.upon_enter];exact Calls.mono (hc w hS) fun e w' ⟨he,hw'⟩=>by subst he;subst hw';exact h
theorem EntersQ.keep{o o':Oper}{v:Value}{a:Act}(hs:∀cs b,o.op≠.select cs b)(hy:EntersQ P ops S o v a)(u:Value)(h:∀d,o'.dst=some d→d∉o.looksAt ops):EntersQ P ops S o v (a.put o'.dst u):=by
 unfold EntersQ at *;rw[execOp_put o hs a o'.dst u h,wanted_put o a o'.dst u h];exact hy
theorem EntersQ.pass{j:Nat}{oi oj:Oper}{v:Value}(hj:ops[j]? =some oj)(hap:oi.apart ops oj=true)(hsi:∀cs b,oi.op≠.select cs b)(hsj:∀cs b,oj.op≠.select cs b)
  (hQ:∀c a w,Q (.panic c) (a.put oi.dst v) w→Q (.panic c) a w) {K:Act→World→Prop} {a:Act} {w:World} (hy:EntersQ P ops S oi v a) (h:wpOp P ops Q j K (a.put oi.dst v) w):
  wpOp P ops Q j (fun a' w'=>EntersQ P ops S oi v a'∧K (a'.put oi.dst v) w') a w:=by
 obtain⟨n1,n2,n3⟩:=Oper.apart_spec hap;unfold wpOp at *;rw[hj]at h⊢;simp only[wanted_put oj a oi.dst v n1]at h;simp only
 split
 next hw=>
  simp only[hw,if_true]at h;cases h with
  | inr h=>
   obtain⟨g1,g2⟩:=h;unfold Oper.asks at *;rw[execOp_put oj hsj a oi.dst v n1]at g1;exact .inr ⟨g1,g2⟩
  | inl h=>
   refine .inl ?_;unfold Oper.wp at *;rw[execOp_put oj hsj a oi.dst v n1]at h;rcases hr:(execOp a.eval oj).run P w with ⟨n,w'⟩ | ⟨x,w'⟩
   ·rw[hr]at h
    cases n with
    | value u=>
     rw[Oper.upon_value]at *;exact⟨hy.keep hsi u n3,by rw[←Act.put_comm a v u n2];exact h⟩
    | skip=>
     rw[Oper.upon_skip]at *;exact⟨hy.keep hsi undef n3,by rw[←Act.put_comm a v undef n2];exact h⟩
    | defer d=>
     rw[Oper.upon_defer]at *;have hy':EntersQ P ops S oi v {a with defers:=d::a.defers}:=hy;exact⟨hy'.keep hsi undef n3,by rw[←Act.put_comm _ v undef n2,←Act.put_defers];exact h⟩
    | enter f args=>
     rw[Oper.upon_enter]at *;refine Calls.mono h fun e w'' he=>?_
     cases e with
     | returned u=>exact⟨hy.keep hsi u n3,by rw[←Act.put_comm a v u n2];exact he⟩
     | panicked c=>exact hQ _ _ _ he
     | outgrown=>exact he
    | row row args=>
     rw[Oper.upon_row]at *;exact Rows.mono h fun u w'' he=>⟨hy.keep hsi u n3,by rw[←Act.put_comm a v u n2];exact he⟩
    | _=>simp only[Oper.upon]at h
   ·rw[hr]at h
    cases x<;>simp only[Oper.upon]at h⊢
    case panic u=>exact hQ _ _ _ h
 next hw=>
  simp only[hw]at h;exact⟨hy.keep hsi undef n3,by rw[←Act.put_comm a v undef n2];exact h⟩
theorem wpAnyH_firstC{i:Nat}{oi:Oper}{v:Value}(hi:ops[i]? =some oi)(hsel:∀(j:Nat) (o:Oper) cs b,ops[j]? =some o→o.op≠.select cs b)(hQ:∀c a w,Q (.panic c) (a.put oi.dst v) w→Q (.panic c) a w)(fuel:Nat):
  ∀(listed:Array Bool) (a:Act) (w:World),
   (∀j oj,ops[j]? =some oj→j≠i→listed.getD j true=false→(∀e∈oj.after,Region.binds md e=true→e.on≠i)→oi.apart ops oj=true)→
   i∈Region.ready md ops listed→EntersQ P ops S oi v a→S w→
   wpAnyH P md ops Q S fuel (listed.setIfInBounds i true) (a.put oi.dst v) w→wpAnyH P md ops Q S (fuel+1) listed a w:=by
 induction fuel with
 | zero=>
  intro listed a w _ hr hy hS H;refine⟨fun h=>absurd hr (by rw[h];exact List.not_mem_nil),fun j hj=>?_⟩
  by_cases e:j=i
  ·subst e;exact hy.step hi hS ⟨hS,H⟩
  ·exact absurd (ready_mono hj e) (by rw[H.1];exact List.not_mem_nil)
 | succ fuel ih=>
  intro listed a w hfree hr hy hS H;refine⟨fun h=>absurd hr (by rw[h];exact List.not_mem_nil),fun j hj=>?_⟩
  by_cases e:j=i
  ·subst e;exact hy.step hi hS ⟨hS,H⟩
  ·obtain⟨hun,oj,hoj,hall⟩:=mem_ready.1 hj
   have hno:∀e∈oj.after,Region.binds md e=true→e.on≠i:=fun e he hb q=>by
    have k1:=hall e he hb;have k0:=(mem_ready.1 hr).1;rw[q]at k1
    by_cases l:i<listed.size
    ·simp[l]at k0 k1;rw[k0]at k1;cases k1
    ·simp[Array.getElem?_eq_none (Nat.le_of_not_lt l)]at k1
   have k2:=hy.pass hoj (hfree j oj hoj e hun hno) (fun cs b=>hsel i oi cs b hi) (fun cs b=>hsel j oj cs b hoj) hQ (H.2 j (ready_mono hj e));refine wpOp_mono (fun a' w' h3=>⟨h3.2.1,ih (listed.setIfInBounds j true) a' w' (fun k ok hk hki hku hkn=>?_) (ready_mono hr (Ne.symm e)) h3.1 h3.2.1 ?_⟩) k2
   ·refine hfree k ok hk hki ?_ hkn
    by_cases q:j=k
    ·subst q;exact hun
    ·rwa [getD_set_ne true q]at hku
   ·rw[Array.setIfInBounds_comm _ _ e]
    exact h3.2.2
theorem wpAnyH_takeC{i:Nat}{oi:Oper}{v:Value}{fuel:Nat}{listed:Array Bool}{a:Act}{w:World}(hi:ops[i]? =some oi)(hs:Region.noSelect ops=true)(hf:Region.free md ops listed i=true)(hr:(Region.ready md ops listed).contains i=true)
  (hQ:∀c a w,Q (.panic c) (a.put oi.dst v) w→Q (.panic c) a w) (hy:EntersQ P ops S oi v a) (hS:S w)
  (h:wpAnyH P md ops Q S fuel (listed.setIfInBounds i true) (a.put oi.dst v) w):wpAnyH P md ops Q S (fuel+1) listed a w:=
 wpAnyH_firstC hi (Region.noSelect_spec hs) hQ fuel listed a w (Region.free_spec hi hf) (by simpa using hr) hy hS h
end
end
section
open Go.RowKit Go.Shelf
def FC(w:World)(B:Nat)(h l:Int):Prop:=w.cell? ⟨B,0,none⟩=some (.int .u64 h)∧w.cell? ⟨B,1,none⟩=some (.int .u64 l)∧w.frozen? ⟨B,0,none⟩=false∧w.frozen? ⟨B,1,none⟩=false∧B<w.heap.size
theorem FC.carry{W w:World}{B:Nat}{x y:Int}(f:FC W B x y)(h:Below W.heap.size W w):FC w B x y:=
 ⟨(h.cell (p:=⟨B,0,none⟩) f.2.2.2.2).trans f.1,(h.cell (p:=⟨B,1,none⟩) f.2.2.2.2).trans f.2.1,(h.frozen (p:=⟨B,0,none⟩) f.2.2.2.2).trans f.2.2.1,(h.frozen (p:=⟨B,1,none⟩) f.2.2.2.2).trans f.2.2.2.1,Nat.lt_of_lt_of_le f.2.2.2.2 h.size⟩
theorem FC.set{w:World}{B:Nat}{x y:Int}(f:FC w B x y)(h l:Int):FC ((w.setCell ⟨B,0,none⟩ (.int .u64 h)).setCell ⟨B,1,none⟩ (.int .u64 l)) B h l:=by
 obtain⟨d0,d1⟩:=two_cells (v0:=.int .u64 h) (v1:=.int .u64 l) f.1 f.2.1;exact⟨d0,d1,by simpa using f.2.2.1,by simpa using f.2.2.2.1,by simpa using f.2.2.2.2⟩
theorem FC.other{w:World}{B C:Nat}{x y:Int}(f:FC w C x y)(hne:C≠B)(h l:Int):FC ((w.setCell ⟨B,0,none⟩ (.int .u64 h)).setCell ⟨B,1,none⟩ (.int .u64 l)) C x y:=
 ⟨(two_other hne _ _ _).trans f.1,(two_other hne _ _ _).trans f.2.1,by simpa using f.2.2.1,by simpa using f.2.2.2.1,by simpa using f.2.2.2.2⟩
theorem FC.set1{w:World}{B:Nat}{x y:Int}(f:FC w B x y)(l:Int):FC (w.setCell ⟨B,1,none⟩ (.int .u64 l)) B x l:=
 ⟨(World.cell?_setCell_other _ _ _ _ (fun x=>absurd (congrArg Addr.off x) (by simp))).trans f.1,World.cell?_setCell_same _ _ _ f.2.1,by simpa using f.2.2.1,by simpa using f.2.2.2.1,by simpa using f.2.2.2.2⟩
theorem FC.new(w:World)(t:TypeId):FC (w.alloc (.cells #[.int .u64 0,.int .u64 0] t)) w.heap.size 0 0:=⟨by simp,by simp,by simp,by simp,by simp⟩
end
end Go.Proofs.YtebofaenlhhkaaaGreat
