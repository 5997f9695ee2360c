/- A call does in memory what the plain model says: what is to be shown, and the steps of the machine. Statements whose order Go leaves open: the plain facts. Statements whose order Go leaves open: the run of a plan, step by step, and what of it is true in every order. The run of a plan seen from its end: what each operation looks at stays. In every order that Go leaves open a statement comes to what its plan comes to. The memory that a call made may be forgotten. What the plain model says of a call is what the machine does. -/
import Derived.Test.YtkdbjfncchmmpaaGreatMg1
import Derived.Orders
namespace Go.Proofs.YtkdbjfncchmmpaaGreat
open Nat (reduceAdd reduceSub reduceLeDiff reduceLT)
open List (replicate)
set_option linter.unusedSimpArgs false
set_option linter.unusedVariables false
open Go Go.RowKit
def AC (P:Program) (g:FuncId) (args:List AV) (h:AH) (r:(AV ⊕ AV)×AH):Prop:=
 ∀ (m:Mm) (w:World) (vs:List Value),WR P m h w→VRs P m h args vs→Calls P g vs.toArray w fun e w'=>∃ m',Ext m h m' r.2∧WR P m' r.2 w'∧Below m.base w w'∧
   match r.1 with
   | .inl v=>∃ u,e= .returned u∧VR P m' r.2 v u
   | .inr v=>∃ u,e= .panicked [{v:=u,recovered:=false}]∧VR P m' r.2 v u
structure POK (P:Program) (po:Pol):Prop where
 ty:kY P
 name:∀ (g:Nat) (fn:Func),P.funcs[g]? =some fn→po.use g=true→(fn.name== "runtime.NumGoroutine")=false
 ext:∀ g F,po.ext g=some F→∃ fn,P.funcs[g]? =some fn∧(fn.body.isNone=false∧(fn.name== "runtime.NumGoroutine")=false)∧∀ args h r,F args h=some r→AC P g args h r
 plan:∀ (g:Nat) (fn:Func) (c:Code),P.funcs[g]? =some fn→fn.body=some c→po.use g=true→cz (po.plan g) (po.kp g) c=true
 mixed:P.follows .mixedOrders=true
 kpz:∀ g e,po.kp g (1000000+e)=true→(dC P e).isSome=true
def bK (P:Program) (S:Nat→Bool) (m:Mm) (h:AH) (w:World) (b:Frame) (cs:List Frame) (mach:Machine) (r:AEx×List AV×AH):Prop:=
 ∃ m' w',Ext m h m' r.2.2∧WR P m' r.2.2 w'∧Below m.base w w'∧
   match r.1 with
   | .ret=>∃ (a':Act) (todo:List Item),TR P m' r.2.2 r.2.1 a'.tmps∧a'.defers=b.defers∧Steps P mach (lone {b.at a' todo with mode:= .returning} cs w')
   | .panic v=>∃ (a':Act) (todo:List Item) (u:Value),(∃ tm,TR P m' r.2.2 tm a'.tmps∧∀ d,S d=true→tm.getD d .junk=r.2.1.getD d .junk)∧a'.defers=b.defers∧VR P m' r.2.2 v u∧Steps P mach (lone {b.at a' todo with mode:= .panicking [{v:=u,recovered:=false}]} cs w')
   | .halt K=>∃ (a':Act),TR P m' r.2.2 r.2.1 a'.tmps∧a'.defers=b.defers∧Steps P mach (lone (b.at a' K) cs w')
section
variable {P:Program} {m m1 m':Mm} {h h1 h':AH} {w w1 w':World} {t:List AV} {a:Act} {o:Oper} {b:Frame} {cs:List Frame} {mach mach':Machine} {r:AEx×List AV×AH}
theorem bK.steps {S:Nat→Bool} (hs:Steps P mach mach') (ho:bK P S m h w b cs mach' r):bK P S m h w b cs mach r:=by
 obtain⟨m',w',h1,h2,h3,h4⟩:=ho
 refine⟨m',w',h1,h2,h3,?_⟩
 split at h4
 ·rename_i hr
  obtain⟨a',todo,k1,k2,k3⟩:=h4
  exact⟨a',todo,k1,k2,hs.trans k3⟩
 ·rename_i v hr
  obtain⟨a',todo,u,k0,k1,k2,k3⟩:=h4
  exact⟨a',todo,u,k0,k1,k2,hs.trans k3⟩
 ·rename_i K hr
  obtain⟨a',k1,k2,k3⟩:=h4
  exact⟨a',k1,k2,hs.trans k3⟩
theorem bK.after {S:Nat→Bool} (hx:Ext m h m1 h1) (hb:Below m.base w w1) (ho:bK P S m1 h1 w1 b cs mach r):bK P S m h w b cs mach r:=by
 obtain⟨m',w',k1,k2,k3,k4⟩:=ho
 exact⟨m',w',hx.trans k1,k2,hb.trans (by rw[←hx.base];exact k3),k4⟩
theorem TR.clear (ht:TR P m h t a.tmps) (n:Nat):TR P m h (aa n t) a.tmps:=by
 refine⟨by rw[ht.1,aa];simp;omega,fun i hi=> ?_⟩
 unfold aa at hi ⊢
 by_cases hin:i<(t.take n).length
 ·rw[List.getElem_append_left hin,List.getElem_take]
  exact ht.2 i _
 ·rw[List.getElem_append_right (by omega)]
  simp only[List.getElem_replicate]
  exact .junk _
theorem lF {all:Array Oper} {i:Nat} {rest:List Nat} {k:List Item} {u:Value} (ho:all[i]? =some o) (hwa:Region.wanted o (yielded all a.tmps)=true)
  (hr:(execOp a.eval o).run P w= .ok (.value u) w'∨((execOp a.eval o).run P w= .ok .skip w'∧u=undef)):
  Steps P (lone (b.at a (.inRegion all (i::rest)::k)) cs w) (lone (b.at (a.put o.dst u) (.inRegion all rest::k)) cs w'):=by
 have hg:=stepG_op (P:=P) (b:=b) (k:=k) (cs:=cs) (w:=w) (rest:=rest) ho hwa
 have hfin:∀ v,(b.at a (.inRegion all (i::rest)::k)).finish v=b.at (a.put o.dst v) (.inRegion all rest::k):=by
  intro v;rw[Frame.finish_at,ho];rfl
 refine .one (step_lone_go ?_)
 rcases hr with hr | ⟨hr,rfl⟩
 ·rw[hg,←hfin];simp[stepG.apply,hr]
 ·rw[hg,←hfin];simp[stepG.apply,hr]
theorem mK {all:Array Oper} {i:Nat} {rest:List Nat} {k:List Item} (ho:all[i]? =some o) (hwa:Region.wanted o (yielded all a.tmps)=false):
  Steps P (lone (b.at a (.inRegion all (i::rest)::k)) cs w) (lone (b.at (a.put o.dst undef) (.inRegion all rest::k)) cs w):=by
 have hs:=step_op_skip (P:=P) (b:=b) (a:=a) (k:=k) (cs:=cs) (w:=w) (ops:=all) (i:=i) (rest:=rest) (by simp[ho];simpa using hwa)
 simp only[ho,Option.bind_some]at hs
 exact .one hs
theorem iW {all:Array Oper} {i:Nat} {rest:List Nat} {k:List Item} {f:FuncId} {args:Array Value} {R:Ending→World→Prop} (ho:all[i]? =some o) (hwa:Region.wanted o (yielded all a.tmps)=true)
  (hr:(execOp a.eval o).run P w= .ok (.enter f args) w) (hc:Calls P f args w R) (hno:∀ w',¬ R .outgrown w'):
  ∃ e w',R e w'∧((∃ v,e= .returned v∧Steps P (lone (b.at a (.inRegion all (i::rest)::k)) cs w) (lone (b.at (a.put o.dst v) (.inRegion all rest::k)) cs w'))∨
    (∃ ch,e= .panicked ch∧∃ todo,Steps P (lone (b.at a (.inRegion all (i::rest)::k)) cs w) (lone {b.at a todo with mode:= .panicking ch} cs w'))):=by
 have hg:=stepG_op (P:=P) (b:=b) (k:=k) (cs:=cs) (w:=w) (rest:=rest) ho hwa
 have hfin:∀ v,(b.at a (.inRegion all (i::rest)::k)).finish v=b.at (a.put o.dst v) (.inRegion all rest::k):=by
  intro v;rw[Frame.finish_at,ho];rfl
 obtain⟨e,w'',fr,hR,hsteps,_,hleave⟩:=hc (b.at a (.inRegion all (i::rest)::k)::cs)
 have henter:step P (lone (b.at a (.inRegion all (i::rest)::k)) cs w)= .next (lone (Frame.enter P f args .normal) (b.at a (.inRegion all (i::rest)::k)::cs) w):=
  step_lone_go (by rw[hg];simp[stepG.apply,hr,Frame.at])
 refine⟨e,w'',hR,?_⟩
 cases e with
 | returned v=>
   left
   refine⟨v,rfl,.head henter (Steps.trans hsteps (.one ?_))⟩
   rw[←hfin];exact step_leave_returned hleave
 | panicked chain=>
   right
   refine⟨chain,rfl,.inRegion all (i::rest)::k,.head henter (Steps.trans hsteps (.one ?_))⟩
   rw[←Frame.raise_at];exact step_leave_panicked hleave
 | outgrown=>exact absurd hR (hno _)
theorem dq (ht:TR P m h t a.tmps) (all:Array Oper) (o:Oper) {x:Bool} (hw:aU all t o=some x):Region.wanted o (yielded all a.tmps)=x:=by
 unfold aU at hw
 unfold Region.wanted
 split at hw
 ·rename_i hg
  rw[hg]
  injection hw
 ·rename_i j want hg
  rw[hg]
  simp only
  split at hw
  ·rename_i d hd
   have hlt:t.getD d .junk≠.junk→d<t.length:=by
    intro hb
    rcases Nat.lt_or_ge d t.length with h1 | h1
    ·exact h1
    ·rw[List.getD,List.getElem?_eq_none h1]at hb
     exact absurd rfl hb
   have hv:=ht.get d
   split at hw
   ·rename_i bb hb
    injection hw with hw
    rw[hb]at hv
    have hts:d<a.tmps.size:=by rw[ht.1];exact hlt (by rw[hb];simp)
    have hval:a.tmps.getD d undef= .bool bb:=by
     revert hv
     generalize a.tmps.getD d undef=q
     intro hv
     cases hv
     rfl
    have e1:a.tmps[d]? =some (.bool bb):=by
     rw[←hval]
     simp[Array.getD,hts]
    simp only[yielded,hd,Option.bind_some,e1]
    rw[←hw]
    cases want<;>cases bb<;>rfl
   ·rename_i vs hb
    injection hw with hw
    rw[hb]at hv
    have hts:d<a.tmps.size:=by rw[ht.1];exact hlt (by rw[hb];simp)
    obtain⟨us,hval⟩:∃ us,a.tmps.getD d undef= .tuple us:=by
     revert hv
     generalize a.tmps.getD d undef=q
     intro hv
     cases hv
     exact⟨_,rfl⟩
    have e1:a.tmps[d]? =some (.tuple us):=by
     rw[←hval]
     simp[Array.getD,hts]
    simp only[yielded,hd,Option.bind_some,e1]
    rw[←hw]
    cases want<;>rfl
   ·cases hw
  ·cases hw
theorem sA (ht:TR P m h t a.tmps) {v:AV} (hp:jl t o=some v):∃ u,VR P m h v u∧(execOp a.eval o).run P w= .halt (.panic u) w:=by
 unfold jl at hp
 split at hp
 ·rename_i x ho
  split at hp
  ·rename_i q v' hev
   injection hp with hp
   subst hp
   have hv:=ay ht x
   rw[hev]at hv
   obtain⟨u,hu⟩:∃ u,a.eval x=u:=⟨_,rfl⟩
   rw[hu]at hv
   cases hv with
   | iface _ _ u' h1=>
     refine⟨_,.iface q v' u' h1,?_⟩
     unfold execOp
     rw[ho]
     simp only[hu,Instr.panic]
     rfl
  ·cases hp
 ·cases hp
theorem xe {all:Array Oper} {i:Nat} {rest:List Nat} {k:List Item} {u:Value} (ho:all[i]? =some o) (hwa:Region.wanted o (yielded all a.tmps)=true) (hr:(execOp a.eval o).run P w= .halt (.panic u) w):
  Steps P (lone (b.at a (.inRegion all (i::rest)::k)) cs w) (lone {b.at a (.inRegion all (i::rest)::k)with mode:= .panicking [{v:=u,recovered:=false}]} cs w):=by
 have hg:=stepG_op (P:=P) (b:=b) (k:=k) (cs:=cs) (w:=w) (rest:=rest) ho hwa
 refine .one (step_lone_go ?_)
 rw[hg,←Frame.raise_at]
 simp[stepG.apply,hr]
theorem gR (ht:TR P m h t a.tmps) {g:FuncId} {args:List AV} (hc:aA t o=some (g,args)) {fn:Func} (hf:P.funcs[g]? =some fn) (hn:(fn.name== "runtime.NumGoroutine")=false) (hb:fn.body.isNone=false):
  ∃ vs:List Value,VRs P m h args vs∧(execOp a.eval o).run P w= .ok (.enter g vs.toArray) w:=by
 unfold aA at hc
 split at hc
 ·rename_i fo ao aty ho
  split at hc
  ·rename_i g' first captured hev
   injection hc with hc
   injection hc with h1 h2
   subst h1
   subst h2
   have hv:=ay ht fo
   rw[hev]at hv
   obtain⟨u,hu⟩:∃ u,a.eval fo=u:=⟨_,rfl⟩
   rw[hu]at hv
   cases hv with
   | fn _ l c l' c' e1 e2 e3 e4=>
     refine⟨l'++ao.toList.map a.eval++c',VRs.append (VRs.append ⟨e1,e3⟩ (VRs.map fun x _=>ay ht x)) ⟨e2,e4⟩,?_⟩
     have e5:(l'.toArray++ao.map a.eval)++c'.toArray=(l'++ao.toList.map a.eval++c').toArray:=by
      apply Array.ext'
      simp
     simp only[execOp,ho,hu,resolve,Deferred.ofValue,Sem.run_bind,Sem.run_pure,Result.andThen_ok,invoke,callFunc,run_program,hf,hn,hb,Bool.false_eq_true,if_false,e5]
  ·cases hc
 ·cases hc
theorem fM (hw:WR P m h w) (ht:TR P m h t a.tmps) {fn:Func} {v:AV} (hv:lu fn t h P=some v):∃ u,(results fn a.tmps).run P w= .ok u w∧VR P m h v u:=by
 unfold lu at hv
 obtain⟨vs,hvs,rfl⟩:=Option.map_eq_some_iff.1 hv
 have key:∀ (rs:List ResultVar) (vs:List AV),lC P t h rs=some vs→∃ us:List Value,(rs.mapM fun(x:ResultVar)=>(match x with
   | .tmp t=>pure (a.tmps.getD t undef)
   | .cell c t=>do loadVar t (←asAddr (a.tmps.getD c undef)):Sem Value)).run P w= .ok us w∧VRs P m h vs us:=by
  intro rs
  induction rs with
  | nil=>
    intro vs hvs
    simp[lC]at hvs
    subst hvs
    exact⟨[],by simp,VRs.nil⟩
  | cons x rs ih=>
    intro vs hvs
    cases x with
    | tmp i=>
      simp only[lC]at hvs
      obtain⟨l,hl,rfl⟩:=Option.map_eq_some_iff.1 hvs
      obtain⟨us,h1,h2⟩:=ih l hl
      exact⟨_,by simp only[List.mapM_cons,Sem.run_bind,Sem.run_pure,Result.andThen_ok,h1],VRs.cons (ht.get i) h2⟩
    | cell i ty=>
      simp only[lC]at hvs
      split at hvs
      ·cases hvs
      ·rename_i hn
       obtain⟨v,hv,hvs⟩:=Option.bind_eq_some_iff.1 hvs
       obtain⟨l,hl,rfl⟩:=Option.map_eq_some_iff.1 hvs
       obtain⟨us,h1,h2⟩:=ih l hl
       have hx:=ht.get i
       obtain⟨d,hd⟩:=Option.isSome_iff_exists.1 (by cases hu2:P.underlying ty<;>simp_all:(P.underlying ty).isSome=true)
       obtain⟨i0,hi0⟩:=qV hd
       have hld:∃ u,(do loadVar ty (←asAddr (a.tmps.getD i undef)):Sem Value).run P w= .ok u w∧VR P m h v u:=by
        revert hx hv
        generalize a.tmps.getD i undef=ax
        generalize t.getD i .junk=ex
        intro hv hx
        obtain⟨ex',hx',hne,hl,_⟩:=hx.untag
        rw[←hl]at hv
        cases hx' with
        | tptr t b _ _=>exact absurd rfl (hne t b)
        | ptr b i off hb=>
          simp only[aK]at hv
          rcases hr:h.row b i with _ | e
          ·simp[hr]at hv
          ·simp only[hr,Option.bind_some]at hv
           obtain⟨F,hF⟩:=Bv hw hr
           obtain⟨u,h1,h2⟩:=lV (w:=w) ty hd (by rw[hi0];simp) (m.blk b) (i*P.cellsOf (m.bt b)) off e F hF hv
           exact⟨u,by simp[asAddr,h1],h2⟩
        | ip e off g o' F hi' hv'=>
          simp only[aK]at hv
          obtain⟨u,h1,h2⟩:=lV (w:=w) (h:=h) (m:=m) ty hd (by rw[hi0];simp) g o' off e F (fun j hj=>⟨hw.imm _ _ _ (hi' j hj),hv' j hj⟩) hv
          exact⟨u,by simp[asAddr,h1],h2⟩
        | _=>simp[aK]at hv
       obtain⟨u,hu1,hu2⟩:=hld
       exact⟨_,by simp only[List.mapM_cons,Sem.run_bind,Result.andThen_ok,hu1,h1,Sem.run_pure],VRs.cons hu2 h2⟩
 obtain⟨us,h1,h2⟩:=key _ _ hvs
 unfold results
 rw[Array.mapM_eq_mapM_toList]
 have hrun:(do
   let vs ←(List.toArray<$>(fn.results.toList.mapM fun(x:ResultVar)=>(match x with
    | .tmp t=>pure (a.tmps.getD t undef)
    | .cell c t=>do loadVar t (←asAddr (a.tmps.getD c undef)):Sem Value)))
   pure (if h:vs.size=1 then vs[0]else .tuple vs):Sem Value).run P w= .ok (if h:us.toArray.size=1 then us.toArray[0]else .tuple us.toArray) w:=by
  simp[h1, -Array.getD_eq_getD_getElem?]
 refine⟨_,hrun,?_⟩
 by_cases hl:us.length=1
 ·obtain⟨u,rfl⟩:=List.length_eq_one_iff.1 hl
  have hvl:vs.length=1:=h2.1.symm
  obtain⟨v,rfl⟩:=List.length_eq_one_iff.1 hvl
  have:=h2.2 0 (by simp) (by simp)
  simpa[eO]using this
 ·have hvl:vs.length≠1:=by rw[←h2.1];exact hl
  have e1:eO vs= .tup vs:=by
   unfold eO
   split
   ·simp at hvl
   ·rfl
  rw[e1,dif_neg (by simpa using hl)]
  exact .tup _ _ h2.1 h2.2
end
open Go Go.RowKit
section
variable {P:Program} {t τ:List AV} {h h':AH} {o:Oper} {all:Array Oper} {M:Array Nat}
theorem Cw {x:Operand} (hx:∀ d,x= .tmp d→t.getD d .junk=τ.getD d .junk):evA t x=evA τ x:=by
 cases x with
 | tmp d=>exact hx d rfl
 | _=>rfl
theorem lW (hl:∀ d∈o.looksAt all,t.getD d .junk=τ.getD d .junk):∀ x∈o.op.operands,evA t x=evA τ x:=by
 intro x hx
 refine Cw fun d hd=>hl d ?_
 subst hd
 exact List.mem_append_left _ (List.mem_filterMap.2 ⟨.tmp d,by simpa using hx,rfl⟩)
theorem fS (hl:∀ d∈o.looksAt all,t.getD d .junk=τ.getD d .junk):aU all t o=aU all τ o:=by
 unfold aU
 split
 ·rfl
 ·rename_i j want hg
  split
  ·rename_i d hd
   rw[hl d (List.mem_append_right _ (by simp[hg,hd]))]
  ·rfl
theorem iN (hl:∀ d∈o.looksAt all,t.getD d .junk=τ.getD d .junk):aA t o=aA τ o:=by
 have hE:=lW hl
 unfold aA
 split
 ·rename_i fo ao aty ho
  rw[ho]at hE
  have h1:evA t fo=evA τ fo:=hE _ (by simp[Op.operands,Call.operands])
  have h2:ao.toList.map (evA t)=ao.toList.map (evA τ):=List.map_congr_left fun x hx=>hE _ (by
   simp[Op.operands,Call.operands]
   exact .inr (by simpa using hx))
  rw[h1,h2]
 ·rfl
theorem zj (hl:∀ d∈o.looksAt all,t.getD d .junk=τ.getD d .junk):jl t o=jl τ o:=by
 have hE:=lW hl
 unfold jl
 split
 ·rename_i x ho
  rw[hE x (by simp[ho,Op.operands])]
 ·rfl
theorem nR (ps:List (Nat×Operand)) (hp:∀ x∈ps.map (·.2),evA t x=evA τ x):(ps.map fun q=>(q.1,evA t q.2))=ps.map fun q=>(q.1,evA τ q.2):=
 List.map_congr_left fun p hm=>by rw[hp p.2 (List.mem_map.2 ⟨p,hm,rfl⟩)]
theorem sP (xs:Array Operand) (hp:∀ x∈xs,evA t x=evA τ x):xs.toList.map (evA t)=xs.toList.map (evA τ):=List.map_congr_left fun x hx=>hp x (by simpa using hx)
theorem vj (hE:∀ x∈o.op.operands,evA t x=evA τ x):bD P t o=bD P τ o:=by
 unfold bD
 split
 ·rename_i x ho
  rw[hE x (by simp[ho,Op.operands])]
 ·rename_i x ho
  rw[hE x (by simp[ho,Op.operands])]
 ·rename_i c x y ho
  rw[hE c (by simp[ho,Op.operands]),hE x (by simp[ho,Op.operands]),hE y (by simp[ho,Op.operands])]
 ·rename_i ty parts ho
  rw[nR parts.toList fun x hx=>hE x (by rw[ho];simp only[Op.operands];simpa using hx)]
 ·rename_i x ho
  rw[hE x (by simp[ho,Op.operands])]
 ·rename_i op ty x y yt ho
  rw[hE x (by simp[ho,Op.operands]),hE y (by simp[ho,Op.operands])]
 ·rename_i op ty x ho
  rw[hE x (by simp[ho,Op.operands])]
 ·rename_i src dst x ho
  rw[hE x (by simp[ho,Op.operands])]
 ·rename_i ty x ho
  rw[hE x (by simp[ho,Op.operands])]
 ·rename_i f first captured ho
  rw[sP first fun x hx=>hE x (by simp[ho,Op.operands,hx]),sP captured fun x hx=>hE x (by simp[ho,Op.operands,hx])]
 ·rename_i ty x lo hi mx ho
  have h1:evA t x=evA τ x:=hE x (by simp[ho,Op.operands])
  have h2:lo.map (evA t)=lo.map (evA τ):=by
   cases lo with
   | none=>rfl
   | some l=>simp only[Option.map_some];rw[hE l (by simp[ho,Op.operands])]
  have h3:hi.map (evA t)=hi.map (evA τ):=by
   cases hi with
   | none=>rfl
   | some l=>simp only[Option.map_some];rw[hE l (by simp[ho,Op.operands])]
  rw[h1,h2,h3]
 ·rename_i s x f ho
  rw[hE x (by simp[ho,Op.operands])]
 ·rename_i s x f ho
  rw[hE x (by simp[ho,Op.operands])]
 ·rename_i ty x ix ho
  rw[hE x (by simp[ho,Op.operands]),hE ix (by simp[ho,Op.operands])]
 ·rename_i ty x ix ho
  rw[hE x (by simp[ho,Op.operands]),hE ix (by simp[ho,Op.operands])]
 ·rename_i x xt aS ok ho
  rw[hE x (by simp[ho,Op.operands])]
 ·rename_i x i ho
  rw[hE x (by simp[ho,Op.operands])]
 ·rename_i args argTypes ho
  have hA:∀ x∈args.toList,evA t x=evA τ x:=fun x hx=>hE x (by rw[ho];simp[Op.operands,Call.operands];simpa using hx)
  split
  ·rename_i x ty tys ha hty
   rw[hA x (by rw[ha];simp)]
  ·rfl
 ·rename_i args argTypes ho
  have hA:∀ x∈args.toList,evA t x=evA τ x:=fun x hx=>hE x (by rw[ho];simp[Op.operands,Call.operands];simpa using hx)
  split
  ·rename_i x y ha
   rw[hA x (by rw[ha];simp),hA y (by rw[ha];simp)]
  ·rfl
 ·rename_i args argTypes ho
  have hA:∀ x∈args.toList,evA t x=evA τ x:=fun x hx=>hE x (by rw[ho];simp[Op.operands,Call.operands];simpa using hx)
  split
  ·rename_i x y ha
   rw[hA x (by rw[ha];simp),hA y (by rw[ha];simp)]
  ·rfl
 ·rfl
theorem lT (mu:TypeId→Bool) (hl:∀ d∈o.looksAt all,t.getD d .junk=τ.getD d .junk):aN P mu t h o=aN P mu τ h o:=by
 have hE:=lW hl
 have hp:=vj (P:=P) hE
 clear hl
 unfold aN
 split
 ·rfl
 ·rename_i e x ho
  rw[hE x (by simp[ho,Op.operands])]
 ·rename_i ty len parts ho
  rw[nR parts.toList fun x hx=>hE x (by rw[ho];simp only[Op.operands];simpa using hx)]
 ·rename_i ty x ho
  rw[hE x (by simp[ho,Op.operands])]
 ·rename_i ty x y ho
  rw[hE x (by simp[ho,Op.operands]),hE y (by simp[ho,Op.operands])]
 ·rename_i ty x y ho
  rw[hE x (by simp[ho,Op.operands]),hE y (by simp[ho,Op.operands])]
 ·rename_i args argTypes ho
  have hA:∀ x∈args.toList,evA t x=evA τ x:=fun x hx=>hE x (by rw[ho];simp[Op.operands,Call.operands];simpa using hx)
  split
  ·rename_i x y ty ty' ha hty
   rw[hA x (by rw[ha];simp),hA y (by rw[ha];simp)]
  ·rfl
 ·rw[hp]
theorem pV (mu:TypeId→Bool) (hs:bM o=true) (hn:jw o=false) (h:AH):aN P mu t h o=(bD P t o).map fun v=>(v,h):=by
 unfold aN
 split
 all_goals first
  | rfl
  | (rename_i ho;simp[bM,ho]at hs;done)
  | (rename_i ho;simp[jw,ho]at hn;done)
theorem yX (mu:TypeId→Bool) (hs:bM o=true) {v:AV} (he:aN P mu t h o=some (v,h')):h'=h:=by
 by_cases hn:jw o=true
 ·unfold jw at hn
  split at hn
  ·rename_i ty a ho
   unfold aN at he
   rw[ho]at he
   simp only at he
   split at he
   ·cases he
   ·obtain⟨u,_,he⟩:=Option.map_eq_some_iff.1 he
    injection he with h1 h2
    exact h2.symm
  ·cases hn
 ·rw[pV mu hs (by simpa using hn)]at he
  obtain⟨u,_,he⟩:=Option.map_eq_some_iff.1 he
  injection he with h1 h2
  exact h2.symm
theorem Cg (mu:TypeId→Bool) (hs:bM o=true) (hn:jw o=false) {v:AV} (he:aN P mu t h o=some (v,h)) (h2:AH):aN P mu t h2 o=some (v,h2):=by
 rw[pV mu hs hn]at he ⊢
 obtain⟨u,hu,he⟩:=Option.map_eq_some_iff.1 he
 injection he with h1 _
 rw[hu,←h1]
 rfl
end
open Go Go.RowKit
def OpF (P:Program) (po:Pol) (f:FuncId) (t:List AV) (h:AH) (o:Oper) (v:AV) (h':AH):Prop:=
 (aA t o=none∧aN P (po.mu f) t h o=some (v,h'))∨∃ g args fn,aA t o=some (g,args)∧P.funcs[g]? =some fn∧(fn.body.isNone=false∧(fn.name== "runtime.NumGoroutine")=false)∧AC P g args h (.inl v,h')
def mC (P:Program) (po:Pol) (f:FuncId) (all:Array Oper) (q:Oper×List Oper) (t:List AV) (h:AH) (t':List AV) (h':AH):Prop:=
 (aU all t q.1=some false∧t'=bu t q.1.dst (.tup [])∧h'=h)∨
 (aU all t q.1=some true∧∃ v,OpF P po f t h q.1 v h'∧t'=bu t q.1.dst v∧kV P all t' h' q.2)
def pq (P:Program) (all:Array Oper) (o:Oper) (t:List AV) (h:AH) (v:AV) (h':AH):Prop:=
 aU all t o=some true∧((jl t o=some v∧h'=h)∨∃ g args fn,aA t o=some (g,args)∧P.funcs[g]? =some fn∧(fn.body.isNone=false∧(fn.name== "runtime.NumGoroutine")=false)∧AC P g args h (.inr v,h'))
inductive qw (P:Program) (po:Pol) (f:FuncId) (all:Array Oper):List (Oper×List Oper)→List AV→AH→Option AV→List AV→AH→Prop
 | nil (t:List AV) (h:AH):qw P po f all [] t h none t h
 | step (q:Oper×List Oper) (l:List (Oper×List Oper)) (t:List AV) (h:AH) (t1:List AV) (h1:AH) (e:Option AV) (t':List AV) (h':AH):
   mC P po f all q t h t1 h1→qw P po f all l t1 h1 e t' h'→qw P po f all (q::l) t h e t' h'
 | stop (q:Oper×List Oper) (l:List (Oper×List Oper)) (t:List AV) (h:AH) (v:AV) (h':AH):pq P all q.1 t h v h'→qw P po f all (q::l) t h (some v) t h'
theorem qw.trace {P:Program} {po:Pol} {f:FuncId} {all:Array Oper} {l:List (Oper×List Oper)} {t:List AV} {h:AH} {e:Option AV} {t':List AV} {h':AH} (hp:qw P po f all l t h e t' h'):
  ∃ (N:Nat) (ts:Nat→List AV) (hs:Nat→AH),N≤l.length∧ts 0=t∧hs 0=h∧ts N=t'∧(∀ i q,i<N→l[i]? =some q→mC P po f all q (ts i) (hs i) (ts (i+1)) (hs (i+1)))∧
    (match e with | none=>N=l.length∧hs N=h' | some v=>∃ q,l[N]? =some q∧pq P all q.1 (ts N) (hs N) v h'):=by
 induction hp with
 | nil t h=>exact⟨0,fun _=>t,fun _=>h,Nat.le_refl _,rfl,rfl,rfl,fun i q hi=>by omega,rfl,rfl⟩
 | step q l t h t1 h1 e t' h' hst _ ih=>
   obtain⟨N,ts,hs,h1',h2,h3,h4,h5,h6⟩:=ih
   refine⟨N+1,fun | 0=>t | i+1=>ts i,fun | 0=>h | i+1=>hs i,by simpa using h1',rfl,rfl,h4,fun i q' hi hq=> ?_,?_⟩
   ·cases i with
    | zero=>
      simp only[List.getElem?_cons_zero,Option.some.injEq]at hq
      subst hq
      show mC P po f all q t h (ts 0) (hs 0)
      rw[h2,h3]
      exact hst
    | succ i=>
      simp only[List.getElem?_cons_succ]at hq
      exact h5 i q' (by omega) hq
   ·cases e with
    | none=>exact⟨by simp[h6.1],h6.2⟩
    | some v=>
      obtain⟨q',hq,hs'⟩:=h6
      exact⟨q',by simpa using hq,hs'⟩
 | stop q l t h v h' hst=>exact⟨0,fun _=>t,fun _=>h,Nat.zero_le _,rfl,rfl,rfl,fun i q hi=>by omega,q,rfl,hst⟩
section
variable (all:Array Oper) (pl:List (Nat×List Nat))
def opI (i:Nat):Oper:=all.getD i default
def ixP (k:Nat):Nat:=(pl.getD k default).1
def ckP (k:Nat):List Nat:=(pl.getD k default).2
def opP (k:Nat):Oper:=opI all (ixP pl k)
def xo (all:Array Oper) (E:Nat→Nat→Prop) (i j:Nat):Prop:=kW (Region.before all) i j=true∨E i j
structure jd (Z:TypeId→Bool) (E:Nat→Nat→Prop):Prop where
 cover:∀ i,i<all.size→∃ k,k<pl.length∧ixP pl k=i
 lt:∀ k,k<pl.length→ixP pl k<all.size
 self:∀ k d,k<pl.length→(opP all pl k).dst=some d→d ∉ (opP all pl k).looksAt all
 edges:∀ j,j<all.size→∀ e∈(opI all j).after,Region.binds .any e=true→e.on<j
 mask:∀ j i,j<all.size→i<all.size→kW (Region.before all) i j=true→∃ e∈(opI all j).after,Region.binds .any e=true∧(e.on=i∨kW (Region.before all) i e.on=true)
 ne:∀ i j,i<j→j<pl.length→ixP pl i≠ixP pl j
 still:∀ i j,i<j→j<pl.length→bM (opP all pl i)=true∨lP Z (opP all pl j)=true∨xo all E (ixP pl i) (ixP pl j)
 load:∀ i j,i<j→j<pl.length→bM (opP all pl j)=true∨jw (opP all pl i)=false∨xo all E (ixP pl i) (ixP pl j)∨ixP pl i∈ckP pl j
 dst:∀ i j d,i<j→j<pl.length→(opP all pl j).dst=some d→d ∉ (opP all pl i).looksAt all∧(opP all pl i).dst≠some d
 data:∀ i j d,i<j→j<pl.length→(opP all pl i).dst=some d→d∈(opP all pl j).looksAt all→xo all E (ixP pl i) (ixP pl j)
end
theorem tr (Z:TypeId→Bool) (all:Array Oper) (M:Array Nat):∀ (pl:List (Nat×List Nat)),oO Z all M pl=true→∀ i j,i<j→j<pl.length→yB Z all M (pl.getD i default) (pl.getD j default)=true
 | [],_,i,j,_,hj=>by simp at hj
 | x::r,hp,i,j,hij,hj=>by
   simp only[oO,Bool.and_eq_true,List.all_eq_true]at hp
   obtain⟨j,rfl⟩:∃ j',j=j'+1:=⟨j - 1,by omega⟩
   have hj':j<r.length:=by simpa using hj
   cases i with
   | zero=>
     have:r[j]∈r:=List.getElem_mem hj'
     have:=hp.1 _ this
     simpa[List.getD,hj']using this
   | succ i=>
     have:=tr Z all M r hp.2 i j (by omega) hj'
     simpa[List.getD]using this
theorem CT {Z:TypeId→Bool} {all:Array Oper} {pl:List (Nat×List Nat)} (hp:zX Z all pl=true):jd all pl Z fun _ _=>False:=by
 unfold zX at hp
 simp only[Bool.and_eq_true]at hp
 obtain⟨⟨⟨⟨h1,h2⟩,h3⟩,h4⟩,h5⟩:=hp
 rw[List.all_eq_true]at h1 h2 h3
 have hmem:∀ k,k<pl.length→pl.getD k default∈pl:=fun k hk=>by
  simp only[List.getD,List.getElem?_eq_getElem hk,Option.getD_some]
  exact List.getElem_mem hk
 have hpair:∀ i j,i<j→j<pl.length→_:=fun i j hij hj=>tr Z all (Region.before all) pl h5 i j hij hj
 unfold yB at hpair
 simp only[Bool.and_eq_true,bne_iff_ne,ne_eq]at hpair
 refine⟨fun i hi=> ?_,fun k hk=> ?_,fun k d hk hd hin=> ?_,fun j hj e he hb=> ?_,fun j i hj hi hpre=> ?_,fun i j hij hj=> ?_,fun i j hij hj=> ?_,fun i j hij hj=> ?_,fun i j d hij hj hd=> ?_,fun i j d hij hj hd hin=> ?_⟩
 ·have:=h1 i (List.mem_range.2 hi)
  rw[List.any_eq_true]at this
  obtain⟨q,hq,h⟩:=this
  obtain⟨k,hk,rfl⟩:=List.getElem_of_mem hq
  exact⟨k,hk,by simpa[ixP,List.getD,hk]using h⟩
 ·have:=h2 _ (hmem k hk)
  simp only[Bool.and_eq_true,decide_eq_true_eq]at this
  exact this.1
 ·have:=h2 _ (hmem k hk)
  simp only[Bool.and_eq_true,decide_eq_true_eq]at this
  have:=this.2
  unfold opP opI ixP at hd hin
  rw[hd]at this
  simp only[Array.getD_eq_getD_getElem?,List.getD_eq_getElem?_getD]at hin this
  simp[List.contains_eq_mem,hin]at this
 ·have:=h3 j (List.mem_range.2 hj)
  rw[Array.all_eq_true']at this
  have:=this e he
  simpa[hb]using this
 ·unfold ua at h4
  rw[List.all_eq_true]at h4
  have:=h4 j (List.mem_range.2 hj)
  rw[List.all_eq_true]at this
  have:=this i (List.mem_range.2 hi)
  rw[hpre]at this
  simp only[Bool.not_true,Bool.false_or]at this
  rw[Option.any_eq_true]at this
  obtain⟨o,ho,h6⟩:=this
  rw[Array.any_eq_true']at h6
  obtain⟨e,he,h7⟩:=h6
  simp only[Bool.and_eq_true,decide_eq_true_eq,Bool.or_eq_true,beq_iff_eq]at h7
  refine⟨e,?_,h7.1.1,h7.2⟩
  have:opI all j=o:=by simp[opI,Array.getD_eq_getD_getElem?,ho]
  rw[this]
  exact he
 ·exact(hpair i j hij hj).1.1.1.1.1.1
 ·have:=(hpair i j hij hj).1.1.1.2
  have:(bM (opP all pl i)=true∨lP Z (opP all pl j)=true)∨kW (Region.before all) (ixP pl i) (ixP pl j)=true:=by simpa[opP,opI,ixP]using this
  exact this.elim (fun h=>h.imp id .inl) fun h=> .inr (.inr (.inl h))
 ·have:=(hpair i j hij hj).1.1.2
  simp only[Bool.or_eq_true,Bool.not_eq_true',List.contains_eq_mem,decide_eq_true_eq]at this
  unfold opP opI ixP ckP
  rcases this with((h | h) | h) | h
  ·exact .inl h
  ·exact .inr (.inl h)
  ·exact .inr (.inr (.inl (.inl h)))
  ·exact .inr (.inr (.inr h))
 ·have:=(hpair i j hij hj).1.2
  unfold opP opI ixP at hd ⊢
  rw[hd]at this
  simpa[List.contains_eq_mem]using this
 ·have:=(hpair i j hij hj).2
  unfold opP opI ixP at hd hin
  rw[hd]at this
  simp only[Array.getD_eq_getD_getElem?,List.getD_eq_getElem?_getD]at hin this
  exact .inl (by simpa[List.contains_eq_mem,hin,ixP]using this)
open Go Go.RowKit
def uB (τ:List AV) (o:Oper) (v:AV):Prop:=∀ d,o.dst=some d→d<τ.length→τ.getD d .junk=v
def n8 (P:Program) (po:Pol) (f:FuncId) (all:Array Oper) (τ:List AV) (o:Oper) (h:AH):Prop:=
 bM o=true∧((aU all τ o=some false∧uB τ o (.tup []))∨(aU all τ o=some true∧∃ v,aN P (po.mu f) τ h o=some (v,h)∧uB τ o v))
theorem qN {t:List AV} {d:Option Tmp} {v:AV}:(bu t d v).length=t.length:=by cases d<;>simp[bu]
theorem kM {t:List AV} {d:Option Tmp} {v:AV} {j:Nat} (h:d≠some j):(bu t d v).getD j .junk=t.getD j .junk:=by
 cases d with
 | none=>rfl
 | some d=>
   have:d≠j:=fun e=>h (by rw[e])
   simp[bu,List.getD,List.getElem?_set_ne this]
theorem oQ {t:List AV} {d:Option Tmp} {v:AV} {j:Nat} (h:d=some j) (hj:j<t.length):(bu t d v).getD j .junk=v:=by
 subst h
 simp[bu,List.getD,hj]
section
variable {P:Program} {po:Pol} {f:FuncId} {all:Array Oper} {pl:List (Nat×List Nat)} {Z:TypeId→Bool} {E:Nat→Nat→Prop} {N:Nat} {ts:Nat→List AV} {hs:Nat→AH}
structure Tra (P:Program) (po:Pol) (f:FuncId) (all:Array Oper) (pl:List (Nat×List Nat)) (Z:TypeId→Bool) (E:Nat→Nat→Prop) (N:Nat) (ts:Nat→List AV) (hs:Nat→AH):Prop where
 plan:jd all pl Z E
 le:N≤pl.length
 step:∀ k,k<N→mC P po f all (opP all pl k,(ckP pl k).map (opI all)) (ts k) (hs k) (ts (k+1)) (hs (k+1))
theorem mC.put {q:Oper×List Oper} {t t':List AV} {h h':AH} (hs:mC P po f all q t h t' h'):∃ v,t'=bu t q.1.dst v:=by
 rcases hs with⟨_,h1,_⟩ | ⟨_,v,_,h1,_⟩
 ·exact⟨_,h1⟩
 ·exact⟨_,h1⟩
theorem Tra.len (T:Tra P po f all pl Z E N ts hs):∀ k,k≤N→(ts k).length=(ts N).length:=by
 have:∀ d k,k+d=N→(ts k).length=(ts N).length:=by
  intro d
  induction d with
  | zero=>intro k hk;rw[←hk];rfl
  | succ d ih=>
    intro k hk
    rw[←ih (k+1) (by omega)]
    obtain⟨v,hv⟩:=(T.step k (by omega)).put
    rw[hv,qN]
 exact fun k hk=>this (N - k) k (by omega)
theorem Tra.keep (T:Tra P po f all pl Z E N ts hs) (d:Nat):∀ k1 n,k1+n≤N→(∀ j,k1≤j→j<k1+n→(opP all pl j).dst≠some d)→(ts (k1+n)).getD d .junk=(ts k1).getD d .junk:=by
 intro k1 n
 induction n with
 | zero=>intro _ _;rfl
 | succ n ih=>
   intro hle hno
   rw[←ih (by omega) (fun j h1 h2=>hno j h1 (by omega))]
   obtain⟨v,hv⟩:=(T.step (k1+n) (by omega)).put
   rw[←Nat.add_assoc,hv]
   exact kM (hno (k1+n) (by omega) (by omega))
theorem jd.after (pp:jd all pl Z E) {k d:Nat} (hk:k<pl.length) (hd:d∈(opP all pl k).looksAt all) {j:Nat} (h1:k≤j) (h2:j<pl.length):(opP all pl j).dst≠some d:=by
 intro he
 rcases Nat.lt_or_ge k j with h | h
 ·exact(pp.dst k j d h h2 he).1 hd
 ·obtain rfl:k=j:=by omega
  exact pp.self k d hk he hd
theorem Tra.look (T:Tra P po f all pl Z E N ts hs) {k:Nat} (hk:k≤N) (hkl:k<pl.length) {i:Nat} (hki:k≤i) (hi:i≤N):∀ d∈(opP all pl k).looksAt all,(ts i).getD d .junk=(ts N).getD d .junk:=by
 intro d hd
 have:=T.keep d i (N - i) (by omega) (fun j h1 h2=>T.plan.after hkl hd (by omega) (by have:=T.le;omega))
 rw[show i+(N - i)=N by omega]at this
 exact this.symm
theorem Tra.res (T:Tra P po f all pl Z E N ts hs) {k:Nat} (hk:k<N) {v:AV} (hv:ts (k+1)=bu (ts k) (opP all pl k).dst v):uB (ts N) (opP all pl k) v:=by
 intro d hd hlt
 have hl:=T.le
 have:=T.keep d (k+1) (N - (k+1)) (by omega) (fun j h1 h2 he=>(T.plan.dst k j d (by omega) (by omega) he).2 hd)
 rw[show k+1+(N - (k+1))=N by omega]at this
 rw[this,hv]
 exact oQ hd (by rw[T.len k (by omega)];exact hlt)
theorem Tra.at (T:Tra P po f all pl Z E N ts hs) {k:Nat} (hk:k<N):
  (aU all (ts N) (opP all pl k)=some false∧uB (ts N) (opP all pl k) (.tup [])∧hs (k+1)=hs k)∨
  (aU all (ts N) (opP all pl k)=some true∧∃ v,OpF P po f (ts N) (hs k) (opP all pl k) v (hs (k+1))∧uB (ts N) (opP all pl k) v∧kV P all (ts (k+1)) (hs (k+1)) ((ckP pl k).map (opI all))):=by
 have hl:=T.le
 have hlook:=T.look (k:=k) (by omega) (by omega) (Nat.le_refl k) (by omega)
 rcases T.step k hk with⟨h1,h2,h3⟩ | ⟨h1,v,h2,h3,h4⟩
 ·exact .inl ⟨by rw[←fS hlook];exact h1,T.res hk h2,h3⟩
 ·refine .inr ⟨by rw[←fS hlook];exact h1,v,?_,T.res hk h3,h4⟩
  rcases h2 with⟨c1,c2⟩ | ⟨g,args,fn,c1,c2⟩
  ·exact .inl ⟨by rw[←iN hlook];exact c1,by rw[←lT (po.mu f) hlook];exact c2⟩
  ·exact .inr ⟨g,args,fn,by rw[←iN hlook];exact c1,c2⟩
theorem mH {t:List AV} {o:Oper} (hs:bM o=true):aA t o=none:=by
 unfold aA
 split
 ·rename_i ho
  simp[bM,ho]at hs
 ·rfl
theorem OpF.still {t:List AV} {h h':AH} {o:Oper} {v:AV} (ho:OpF P po f t h o v h') (hs:bM o=true):aN P (po.mu f) t h o=some (v,h)∧h'=h:=by
 rcases ho with⟨_,h2⟩ | ⟨g,args,fn,h1,_⟩
 ·have:=yX (po.mu f) hs h2
  subst this
  exact⟨h2,rfl⟩
 ·rw[mH hs]at h1
  cases h1
theorem Tra.same (T:Tra P po f all pl Z E N ts hs) {k:Nat} (hk:k<N) (hst:bM (opP all pl k)=true):hs (k+1)=hs k:=by
 rcases T.at hk with⟨_,_,h⟩ | ⟨_,v,h,_⟩
 ·exact h
 ·exact(h.still hst).2
theorem Tra.late (T:Tra P po f all pl Z E N ts hs) {k:Nat} (hk:k<N) (hst:bM (opP all pl k)=true):n8 P po f all (ts N) (opP all pl k) (hs k):=by
 refine⟨hst,?_⟩
 rcases T.at hk with⟨h1,h2,_⟩ | ⟨h1,v,h2,h3,_⟩
 ·exact .inl ⟨h1,h2⟩
 ·exact .inr ⟨h1,v,(h2.still hst).1,h3⟩
theorem xD {t:List AV} {h:AH} {o:Oper}:∀ {l:List Oper},bM o=true→kV P all t h l→o∈l→aU all t o=some true→∃ ty a d,o.op= .load ty a∧o.dst=some d∧aK (fp P ty) (szA P ty) h (evA t a)=some (t.getD d .junk)
 | x::l,hst,hc,hm,hw=>by
   unfold kV at hc
   rcases List.mem_cons.1 hm with rfl | hm
   ·have:=hc.1
    rw[hw]at this
    simp only at this
    split at this
    ·rename_i ty a d h1 h2
     exact⟨ty,a,d,h1,h2,this⟩
    ·rename_i h1 _
     simp[bM,h1]at hst
    ·exact this.elim
   ·exact xD hst hc.2 hm hw
theorem Tra.turn (T:Tra P po f all pl Z E N ts hs) {i k:Nat} (hik:i<k) (hk:k<N) (hp:¬ xo all E (ixP pl i) (ixP pl k)) (hl:n8 P po f all (ts N) (opP all pl i) (hs k)):n8 P po f all (ts N) (opP all pl i) (hs (k+1)):=by
 have hle:=T.le
 by_cases hst:bM (opP all pl k)=true
 ·rw[T.same hk hst];exact hl
 obtain⟨l1,l2⟩:=hl
 refine⟨l1,?_⟩
 rcases l2 with l2 | ⟨l2,v,l3,l4⟩
 ·exact .inl l2
 refine .inr ⟨l2,?_⟩
 rcases T.plan.load i k hik (by omega)with h | h | h | h
 ·exact absurd h hst
 ·exact⟨v,Cg (po.mu f) l1 h l3 _,l4⟩
 ·exact absurd h hp
 ·rcases T.at hk with⟨_,_,h3⟩ | ⟨_,v',_,_,hck⟩
  ·rw[h3];exact⟨v,l3,l4⟩
  ·have hlook:=T.look (k:=i) (i:=k+1) (by omega) (by omega) (by omega) (by omega)
   obtain⟨ty,a,d,e1,e2,e3⟩:=xD l1 hck (o:=opP all pl i) (List.mem_map.2 ⟨_,h,rfl⟩) (by rw[fS hlook];exact l2)
   have hda:evA (ts (k+1)) a=evA (ts N) a:=lW hlook a (by simp[e1,Op.operands])
   have hdd:(ts (k+1)).getD d .junk=(ts N).getD d .junk:=by
    have:=T.keep d (k+1) (N - (k+1)) (by omega) (fun j h1 h2 he=>(T.plan.dst i j d (by omega) (by omega) he).2 e2)
    rw[show k+1+(N - (k+1))=N by omega]at this
    exact this.symm
   refine⟨(ts N).getD d .junk,?_,fun d' hd' _=> ?_⟩
   ·unfold aN at l3 ⊢
    simp only[e1]at l3 ⊢
    split at l3
    ·cases l3
    ·rename_i hn
     rw[if_neg hn,←hda,e3,hdd]
     rfl
   ·rw[e2]at hd'
    injection hd' with hd'
    rw[hd']
end
open Go Go.RowKit
section
variable {P:Program} {po:Pol} {f:FuncId} {all:Array Oper} {pl:List (Nat×List Nat)} {Z:TypeId→Bool} {E:Nat→Nat→Prop} {N:Nat} {ts:Nat→List AV} {hs:Nat→AH}
 {m m':Mm} {h h':AH} {w w':World} {t τ:List AV} {a:Act} {b:Frame} {cs:List Frame} {K:List Item} {r:AEx×List AV×AH}
def fF (all:Array Oper) (pl:List (Nat×List Nat)) (li:Array Bool) (p:Nat) (d:Nat):Prop:=∀ k,k<pl.length→(opP all pl k).dst=some d→li.getD (ixP pl k) false=true∧k<p
open Classical in
noncomputable def jY (all:Array Oper) (pl:List (Nat×List Nat)) (li:Array Bool) (p:Nat) (τ:List AV):List AV:=(List.range τ.length).map fun d=>if fF all pl li p d then τ.getD d .junk else .junk
theorem bI {li:Array Bool} {p:Nat}:(jY all pl li p τ).length=τ.length:=by simp[jY]
theorem dV {li:Array Bool} {p d:Nat} (hr:fF all pl li p d):(jY all pl li p τ).getD d .junk=τ.getD d .junk:=by
 by_cases hd:d<τ.length
 ·simp[jY,List.getD,hd,hr]
 ·simp[jY,List.getD,hd]
theorem kc {li:Array Bool} {p d:Nat} (hr:¬ fF all pl li p d):(jY all pl li p τ).getD d .junk= .junk:=by
 by_cases hd:d<τ.length
 ·simp[jY,List.getD,hd,hr]
 ·simp[jY,List.getD,hd]
theorem Hp {li li':Array Bool} {p p':Nat} (h:∀ d,fF all pl li p d↔fF all pl li' p' d):jY all pl li p τ=jY all pl li' p' τ:=by
 unfold jY
 congr 1
 funext d
 by_cases hr:fF all pl li p d
 ·rw[if_pos hr,if_pos ((h d).1 hr)]
 ·rw[if_neg hr,if_neg fun x=>hr ((h d).2 x)]
theorem TR.of {m':Mm} {h':AH} {t':List AV} {aS:Array Value} (hl:aS.size=t'.length) (hv:∀ d,d<t'.length→VR P m' h' (t'.getD d .junk) (aS.getD d undef)):TR P m' h' t' aS:=by
 refine⟨hl,fun i hi=> ?_⟩
 have:=hv i hi
 simpa[List.getD,hi]using this
theorem TR.slot {m':Mm} {h':AH} {t':List AV} {aS:Array Value} (ht:TR P m' h' t' aS) {d:Nat} (hd:d<t'.length):VR P m' h' (t'.getD d .junk) (aS.getD d undef):=by
 have:=ht.2 d hd
 simpa[List.getD,hd]using this
theorem Act.put_ne {a:Act} {d:Option Tmp} {u:Value} {j:Nat} (h:d≠some j):(a.put d u).tmps.getD j undef=a.tmps.getD j undef:=by
 cases d with
 | none=>rfl
 | some d=>
   have:d≠j:=fun e=>h (by rw[e])
   simp[Act.put,Array.getD_eq_getD_getElem?,Array.getElem?_setIfInBounds_ne this]
theorem bH {li:Array Bool} {i j:Nat} (hi:i<li.size):(li.setIfInBounds i true).getD j false=if j=i then true else li.getD j false:=by
 by_cases hj:j=i
 ·subst hj
  simp[Array.getD_eq_getD_getElem?,hi]
 ·simp[Array.getD_eq_getD_getElem?,hj,Array.getElem?_setIfInBounds_ne (Ne.symm hj)]
theorem HH (pp:jd all pl Z E) {li:Array Bool} {p p' k:Nat} (hk:k<pl.length) (hli:ixP pl k<li.size) (hpp:p≤p') (hno:∀ j,p≤j→j<p'→j≠k→li.getD (ixP pl j) false=false) (x:Ext m h m' h') (ht:TR P m h (jY all pl li p τ) a.tmps)
  {v:AV} {u:Value} (hv:VR P m' h' v u) (hres:uB τ (opP all pl k) v):
  TR P m' h' (jY all pl (li.setIfInBounds (ixP pl k) true) p' τ) (a.put (opP all pl k).dst u).tmps:=by
 have h1:=(ht.ext x).put (a:=a) hv (opP all pl k).dst
 have hlen:(a.put (opP all pl k).dst u).tmps.size=τ.length:=by rw[h1.1,qN,bI]
 refine TR.of (by rw[hlen,bI]) fun d hd=> ?_
 have hd':d<τ.length:=by rw[bI]at hd;exact hd
 have h2:=h1.slot (d:=d) (by rw[qN,bI];exact hd')
 by_cases hr:fF all pl (li.setIfInBounds (ixP pl k) true) p' d
 ·rw[dV hr]
  by_cases he:(opP all pl k).dst=some d
  ·rw[oQ he (by rw[bI];exact hd')]at h2
   rw[hres d he hd']
   exact h2
  ·rw[kM he,dV (fun j hj hdj=> ?_)]at h2
   ·exact h2
   ·obtain⟨r1,r2⟩:=hr j hj hdj
    rw[bH hli]at r1
    have hjk:j≠k:=fun e=>he (by rw[←e];exact hdj)
    have hne:ixP pl j≠ixP pl k:=by
     intro e
     rcases Nat.lt_trichotomy j k with h | h | h
     ·exact pp.ne j k h hk e
     ·exact hjk h
     ·exact pp.ne k j h hj e.symm
    rw[if_neg hne]at r1
    refine⟨r1,?_⟩
    rcases Nat.lt_or_ge j p with h | h
    ·exact h
    ·rw[hno j h r2 hjk]at r1
     cases r1
 ·rw[kc hr]
  exact .junk _
theorem qJ (pp:jd all pl Z E) {li:Array Bool} (hcl:∀ j,j<all.size→li.getD j false=true→∀ e∈(opI all j).after,Region.binds .any e=true→li.getD e.on false=true):
  ∀ j,j<all.size→(∀ e∈(opI all j).after,Region.binds .any e=true→li.getD e.on false=true)→∀ i,i<all.size→kW (Region.before all) i j=true→li.getD i false=true:=by
 intro j
 induction j using Nat.strongRecOn with
 | ind j ih=>
   intro hj he i hi hp
   obtain⟨e,e1,e2,e3⟩:=pp.mask j i hj hi hp
   have hlt:=pp.edges j hj e e1 e2
   rcases e3 with e3 | e3
   ·rw[←e3];exact he e e1 e2
   ·exact ih e.on hlt (by omega) (hcl e.on (by omega) (he e e1 e2)) i hi e3
theorem kF {i:Nat} (hi:i<all.size):all[i]? =some (opI all i):=by
 simp[opI,hi]
theorem Act.put_defers' (a:Act) (x:Option Tmp) (v:Value):(a.put x v).defers=a.defers:=by cases x<;>rfl
theorem GE (pp:jd all pl Z E) {li:Array Bool} {p k:Nat} (hk:k<pl.length) (hkp:k≤p) (hpre:∀ j,j<pl.length→xo all E (ixP pl j) (ixP pl k)→li.getD (ixP pl j) false=true):
  ∀ d∈(opP all pl k).looksAt all,(jY all pl li p τ).getD d .junk=τ.getD d .junk:=by
 intro d hd
 refine dV fun j hj hdj=> ?_
 rcases Nat.lt_or_ge j k with h | h
 ·exact⟨hpre j hj (pp.data j k d h hk hdj hd),by omega⟩
 ·exact absurd hdj (pp.after hk hd h hj)
def Mm.jkd (m:Mm) (J:Nat→Option Obj):Mm:={m with jk:=J}
theorem VR.jkd {J:Nat→Option Obj} {v:AV} {u:Value} (r:VR P m h v u):VR P (m.jkd J) h v u:=by
 induction r with
 | junk v=>exact .junk v
 | bool b=>exact .bool b
 | int k n=>exact .int k n
 | str l=>exact .str l
 | nilp=>exact .nilp
 | ptr b i off hb=>exact VR.ptr (m:=m.jkd J) b i off hb
 | tptr t b hb ht=>exact VR.tptr (m:=m.jkd J) t b hb ht
 | ip e off g o F hi hv ih=>exact VR.ip (m:=m.jkd J) e off g o F hi ih
 | nils=>exact .nils
 | isl id e es g o cap F hl hi hv hc ht ih=>exact VR.isl (m:=m.jkd J) id e es g o cap F hl hi ih hc ht
 | isl0 e a cap=>exact .isl0 e a cap
 | msl b o n e cap hb he hcap hn hmx=>exact VR.msl (m:=m.jkd J) b o n e cap hb he hcap hn hmx
 | fn g l c l' c' h1 h2 h3 h4 ih1 ih2=>exact .fn g l c l' c' h1 h2 ih1 ih2
 | nilf=>exact .nilf
 | nili=>exact .nili
 | iface t v v' h1 ih=>exact .iface t v v' ih
 | agg l l' h1 h3 ih=>exact .agg l l' h1 ih
 | tup l l' h1 h3 ih=>exact .tup l l' h1 ih
theorem TR.jkd {J:Nat→Option Obj} {tm:Array Value} (r:TR P m h t tm):TR P (m.jkd J) h t tm:=⟨r.1,fun i hi=>(r.2 i hi).jkd⟩
theorem Ext.jkd (x:Ext m h m' h') (J:Nat→Option Obj):Ext (m.jkd J) h (m'.jkd J) h':=⟨x.base,x.n,x.ids,x.blk,x.imm,x.te,fun _ _ h=>h⟩
theorem VR.by {J:Nat→Option Obj} (x:Ext (m.jkd J) h (m'.jkd J) h') {v:AV} {u:Value} (r:VR P m h v u):VR P m' h' v u:=((r.jkd (J:=J)).ext x).jkd (J:=m'.jk)
theorem WR.jkd (hw:WR P m h w) {J:Nat→Option Obj} (hJ:∀ g x,J g=some x→m.jk g=some x):WR P (m.jkd J) h w where
 size:=hw.size
 lt:=hw.lt
 live:=fun b es hb=>by
  obtain⟨cs,h1,h2,h3,h4,h5⟩:=hw.live b es hb
  exact⟨cs,h1,h2,h3,h4,fun i hi j hj=>by
   obtain⟨v,a,b⟩:=h5 i hi j hj
   exact⟨v,a,b.jkd⟩⟩
 inj:=hw.inj
 imm:=hw.imm
 sep:=hw.sep
 tip:=hw.tip
 tfree:=hw.tfree
 tblk:=hw.tblk
 tinj:=hw.tinj
 good:=hw.good
 jk:=fun g x hx=>hw.jk g x (hJ g x hx)
theorem WR.junk (hw:WR P m h w) (o:Obj):WR P (m.jkd fun g=>if g=w.heap.size then some o else m.jk g) h (w.alloc o):=by
 have hw1:=hw.new ((gi.refl _ w).alloc o)
 refine{hw1 with live:=fun b es hb=> ?_,jk:=fun g x hx=> ?_}
 ·obtain⟨cs,h1,h2,h3,h4,h5⟩:=hw1.live b es hb
  exact⟨cs,h1,h2,h3,h4,fun i hi j hj=>by
   obtain⟨v,a,b⟩:=h5 i hi j hj
   exact⟨v,a,b.jkd⟩⟩
 ·have hx:(if g=w.heap.size then some o else m.jk g)=some x:=hx
  by_cases e:g=w.heap.size
  ·rw[if_pos e]at hx
   injection hx with hx
   subst hx;subst e
   refine⟨hw.size,(by show(w.heap.push o)[w.heap.size]? =some o;simp),fun b es hb e=> ?_,fun k hk e=> ?_,fun o'=> ?_⟩
   ·have:=hw.below hb
    have e:m.blk b=w.heap.size:=e
    omega
   ·have:=(hw.tip_lt hk).2
    have e:m.tg k=w.heap.size:=e
    omega
   ·show m.imm w.heap.size o'=none
    rcases hi:m.imm w.heap.size o' with _ | v
    ·rfl
    ·have:=hw.imm_lt hi
     omega
  ·rw[if_neg e]at hx
   exact hw1.jk g x hx
theorem WR.adopt (hw:WR P m h w) {z:Nat} {e:TypeId} {zl:List AV} {u:Array Value} (hz:m.jk z=some (.cells u e)) (hu:u.size=zl.length) (hl:zl.length=P.cellsOf e) (hr:VRs P m h zl u.toList):
  ∃ m',(∀ J,Ext (m.jkd J) h (m'.jkd J) (h.push [zl]))∧WR P m' (h.push [zl]) w∧m'.blk h.n=z∧m'.bt h.n=e∧m'.jk=fun g=>if g=z then none else m.jk g:=by
 obtain⟨z1,z2,z3,z4,z5⟩:=hw.jk z _ hz
 refine⟨{m with blk:=fun b=>if b=h.n then z else m.blk b,bt:=fun b=>if b=h.n then e else m.bt b,bsz:=fun b=>if b=h.n then u.size else m.bsz b,jk:=fun g=>if g=z then none else m.jk g},?_,?_,by simp,by simp,rfl⟩
 ·exact fun J=>⟨rfl,by simp[AH.push],by simp[AH.push],fun b hb=>by simp[Mm.jkd,show b≠h.n by omega],fun _ _ _ h=>h,fun k hk=>⟨rfl,Nat.le_refl _,fun _=>⟨rfl,rfl⟩⟩,fun _ _ h=>h⟩
 ·have hx:∀ J,Ext (m.jkd J) h (Mm.jkd {m with blk:=fun b=>if b=h.n then z else m.blk b,bt:=fun b=>if b=h.n then e else m.bt b,bsz:=fun b=>if b=h.n then u.size else m.bsz b,jk:=fun g=>if g=z then none else m.jk g} J) (h.push [zl]):=
   fun J=>⟨rfl,by simp[AH.push],by simp[AH.push],fun b hb=>by simp[Mm.jkd,show b≠h.n by omega],fun _ _ _ h=>h,fun k hk=>⟨rfl,Nat.le_refl _,fun _=>⟨rfl,rfl⟩⟩,fun _ _ h=>h⟩
  have old:∀ b x,(h.push [zl]).cell b=some x→b≠h.n→h.cell b=some x:=by
   intro b x hb hne
   simpa[AH.push,hne]using hb
  have new:∀ b x,(h.push [zl]).cell b=some x→b=h.n→x=[zl]:=by
   intro b x hb he
   subst he
   simp[AH.push]at hb
   exact hb.symm
  refine⟨hw.size,fun b x hb=> ?_,fun b x hb=> ?_,fun b b' x x' hb hb' he=> ?_,hw.imm,fun b x hb o=> ?_,hw.tip,hw.tfree,fun k hk b x hb=> ?_,hw.tinj,hw.good,fun g x hj=> ?_⟩
  ·by_cases hbn:b=h.n
   ·subst hbn
    exact⟨by simp[AH.push],by simpa using z1⟩
   ·have:=hw.lt b x (old b x hb hbn)
    exact⟨by simp[AH.push];omega,by simpa[hbn]using this.2⟩
  ·by_cases hbn:b=h.n
   ·subst hbn
    have:=new _ _ hb rfl
    subst this
    refine⟨u,by simpa[Blk]using z2,by simp,by simpa using hl,by simp;omega,fun i hi j hj=> ?_⟩
    have hi0:i=0:=by simpa using hi
    subst hi0
    have hj':j<zl.length:=by simpa using hj
    refine⟨u[j]'(by omega),by simp,?_⟩
    have:=hr.2 j hj' (by simp;omega)
    exact VR.by (hx fun _=>none) (by simpa using this)
   ·obtain⟨cs',h1,h2,h3,h4,h5⟩:=hw.live b x (old b x hb hbn)
    refine⟨cs',by simpa[hbn]using h1,by simpa[hbn]using h2,by simpa[hbn]using h3,by simpa[hbn]using h4,fun i hi j hj=> ?_⟩
    obtain⟨v,h6,h7⟩:=h5 i hi j hj
    exact⟨v,by simpa[hbn]using h6,VR.by (hx fun _=>none) h7⟩
  ·by_cases h1:b=h.n<;>by_cases h2:b'=h.n
   ·omega
   ·simp[h1,h2]at he
    exact absurd he.symm (z3 _ _ (old _ _ hb' h2))
   ·simp[h1,h2]at he
    exact absurd he (z3 _ _ (old _ _ hb h1))
   ·simp[h1,h2]at he
    exact hw.inj b b' x x' (old _ _ hb h1) (old _ _ hb' h2) he
  ·by_cases h1:b=h.n
   ·simp only[h1,if_true]
    exact z5 o
   ·simp only[h1,if_false]
    exact hw.sep b x (old _ _ hb h1) o
  ·by_cases h1:b=h.n
   ·simp only[h1,if_true]
    exact fun e=>z4 k hk e.symm
   ·simp only[h1,if_false]
    exact hw.tblk k hk b x (old _ _ hb h1)
  ·have hj:(if g=z then none else m.jk g)=some x:=hj
   by_cases e1:g=z
   ·rw[if_pos e1]at hj
    cases hj
   ·rw[if_neg e1]at hj
    obtain⟨a1,a2,a3,a4,a5⟩:=hw.jk g x hj
    refine⟨a1,a2,fun b y hb=> ?_,a4,a5⟩
    by_cases h1:b=h.n
    ·simp only[h1,if_true]
     exact fun e=>e1 e.symm
    ·simp only[h1,if_false]
     exact a3 b y (old _ _ hb h1)
def K2 (P:Program) (all:Array Oper) (pl:List (Nat×List Nat)) (J0:Nat→Option Obj) (a:Act) (m:Mm) (z k:Nat):Prop:=
 ∃ e d zl u,(opP all pl k).op= .alloc e∧(opP all pl k).guard=none∧(opP all pl k).dst=some d∧dC P e=some zl∧u.size=zl.length∧zl.length=P.cellsOf e∧(∀ m h,VRs P m h zl u.toList)∧J0 z=none∧m.jk z=some (.cells u e)∧
   (d<a.tmps.size→a.tmps.getD d undef= .pointer (some ⟨z,0,none⟩))
theorem lI {Z:TypeId→Bool} {o:Oper} (hn:lP Z o=true):∃ e d,o.op= .alloc e∧o.guard=none∧o.dst=some d∧Z e=true:=by
 unfold lP at hn
 split at hn
 ·rename_i e d h1 h2 h3
  exact⟨e,d,h1,h2,h3,hn⟩
 ·cases hn
theorem Di {Z:TypeId→Bool} {o:Oper} (hn:lP Z o=true):bM o=false:=by
 obtain⟨e,d,h1,_⟩:=lI hn
 simp[bM,h1]
theorem CM (hT:kY P) (o:Oper) (e:TypeId) (ho:o.op= .alloc e) {z:List AV} (hz:dC P e=some z) (a:Act) (w:World):
  ∃ u:Array Value,(execOp a.eval o).run P w= .ok (.value (.pointer (some ⟨w.heap.size,0,none⟩))) (w.alloc (.cells u e))∧u.size=z.length∧z.length=P.cellsOf e∧∀ m h,VRs P m h z u.toList:=by
 obtain⟨i,v,hi,hv,hl,hs,hr,hrun⟩:=di (m:=⟨0,fun _=>0,fun _=>0,fun _=>0,fun _ _=>none,fun _=>0,fun _=>0,fun _=>0,fun _=>none⟩) (h:=⟨0,fun _=>none,0,fun _=>0⟩) (w:=w) hT hz
 refine⟨v.cells,by simp[execOp,ho,Instr.alloc,hrun,newVar,newRow],by omega,hl,fun m h=> ?_⟩
 obtain⟨i2,v2,hi2,hv2,_,_,hr2,_⟩:=di (m:=m) (h:=h) (w:=w) hT hz
 rw[hi]at hi2
 injection hi2 with hi2
 subst hi2
 rw[hv]at hv2
 injection hv2 with hv2
 rw[hv2]
 exact hr2
inductive gy (all:Array Oper) (E:Nat→Nat→Prop):Array Bool→List Nat→Prop
 | nil (li:Array Bool):(∀ i,i<all.size→li.getD i false=true)→gy all E li []
 | cons (li:Array Bool) (i:Nat) (L:List Nat):i<all.size→li.getD i false=false→(∀ e∈(opI all i).after,Region.binds .any e=true→li.getD e.on false=true)→(∀ j,E j i→li.getD j false=true)→
   gy all E (li.setIfInBounds i true) L→gy all E li (i::L)
theorem z7 (hedge:∀ j,j<all.size→∀ e∈(opI all j).after,Region.binds .any e=true→e.on<j):∀ (fuel u:Nat) (li:Array Bool),li.size=all.size→li.toList.countP (fun x=> !x)≤fuel→
  gy all (fun _ _=>False) li (Region.linearise.go .any all fuel u li []):=by
 intro fuel
 induction fuel with
 | zero=>
   intro u li hsz hf
   simp only[Region.linearise.go,List.reverse_nil]
   refine .nil _ fun i hi=> ?_
   have:=List.countP_eq_zero.1 (Nat.le_zero.1 hf) (li[i]'(by omega)) (by simp)
   have hil:i<li.size:=by omega
   simpa[Array.getD_eq_getD_getElem?,hil]using this
 | succ fuel ih=>
   intro u li hsz hf
   simp only[Region.linearise.go]
   change gy all _ li (match(Region.ready .any all li)[u % (Region.ready .any all li).length]? with
    | some i=>Region.linearise.go .any all fuel (u / (Region.ready .any all li).length) (li.setIfInBounds i true) [i]
    | none=>[].reverse)
   cases hi:(Region.ready .any all li)[u % (Region.ready .any all li).length]? with
   | none=>
     have hnil:Region.ready .any all li=[]:=by
      cases hr:Region.ready .any all li with
      | nil=>rfl
      | cons x xs=>
        rw[hr]at hi
        have hlt:u % (x::xs).length<(x::xs).length:=Nat.mod_lt _ (by simp)
        simp at hi
        simp at hlt
        omega
     simp only[List.reverse_nil]
     refine .nil _ ?_
     intro i
     induction i using Nat.strongRecOn with
     | ind i ihi=>
       intro hi'
       rcases hx:li.getD i false with _ | _
       ·have hin:i∈Region.ready .any all li:=by
         rw[mem_ready]
         have hil:i<li.size:=by omega
         exact⟨by simpa[Array.getD_eq_getD_getElem?,hil]using hx,opI all i,kF hi',fun e he hb=>ihi e.on (hedge i hi' e he hb) (by have:=hedge i hi' e he hb;omega)⟩
        rw[hnil]at hin
        cases hin
       ·rfl
   | some i=>
     simp only[]
     rw[linearise_go_acc,List.reverse_singleton,List.singleton_append]
     have hin:=List.mem_of_getElem? hi
     rw[mem_ready]at hin
     obtain⟨hnl,o,ho,hed⟩:=hin
     have hi':i<all.size:=(Array.getElem?_eq_some_iff.1 ho).1
     have ho':opI all i=o:=by simp[opI,Array.getD_eq_getD_getElem?,ho]
     have hil:i<li.size:=by omega
     have hnf:li.getD i false=false:=by simpa[Array.getD_eq_getD_getElem?,hil]using hnl
     refine .cons _ _ _ hi' hnf (by rw[ho'];exact hed) (fun _ h=>h.elim) (ih _ _ (by simpa using hsz) ?_)
     have hz:(li.toList)[i]'(by simpa using hil)=false:=by
      simpa[Array.getD_eq_getD_getElem?,hil]using hnf
     have:=List.countP_set (p:=fun x=> !x) (l:=li.toList) (i:=i) (a:=true) (by simpa using hil)
     simp only[hz,Bool.not_false,Bool.not_true,if_true,Bool.false_eq_true,if_false,Nat.add_zero]at this
     simp only[Array.toList_setIfInBounds]
     omega
structure zd (P:Program) (po:Pol) (f:FuncId) (all:Array Oper) (pl:List (Nat×List Nat)) (Z:TypeId→Bool) (E:Nat→Nat→Prop) (N:Nat) (ts:Nat→List AV) (hs:Nat→AH) (b:Frame) (J0:Nat→Option Obj) (li:Array Bool) (p:Nat) (ζ:Nat→Nat) (m:Mm) (a:Act) (w:World):Prop where
 le:p≤N
 sz:li.size=all.size
 cl:∀ j,j<all.size→li.getD j false=true→∀ e∈(opI all j).after,Region.binds .any e=true→li.getD e.on false=true
 clE:∀ j,j<all.size→li.getD j false=true→∀ i,E i j→li.getD i false=true
 l1:∀ k,k<pl.length→li.getD (ixP pl k) false=true→k<p∨lP Z (opP all pl k)=true
 l2:∀ k,k<p→li.getD (ixP pl k) false=false→n8 P po f all (ts N) (opP all pl k) (hs p)
 l3:∀ k,p≤k→k<pl.length→li.getD (ixP pl k) false=true→K2 P all pl J0 a m (ζ k) k
 inj:∀ k k',p≤k→p≤k'→k<pl.length→k'<pl.length→li.getD (ixP pl k) false=true→li.getD (ixP pl k') false=true→ζ k=ζ k'→k=k'
 w:WR P m (hs p) w
 t:TR P m (hs p) (jY all pl li p (ts N)) a.tmps
 d:a.defers=b.defers
 j:∀ g x,J0 g=some x→m.jk g=some x
theorem zd.pre {J0:Nat→Option Obj} {li:Array Bool} {p:Nat} {ζ:Nat→Nat} (T:Tra P po f all pl Z E N ts hs) (I:zd P po f all pl Z E N ts hs b J0 li p ζ m a w) {i j:Nat} (hi:i<pl.length) (hj:j<pl.length) (hl:li.getD (ixP pl j) false=true) (hp:xo all E (ixP pl i) (ixP pl j)):li.getD (ixP pl i) false=true:=
 hp.elim (qJ T.plan I.cl _ (T.plan.lt j hj) (I.cl _ (T.plan.lt j hj) hl) _ (T.plan.lt i hi)) (I.clE _ (T.plan.lt j hj) hl _)
theorem zd.adv {J0:Nat→Option Obj} {li:Array Bool} {p:Nat} {ζ:Nat→Nat} (T:Tra P po f all pl Z E N ts hs) (I:zd P po f all pl Z E N ts hs b J0 li p ζ m a w):
  ∀ n,p+n≤N→(∀ j,p≤j→j<p+n→li.getD (ixP pl j) false=false→bM (opP all pl j)=true)→∃ m1,Ext (m.jkd J0) (hs p) (m1.jkd J0) (hs (p+n))∧zd P po f all pl Z E N ts hs b J0 li (p+n) ζ m1 a w:=by
 intro n
 induction n with
 | zero=>exact fun _ _=>⟨m,Ext.refl _ _,I⟩
 | succ n ih=>
   intro hle hst
   obtain⟨m1,x1,I1⟩:=ih (by omega) fun j h1 h2=>hst j h1 (by omega)
   have hle':=T.le
   have hq:p+n<N:=by omega
   rcases hx:li.getD (ixP pl (p+n)) false with _ | _
   ·have hs1:=hst (p+n) (by omega) (by omega) hx
    have hsame:=T.same hq hs1
    rw[←Nat.add_assoc,hsame]
    refine⟨m1,x1,⟨by omega,I1.sz,I1.cl,I1.clE,fun k hk hl=>(I1.l1 k hk hl).imp (fun h=>by omega) id,fun k hk hn=> ?_,fun k hk=>I1.l3 k (by omega),fun k k' hk hk'=>I1.inj k k' (by omega) (by omega),by rw[hsame];exact I1.w,?_,I1.d,I1.j⟩⟩
    ·rw[hsame]
     rcases Nat.lt_or_ge k (p+n)with h | h
     ·exact I1.l2 k h hn
     ·obtain rfl:k=p+n:=by omega
      exact T.late hq hs1
    ·rw[hsame,Hp (li':=li) (p':=p+n) fun d=>⟨fun hr k hk hd=> ?_,fun hr k hk hd=>⟨(hr k hk hd).1,by have:=(hr k hk hd).2;omega⟩⟩]
     ·exact I1.t
     ·obtain⟨r1,r2⟩:=hr k hk hd
      refine⟨r1,?_⟩
      have:k≠p+n:=fun e=>by rw[e,hx]at r1;cases r1
      omega
   ·obtain⟨e,d,zl,u,o1,o2,o3,o4,o5,o6,o7,o8,o9,o10⟩:=I1.l3 (p+n) (Nat.le_refl _) (by omega) hx
    rcases T.at hq with⟨a1,_⟩ | ⟨_,v,a2,a3,_⟩
    ·simp[aU,o2]at a1
    rcases a2 with⟨_,a2⟩ | ⟨g,args,fn,c1,_⟩
    ·unfold aN at a2
     rw[o1]at a2
     simp only[o4,Option.map_some,Option.some.injEq,Prod.mk.injEq]at a2
     obtain⟨v1,v2⟩:=a2
     obtain⟨m2,y1,y2,y3,y4,y5⟩:=I1.w.adopt o9 o5 o6 (o7 m1 _)
     rw[v2]at y1 y2
     have hnn:(hs (p+n)).n<(hs (p+n+1)).n:=by rw[←v2];simp[AH.push]
     rw[←Nat.add_assoc]
     refine⟨m2,x1.trans (y1 J0),⟨by omega,I1.sz,I1.cl,I1.clE,fun k hk hl=>(I1.l1 k hk hl).imp (fun h=>by omega) id,fun k hk hn=> ?_,fun k hk hkl hl=> ?_,fun k k' hk hk'=>I1.inj k k' (by omega) (by omega),y2,?_,I1.d,fun g x hg=> ?_⟩⟩
     ·have hkq:k≠p+n:=fun e=>by rw[e,hx]at hn;cases hn
      exact T.turn (by omega) hq (fun hp=>by
       have:=I1.pre T (by omega) (by omega) hx hp
       rw[hn]at this
       cases this) (I1.l2 k (by omega) hn)
     ·obtain⟨e',d',zl',u',p1,p2,p3,p4,p5,p6,p7,p8,p9,p10⟩:=I1.l3 k (by omega) hkl hl
      refine⟨e',d',zl',u',p1,p2,p3,p4,p5,p6,p7,p8,?_,p10⟩
      rw[y5]
      simp only
      rw[if_neg fun e=>by
       have:=I1.inj k (p+n) (by omega) (Nat.le_refl _) hkl (by omega) hl hx e
       omega]
      exact p9
     ·refine TR.of (by rw[I1.t.1,bI,bI]) fun q hq'=> ?_
      have hql:q<(ts N).length:=by rw[bI]at hq';exact hq'
      by_cases hr:fF all pl li (p+n+1) q
      ·rw[dV hr]
       by_cases hqd:q=d
       ·subst hqd
        rw[a3 q o3 hql,o10 (by rw[I1.t.1,bI];exact hql),←v1]
        split
        ·have:=VR.tptr (P:=P) (m:=m2) (h:=hs (p+n+1)) e (hs (p+n)).n hnn y4
         rwa [y3]at this
        ·have:=VR.ptr (P:=P) (m:=m2) (h:=hs (p+n+1)) (hs (p+n)).n 0 0 hnn
         rw[y3]at this
         simpa using this
       ·have hr1:fF all pl li (p+n) q:=fun k hk hd=>by
         obtain⟨r1,r2⟩:=hr k hk hd
         refine⟨r1,?_⟩
         have:k≠p+n:=fun e=>by
          rw[e,o3]at hd
          injection hd with hd
          exact hqd hd.symm
         omega
        have:=I1.t.slot (d:=q) (by rw[bI];exact hql)
        rw[dV hr1]at this
        exact VR.by (y1 J0) this
      ·rw[kc hr]
       exact .junk _
     ·rw[y5]
      simp only
      rw[if_neg fun e=>by rw[e,o8]at hg;cases hg]
      exact I1.j g x hg
    ·simp[aA,o1]at c1
theorem xG {o:Oper} {t:List AV} {h h':AH} {v:AV} (hn:lP Z o=true) (hs:pq P all o t h v h'):False:=by
 obtain⟨e,d,h1,_⟩:=lI hn
 obtain⟨_,⟨h2,_⟩ | ⟨g,args,fn,h2,_⟩⟩:=hs
 ·simp[jl,h1]at h2
 ·simp[aA,h1]at h2
theorem wn {S:Nat→Bool} {J0:Nat→Option Obj} (hS:∀ d,S d=true→∀ k,k<pl.length→(opP all pl k).dst≠some d) (pok:POK P po) (hZ:∀ e,Z e=true→(dC P e).isSome=true) (T:Tra P po f all pl Z E N ts hs)
  (hall:N=pl.length∨∃ v h',N<pl.length∧pq P all (opP all pl N) (ts N) (hs N) v h'∧r=(.panic v,ts N,h'))
  (hdone:N=pl.length→∀ m1 w1 a1,WR P m1 (hs N) w1→TR P m1 (hs N) (ts N) a1.tmps→a1.defers=b.defers→bK P S m1 (hs N) w1 b cs (lone (b.at a1 K) cs w1) r):
  ∀ (L:List Nat) (li:Array Bool) (p:Nat) (ζ:Nat→Nat) (m:Mm) (a:Act) (w:World),gy all E li L→zd P po f all pl Z E N ts hs b J0 li p ζ m a w→
    bK P S (m.jkd J0) (hs p) w b cs (lone (b.at a (.inRegion all L::K)) cs w) r:=by
 have pp:=T.plan
 have hle:=T.le
 intro L
 induction L with
 | nil=>
   intro li p ζ m a w hord I
   have hall':∀ i,i<all.size→li.getD i false=true:=by
    cases hord with
    | nil _ h=>exact h
   have hN:N=pl.length:=by
    rcases hall with h | ⟨v,h',h3,h4,_⟩
    ·exact h
    ·rcases I.l1 N h3 (hall' _ (pp.lt N h3))with h | h
     ·have:=I.le;omega
     ·exact(xG h h4).elim
   have hp:=I.le
   obtain⟨m1,x1,I1⟩:=I.adv T (N - p) (by omega) fun j h1 h2 hn=>by
    rw[hall' _ (pp.lt j (by omega))]at hn
    cases hn
   rw[show p+(N - p)=N by omega]at x1 I1
   have hmx:jY all pl li N (ts N)=ts N:=by
    apply List.ext_getElem (by rw[bI])
    intro d h3 h4
    have:=dV (all:=all) (pl:=pl) (li:=li) (p:=N) (τ:=ts N) (d:=d) (fun k hk _=>⟨hall' _ (pp.lt k hk),by omega⟩)
    simpa[List.getD,h3,h4]using this
   have ht:=I1.t
   rw[hmx]at ht
   exact bK.steps (.one step_region_end) (bK.after x1 (Below.refl _ _) (hdone hN _ w a (I1.w.jkd I1.j) ht.jkd I1.d))
 | cons i L ih=>
   intro li p ζ m a w hord I
   cases hord with
   | cons _ _ _ hi' hnf hed hE hrest=>
   obtain⟨o,ho'⟩:∃ o,opI all i=o:=⟨_,rfl⟩
   have ho:all[i]? =some o:=by rw[←ho'];exact kF hi'
   rw[ho']at hed
   obtain⟨k,hk,rfl⟩:=pp.cover i hi'
   have hok:opP all pl k=o:=ho'
   have hil:ixP pl k<li.size:=by rw[I.sz];exact hi'
   have hpre:=qJ pp I.cl (ixP pl k) hi' (by rw[ho'];exact hed)
   have hpre':∀ j,j<pl.length→xo all E (ixP pl j) (ixP pl k)→li.getD (ixP pl j) false=true:=fun j hj h=>h.elim (hpre _ (pp.lt j hj)) (hE _)
   have hne:∀ j,j<pl.length→j≠k→ixP pl j≠ixP pl k:=by
    intro j hj hjk e
    rcases Nat.lt_or_ge j k with h | h
    ·exact pp.ne j k h hk e
    ·exact pp.ne k j (by omega) hj e.symm
   have cl':∀ j,j<all.size→(li.setIfInBounds (ixP pl k) true).getD j false=true→∀ e∈(opI all j).after,Region.binds .any e=true→(li.setIfInBounds (ixP pl k) true).getD e.on false=true:=by
    intro j hj hjl e he hb
    rw[bH hil]at hjl
    by_cases hji:j=ixP pl k
    ·subst hji
     exact getD_set_true (hed e (by rw[←ho'];exact he) hb)
    ·rw[if_neg hji]at hjl
     exact getD_set_true (I.cl j hj hjl e he hb)
   have clE':∀ j,j<all.size→(li.setIfInBounds (ixP pl k) true).getD j false=true→∀ i,E i j→(li.setIfInBounds (ixP pl k) true).getD i false=true:=by
    intro j hj hjl i he
    rw[bH hil]at hjl
    by_cases hji:j=ixP pl k
    ·subst hji
     exact getD_set_true (hE i he)
    ·rw[if_neg hji]at hjl
     exact getD_set_true (I.clE j hj hjl i he)
   by_cases hnews:lP Z (opP all pl k)=true
   ·-- a variable is laid
    obtain⟨e,d,o1,o2,o3,o4⟩:=lI hnews
    have hkp:p≤k:=by
     rcases Nat.lt_or_ge k p with h | h
     ·have:=(I.l2 k h hnf).1
      rw[Di hnews]at this
      cases this
     ·exact h
    obtain⟨zl,hz⟩:=Option.isSome_iff_exists.1 (hZ e o4)
    obtain⟨u,u1,u2,u3,u4⟩:=CM pok.ty (opP all pl k) e o1 hz a w
    have hwa:Region.wanted o (yielded all a.tmps)=true:=by
     have:=dq I.t all (opP all pl k) (x:=true) (by simp[aU,o2])
     rwa [hok]at this
    rw[hok]at u1
    refine bK.steps (lF ho hwa (.inl u1)) ?_
    refine bK.after (w1:=w.alloc (.cells u e)) (m1:=(m.jkd fun g=>if g=w.heap.size then some (.cells u e)else m.jk g).jkd J0) (h1:=hs p) (Ext.refl (m.jkd J0) _) ((Below.refl _ _).alloc I.w.size (.cells u e)) ?_
    have hjn:∀ g x,J0 g=some x→g≠w.heap.size:=fun g x hg e=>by
     have:=I.w.jk_lt (I.j g x hg)
     omega
    have hdd:∀ j d',j<pl.length→j≠k→(opP all pl j).dst=some d'→d'≠d:=by
     intro j d' hj hjk hd e
     subst e
     rcases Nat.lt_or_ge j k with h | h
     ·exact(pp.dst j k d' h hk o3).2 hd
     ·exact(pp.dst k j d' (by omega) hj hd).2 o3
    rw[←hok,o3]
    refine ih _ p (fun j=>if j=k then w.heap.size else ζ j) _ _ _ hrest ⟨I.le,by simpa using I.sz,cl',clE',fun j hj hl=> ?_,fun j hj hl=> ?_,fun j hj hjl hl=> ?_,fun j j' hj hj' hjl hjl' hl hl' he=> ?_,I.w.junk _,?_,by rw[Act.put_defers'];exact I.d,fun g x hg=> ?_⟩
    ·by_cases hjk:j=k
     ·subst hjk
      exact .inr hnews
     ·rw[bH hil,if_neg (hne j hj hjk)]at hl
      exact I.l1 j hj hl
    ·have hjk:j≠k:=by omega
     rw[bH hil,if_neg (hne j (by have:=I.le;omega) hjk)]at hl
     exact I.l2 j hj hl
    ·by_cases hjk:j=k
     ·subst hjk
      refine⟨e,d,zl,u,o1,o2,o3,hz,u2,u3,u4,?_,?_,fun hd=> ?_⟩
      ·rw[if_pos rfl]
       rcases hx:J0 w.heap.size with _ | x
       ·rfl
       ·exact absurd rfl (hjn _ x hx)
      ·simp[Mm.jkd]
      ·simp[Act.put]at hd
       simp[Act.put,Array.getD_eq_getD_getElem?,hd]
     ·rw[bH hil,if_neg (hne j hjl hjk)]at hl
      obtain⟨e',d',zl',u',p1,p2,p3,p4,p5,p6,p7,p8,p9,p10⟩:=I.l3 j hj hjl hl
      have hlt:=I.w.jk_lt p9
      refine⟨e',d',zl',u',p1,p2,p3,p4,p5,p6,p7,by rw[if_neg hjk];exact p8,?_,fun hd=> ?_⟩
      ·rw[if_neg hjk]
       show(if ζ j=w.heap.size then _ else m.jk (ζ j))=_
       rw[if_neg (by omega)]
       exact p9
      ·rw[if_neg hjk,Act.put_ne fun e=>hdd j d' hjl hjk p3 (by injection e with e;exact e.symm)]
       exact p10 (by simpa[Act.put]using hd)
    ·have hz':∀ q,p≤q→q<pl.length→q≠k→(li.setIfInBounds (ixP pl k) true).getD (ixP pl q) false=true→ζ q<w.heap.size:=fun q h1 h2 h3 h4=>by
      rw[bH hil,if_neg (hne q h2 h3)]at h4
      obtain⟨_,_,_,_,_,_,_,_,_,_,_,_,p9,_⟩:=I.l3 q h1 h2 h4
      exact I.w.jk_lt p9
     by_cases h1:j=k<;>by_cases h2:j'=k
     ·omega
     ·simp only[h1,h2,if_true,if_false]at he
      have:=hz' j' hj' hjl' h2 hl'
      omega
     ·simp only[h1,h2,if_true,if_false]at he
      have:=hz' j hj hjl h1 hl
      omega
     ·simp only[h1,h2,if_false]at he
      rw[bH hil,if_neg (hne j hjl h1)]at hl
      rw[bH hil,if_neg (hne j' hjl' h2)]at hl'
      exact I.inj j j' hj hj' hjl hjl' hl hl' he
    ·refine TR.of (by simp[Act.put];rw[I.t.1,bI,bI]) fun q hq=> ?_
     have hql:q<(ts N).length:=by rw[bI]at hq;exact hq
     by_cases hr:fF all pl (li.setIfInBounds (ixP pl k) true) p q
     ·rw[dV hr]
      have hqd:q≠d:=fun e=>by
       have:=(hr k hk (by rw[o3,e])).2
       omega
      have hr1:fF all pl li p q:=fun j hj hd=>by
       obtain⟨r1,r2⟩:=hr j hj hd
       have hjk:j≠k:=by omega
       rw[bH hil,if_neg (hne j hj hjk)]at r1
       exact⟨r1,r2⟩
      have:=I.t.slot (d:=q) (by rw[bI];exact hql)
      rw[dV hr1]at this
      rw[Act.put_ne fun e=>hqd (by injection e with e;exact e.symm)]
      exact this.jkd
     ·rw[kc hr]
      exact .junk _
    ·show(if g=w.heap.size then _ else m.jk g)=_
     rw[if_neg (hjn g x hg)]
     exact I.j g x hg
   ·-- all else:the plan comes up to it first
    have hkN:k≤N:=by
     rcases hall with h | ⟨v,h',h3,h4,h5⟩
     ·omega
     ·rcases Nat.lt_or_ge N k with hlt | hge
      ·have hns:bM (opP all pl N)≠true:=by
        intro hst
        obtain⟨_,⟨hc,_⟩ | ⟨g,args,fn,hc,_⟩⟩:=h4
        ·unfold jl at hc
         split at hc
         ·rename_i x ho2
          simp[bM,ho2]at hst
         ·cases hc
        ·rw[mH hst]at hc
         cases hc
       rcases I.l1 N h3 (hpre' N h3 (((pp.still N k hlt hk).resolve_left hns).resolve_left hnews))with h | h
       ·have:=I.le;omega
       ·exact(xG h h4).elim
      ·exact hge
    have main:∀ (p:Nat) (m:Mm),zd P po f all pl Z E N ts hs b J0 li p ζ m a w→k≤p→bK P S (m.jkd J0) (hs p) w b cs (lone (b.at a (.inRegion all (ixP pl k::L)::K)) cs w) r:=by
     intro p m I hkp
     have hw:=I.w
     have ht:=I.t
     have hd:=I.d
     have hp:=I.le
     have hlook:=GE (τ:=ts N) pp hk hkp hpre'
     -- on it goes
     have hfin:∀ (p':Nat) (m':Mm) (w':World) (v:AV) (u':Value),k<p'→p≤p'→p'≤N→(∀ j,p≤j→j<p'→j=k)→Ext m (hs p) m' (hs p')→WR P m' (hs p') w'→Below m.base w w'→VR P m' (hs p') v u'→uB (ts N) (opP all pl k) v→
       (∀ j,j<p'→j≠k→li.getD (ixP pl j) false=false→n8 P po f all (ts N) (opP all pl j) (hs p'))→
       Steps P (lone (b.at a (.inRegion all (ixP pl k::L)::K)) cs w)
        (lone (b.at (a.put o.dst u') (.inRegion all (L)::K)) cs w')→
       bK P S (m.jkd J0) (hs p) w b cs (lone (b.at a (.inRegion all (ixP pl k::L)::K)) cs w) r:=by
      intro p' m' w' v u' hkp' hpp hpN hno hx hw' hbl hv hres hlate hst
      refine bK.steps hst (bK.after (hx.jkd J0) hbl ?_)
      refine ih _ p' ζ m' _ w' hrest ⟨hpN,by simpa using I.sz,cl',clE',fun j hj hjl=> ?_,fun j hj hjl=> ?_,fun j hj hjl hl=> ?_,fun j j' hj hj' hjl hjl' hl hl'=> ?_,hw',?_,by rw[Act.put_defers'];exact hd,fun g x hg=>hx.jk g x (I.j g x hg)⟩
      ·by_cases hjk:j=k
       ·exact .inl (by omega)
       ·rw[bH hil,if_neg (hne j hj hjk)]at hjl
        exact(I.l1 j hj hjl).imp (fun h=>by omega) id
      ·rw[bH hil]at hjl
       by_cases hjk:j=k
       ·subst hjk
        simp at hjl
       ·rw[if_neg (hne j (by omega) hjk)]at hjl
        exact hlate j hj hjk hjl
      ·have hjk:j≠k:=by omega
       rw[bH hil,if_neg (hne j hjl hjk)]at hl
       obtain⟨e',d',zl',u',p1,p2,p3,p4,p5,p6,p7,p8,p9,p10⟩:=I.l3 j (by omega) hjl hl
       refine⟨e',d',zl',u',p1,p2,p3,p4,p5,p6,p7,p8,hx.jk _ _ p9,fun hd'=> ?_⟩
       have hdk:o.dst≠some d':=fun e=>by
        rw[←hok]at e
        exact(pp.dst k j d' (by omega) hjl p3).2 e
       rw[Act.put_ne hdk]
       refine p10 ?_
       cases hod:o.dst with
       | none=>rw[hod]at hd';exact hd'
       | some x=>rw[hod]at hd';simpa[Act.put]using hd'
      ·have h1:j≠k:=by omega
       have h2:j'≠k:=by omega
       rw[bH hil,if_neg (hne j hjl h1)]at hl
       rw[bH hil,if_neg (hne j' hjl' h2)]at hl'
       exact I.inj j j' (by omega) (by omega) hjl hjl' hl hl'
      ·rw[←hok]
       exact HH pp hk hil hpp (fun j h1 h2 h3=>absurd (hno j h1 h2) h3) hx ht hv hres
     have hread:∀ {x:Bool},aU all (ts N) (opP all pl k)=some x→Region.wanted o (yielded all a.tmps)=x:=fun hwa=>by
      have:=dq ht all (opP all pl k) (by rw[fS hlook];exact hwa)
      rwa [hok]at this
     -- an operation that only computes
     have hdo:∀ {h':AH} {v:AV},aU all (ts N) (opP all pl k)=some true→aN P (po.mu f) (ts N) (hs p) (opP all pl k)=some (v,h')→
       ∀ (p':Nat),hs p'=h'→k<p'→p≤p'→p'≤N→(∀ j,p≤j→j<p'→j=k)→uB (ts N) (opP all pl k) v→(∀ j,j<p'→j≠k→li.getD (ixP pl j) false=false→n8 P po f all (ts N) (opP all pl j) (hs p'))→
       bK P S (m.jkd J0) (hs p) w b cs (lone (b.at a (.inRegion all (ixP pl k::L)::K)) cs w) r:=by
      intro h' v hwa hev p' hp' q1 q2 q3 q6 q4 q5
      subst hp'
      have hev':=hev
      rw[←lT (po.mu f) hlook]at hev'
      rw[hok]at hev'
      obtain⟨m',w',u',d1,d2,d3,d4,d5⟩:=mh pok.ty hw ht (po.mu f) hev'
      exact hfin p' m' w' v u' q1 q2 q3 q6 d2 d3 d5 d4 q4 q5 (lF ho (hread hwa) d1)
     have hskip:∀ (p':Nat),hs p'=hs p→aU all (ts N) (opP all pl k)=some false→k<p'→p≤p'→p'≤N→(∀ j,p≤j→j<p'→j=k)→uB (ts N) (opP all pl k) (.tup [])→(∀ j,j<p'→j≠k→li.getD (ixP pl j) false=false→n8 P po f all (ts N) (opP all pl j) (hs p'))→
       bK P S (m.jkd J0) (hs p) w b cs (lone (b.at a (.inRegion all (ixP pl k::L)::K)) cs w) r:=by
      intro p' hp' hwa q1 q2 q3 q6 q4 q5
      exact hfin p' m w (.tup []) undef q1 q2 q3 q6 (by rw[hp'];exact Ext.refl _ _) (by rw[hp'];exact hw) (Below.refl _ _) VR.und q4 q5 (mK ho (hread hwa))
     rcases Nat.lt_or_ge k p with hkp2 | hkp2
     ·obtain⟨_,l2⟩:=I.l2 k hkp2 hnf
      rcases l2 with⟨l2,l3⟩ | ⟨l2,v,l3,l4⟩
      ·exact hskip p rfl l2 hkp2 (Nat.le_refl _) hp (fun j h1 h2=>by omega) l3 (fun j hj _ hn=>I.l2 j hj hn)
      ·exact hdo l2 l3 p rfl hkp2 (Nat.le_refl _) hp (fun j h1 h2=>by omega) l4 (fun j hj _ hn=>I.l2 j hj hn)
     ·obtain rfl:p=k:=by omega
      have hcall:∀ {g args fn x h'},aA (ts N) (opP all pl p)=some (g,args)→P.funcs[g]? =some fn→(fn.body.isNone=false∧(fn.name== "runtime.NumGoroutine")=false)→AC P g args (hs p) (x,h')→aU all (ts N) (opP all pl p)=some true→
        ∃ vs:List Value,VRs P m (hs p) args vs∧(execOp a.eval o).run P w= .ok (.enter g vs.toArray) w:=by
       intro g args fn x h' c1 c2 c3 c4 c5
       have c1':=c1
       rw[←iN hlook,hok]at c1'
       exact gR ht c1' c2 c3.2 c3.1
      rcases Nat.lt_or_ge p N with hkN2 | hkN2
      ·have hlt:∀ j,j<p+1→j≠p→li.getD (ixP pl j) false=false→n8 P po f all (ts N) (opP all pl j) (hs (p+1)):=by
        intro j hj hjk hn
        refine T.turn (by omega) hkN2 ?_ (I.l2 j (by omega) hn)
        intro hx
        have:=hpre' j (by omega) hx
        rw[hn]at this
        cases this
       have honly:∀ j,p≤j→j<p+1→j=p:=fun j h1 h2=>by omega
       rcases T.at hkN2 with⟨a1,a2,a3⟩ | ⟨a1,v,a2,a3,a4⟩
       ·exact hskip (p+1) a3 a1 (by omega) (by omega) hkN2 honly a2 hlt
       ·rcases a2 with⟨_,a2⟩ | ⟨g,args,fn,c1,c2,c3,c4⟩
        ·exact hdo a1 a2 (p+1) rfl (by omega) (by omega) hkN2 honly a3 hlt
        ·obtain⟨vs,v1,v2⟩:=hcall c1 c2 c3 c4 a1
         have hac:=c4 m w vs hw v1
         obtain⟨e,w',hR,hst⟩:=iW (b:=b) (cs:=cs) (k:=K) (rest:=L) ho (hread a1) v2 hac (by rintro w' ⟨m',_,_,_,u',h,_⟩;cases h)
         obtain⟨m',x1,x2,x3,u',x4,x5⟩:=hR
         subst x4
         rcases hst with⟨v',h3,h4⟩ | ⟨ch,h3,_⟩
         ·injection h3 with h3
          subst h3
          exact hfin (p+1) m' w' v u' (by omega) (by omega) hkN2 honly x1 x2 x3 x5 a3 hlt h4
         ·cases h3
      ·obtain rfl:p=N:=by omega
       have hkeep:∀ d,S d=true→(jY all pl li p (ts p)).getD d .junk=(ts p).getD d .junk:=fun d hd=>dV fun j hj hdj=>absurd hdj (hS d hd j hj)
       rcases hall with h | ⟨v,h',h3,⟨h4,⟨c1,c2⟩ | ⟨g,args,fn,c1,c2,c3,c4⟩⟩,h5⟩
       ·omega
       ·rw[←zj hlook,hok]at c1
        obtain⟨u',x1,x2⟩:=sA (w:=w) ht c1
        rw[h5,c2]
        exact⟨m.jkd J0,w,Ext.refl _ _,hw.jkd I.j,Below.refl _ _,a,_,u',⟨_,ht.jkd,hkeep⟩,hd,x1.jkd,xe ho (hread h4) x2⟩
       ·obtain⟨vs,v1,v2⟩:=hcall c1 c2 c3 c4 h4
        have hac:=c4 m w vs hw v1
        obtain⟨e,w',hR,hst⟩:=iW (b:=b) (cs:=cs) (k:=K) (rest:=L) ho (hread h4) v2 hac (by rintro w' ⟨m',_,_,_,u',h,_⟩;cases h)
        obtain⟨m',x1,x2,x3,u',x4,x5⟩:=hR
        subst x4
        rcases hst with⟨v',h6,_⟩ | ⟨ch,h6,todo,h7⟩
        ·cases h6
        ·injection h6 with h6
         subst h6
         rw[h5]
         exact⟨m'.jkd J0,w',x1.jkd J0,x2.jkd fun g x hg=>x1.jk g x (I.j g x hg),x3,a,todo,u',⟨_,(ht.ext x1).jkd,hkeep⟩,hd,x5.jkd,h7⟩
    rcases Nat.lt_or_ge k p with h | h
    ·exact main p m I (by omega)
    ·obtain⟨m1,x1,I1⟩:=I.adv T (k - p) (by omega) fun j h1 h2 hn=>by
      rcases pp.still j k (by omega) hk with h | h | h
      ·exact h
      ·exact absurd h hnews
      ·rw[hpre' j (by omega) h]at hn
       cases hn
     rw[show p+(k - p)=k by omega]at x1 I1
     exact bK.after x1 (Below.refl _ _) (main k m1 I1 (Nat.le_refl _))
end
open Go Go.RowKit
theorem gE (e cs:List AV) (off j:Nat) (hle:off+cs.length≤e.length):(stA e off cs)[j]? =if off≤j∧j<off+cs.length then cs[j - off]? else e[j]? :=by
 unfold stA
 have h1:(e.take off).length=off:=by simp;omega
 by_cases hj:j<off
 ·rw[if_neg (by omega),List.append_assoc,List.getElem?_append_left (by omega),List.getElem?_take_of_lt hj]
 ·rw[List.append_assoc,List.getElem?_append_right (by omega),h1]
  by_cases hj2:j<off+cs.length
  ·rw[if_pos (by omega),List.getElem?_append_left (by omega)]
  ·rw[if_neg (by omega),List.getElem?_append_right (by omega),List.getElem?_drop]
   congr 1
   omega
theorem jI (e cs:List AV) (off:Nat) (hle:off+cs.length≤e.length):(stA e off cs).length=e.length:=by
 unfold stA
 simp
 omega
theorem EF {agg:Bool} {n off off':Nat} {e ys:List AV} {x:AV} (h1:x.cells.all AV.one=true) (h2:x.cells.length=n) (hn:n≠0) (hle:off+n≤e.length) (hy:ys.all AV.one=true) (hle':off'+ys.length≤e.length)
  (hl:ldA agg n (stA (stA e off x.cells) off' ys) off=some x):∀ j,j<n→(stA (stA e off x.cells) off' ys)[off+j]? =x.cells[j]? :=by
 have l1:=jI e x.cells off (by omega)
 have l2:=jI (stA e off x.cells) ys off' (by omega)
 unfold ldA at hl
 split at hl
 ·rename_i hag
  rw[if_pos (by omega)]at hl
  injection hl with hl
  intro j hj
  have hc:=congrArg AV.cells hl
  generalize stA (stA e off x.cells) off' ys=R at hc ⊢
  rw[←hc]
  simp only[AV.cells]
  rw[List.getElem?_take_of_lt hj,List.getElem?_drop]
 ·intro j hj
  have hone:x.one=true:=by
   have g:(stA (stA e off x.cells) off' ys)[off]? =some x:=hl
   rw[gE _ _ _ _ (by omega)]at g
   split at g
   ·exact List.all_eq_true.1 hy x (List.mem_of_getElem? g)
   ·rw[gE _ _ _ _ (by omega),if_pos (by omega),Nat.sub_self]at g
    exact List.all_eq_true.1 h1 x (List.mem_of_getElem? g)
  have hc:x.cells=[x]:=by cases x<;>first | rfl | (simp[AV.one]at hone)
  rw[hc]at h2
  have hj0:j=0:=by simp at h2;omega
  subst hj0
  rw[Nat.add_zero,hl,hc]
  rfl
theorem DO {n off off':Nat} {e xs ys:List AV} (h2:xs.length=n) (hle:off+n≤e.length) (hle':off'+ys.length≤e.length) (hl:∀ j,j<n→(stA (stA e off xs) off' ys)[off+j]? =xs[j]?):
  stA (stA e off' ys) off xs=stA (stA e off xs) off' ys:=by
 have l1:=jI e xs off (by omega)
 have l2:=jI e ys off' (by omega)
 refine List.ext_getElem? fun j=> ?_
 by_cases hj:off≤j∧j<off+xs.length
 ·have:=hl (j - off) (by omega)
  rw[show off+(j - off)=j by omega]at this
  rw[this,gE _ _ _ _ (by omega),if_pos hj]
 ·rw[gE _ _ _ _ (by omega),if_neg hj,gE _ _ _ _ (by omega),gE _ _ _ _ (by omega)]
  split
  ·rfl
  ·rw[gE _ _ _ _ (by omega),if_neg hj]
theorem ta {n:Nat} {h:AH} {a x:AV} {h1:AH} (hs:aE n h a x=some h1):∃ b i off es e,(∀ agg k h,aK agg k h a=aK agg k h (.ptr b i off))∧(∀ k h y,aE k h a y=aE k h (.ptr b i off) y)∧
  h.cell b=some es∧es[i]? =some e∧x.cells.all AV.one=true∧x.cells.length=n∧off+n≤e.length∧h1=h.set b (some (es.set i (stA e off x.cells))):=by
 have key:∀ b i off,aE n h (.ptr b i off) x=some h1→∃ es e,h.cell b=some es∧es[i]? =some e∧x.cells.all AV.one=true∧x.cells.length=n∧off+n≤e.length∧h1=h.set b (some (es.set i (stA e off x.cells))):=by
  intro b i off hs
  unfold aE at hs
  simp only[Option.bind_eq_some_iff]at hs
  obtain⟨es,h2,e,h3,h4⟩:=hs
  split at h4
  ·rename_i hc
   injection h4 with h4
   exact⟨es,e,h2,h3,hc.1,hc.2.1,hc.2.2,h4.symm⟩
  ·cases h4
 cases a with
 | ptr b i off=>
   obtain⟨es,e,q⟩:=key b i off hs
   exact⟨b,i,off,es,e,fun _ _ _=>rfl,fun _ _ _=>rfl,q⟩
 | tptr t b=>
   obtain⟨es,e,q⟩:=key b 0 0 hs
   exact⟨b,0,0,es,e,fun _ _ _=>rfl,fun _ _ _=>rfl,q⟩
 | _=>cases hs
theorem bo {n:Nat} {h:AH} {b i off:Nat} {x:AV} {es:List (List AV)} {e:List AV} (h1:h.cell b=some es) (h2:es[i]? =some e) (h3:x.cells.all AV.one=true) (h4:x.cells.length=n) (h5:off+n≤e.length):
  aE n h (.ptr b i off) x=some (h.set b (some (es.set i (stA e off x.cells)))):=by
 unfold aE
 simp only[h1,Option.bind_some,h2]
 rw[if_pos ⟨h3,h4,h5⟩]
theorem AH.set_at {h:AH} {b:Nat} {es:Option (List (List AV))}:(h.set b es).cell b=es:=by simp[AH.set]
theorem AH.set_off {h:AH} {b j:Nat} {es:Option (List (List AV))} (hj:j≠b):(h.set b es).cell j=h.cell j:=by simp[AH.set,hj]
theorem AH.set_twice {h:AH} {b:Nat} {x y:Option (List (List AV))}:(h.set b x).set b y=h.set b y:=by
 simp only[AH.set,AH.mk.injEq,and_true,true_and]
 funext k
 split<;>simp_all
theorem AH.set_apart {h:AH} {a b:Nat} (hne:a≠b) (x y:Option (List (List AV))):(h.set a x).set b y=(h.set b y).set a x:=by
 simp only[AH.set,AH.mk.injEq,and_true,true_and]
 funext k
 by_cases h1:k=a
 ·subst h1
  simp[hne]
 ·simp[h1]
theorem zZ {n n':Nat} {h h1 h2:AH} {a x a' y:AV} {agg:Bool} (hn:n≠0) (s1:aE n h a x=some h1) (s2:aE n' h1 a' y=some h2) (hl:aK agg n h2 a=some x):
  ∃ h1',aE n' h a' y=some h1'∧aE n h1' a x=some h2:=by
 obtain⟨b,i,off,es,e,al,as_,c1,c2,c3,c4,c5,rfl⟩:=ta s1
 obtain⟨b',i',off',es',e',_,aS',d1,d2,d3,d4,d5,rfl⟩:=ta s2
 rw[al]at hl
 simp only[as_,aS']
 have hi:i<es.length:=(List.getElem?_eq_some_iff.1 c2).1
 by_cases hb:b'=b
 ·subst hb
  rw[AH.set_at]at d1
  injection d1 with d1
  subst d1
  by_cases hii:i'=i
  ·subst hii
   rw[List.getElem?_set_self hi]at d2
   injection d2 with d2
   subst d2
   have l1:=jI e x.cells off (by omega)
   have hld:ldA agg n (stA (stA e off x.cells) off' y.cells) off=some x:=by
    have:aK agg n _ (.ptr b' i' off)=some x:=hl
    simp only[aK,AH.row,AH.set_at,Option.bind_some]at this
    rw[List.set_set,List.getElem?_set_self hi]at this
    exact this
   have hcells:=EF c3 c4 hn c5 d3 (by omega) hld
   have hsw:=DO c4 c5 (by omega) hcells
   refine⟨_,bo c1 c2 d3 d4 (by omega),?_⟩
   rw[bo (es:=es.set i' (stA e off' y.cells)) (e:=stA e off' y.cells) AH.set_at (List.getElem?_set_self hi) c3 c4 (by rw[jI _ _ _ (by omega)];exact c5)]
   rw[AH.set_twice,AH.set_twice,List.set_set,List.set_set,hsw]
  ·rw[List.getElem?_set_ne (Ne.symm hii)]at d2
   refine⟨_,bo c1 d2 d3 d4 d5,?_⟩
   rw[bo (es:=es.set i' (stA e' off' y.cells)) (e:=e) AH.set_at (by rw[List.getElem?_set_ne hii];exact c2) c3 c4 c5]
   rw[AH.set_twice,AH.set_twice,List.set_comm _ _ hii]
 ·rw[AH.set_off hb]at d1
  refine⟨_,bo d1 d2 d3 d4 d5,?_⟩
  rw[bo (es:=es) (e:=e) (by rw[AH.set_off (Ne.symm hb)];exact c1) c2 c3 c4 c5]
  rw[AH.set_apart hb]
section
variable {P:Program} {po:Pol} {f:FuncId} {n nv:Nat} {vm:List Nat} {h h':AH} {t V V':List AV} {all:Array Oper} {pl:List (Nat×List Nat)} {E:Nat→Nat→Prop}
abbrev kZ (all:Array Oper):Array Bool:=Array.replicate all.size false
theorem nP (pok:POK P po) (pp:jd all pl (fun _=>false) E) (hkp:rh (po.kp f) all=true) {e:Option AV} {t':List AV} (hp:qw P po f all (dI true all pl) t h e t' h') {b:Frame} {cs:List Frame} {K:List Item} {r:AEx×List AV×AH}
  (he1:e=none→∀ (m1:Mm) (w1:World) (a1:Act),WR P m1 h' w1→TR P m1 h' t' a1.tmps→a1.defers=b.defers→bK P (po.kp f) m1 h' w1 b cs (lone (b.at a1 K) cs w1) r) (he2:∀ v,e=some v→r=(.panic v,t',h'))
  {L:List Nat} (hL:gy all E (kZ all) L) {m:Mm} {w:World} {a:Act} (hw:WR P m h w) (ht:TR P m h t a.tmps) (hd:a.defers=b.defers):
  bK P (po.kp f) m h w b cs (lone (b.at a (.inRegion all L::K)) cs w) r:=by
 have hS:∀ d,po.kp f d=true→∀ k,k<pl.length→(opP all pl k).dst≠some d:=fun d hd k hk e=>by
  have hlt:=pp.lt k hk
  have hm:=List.all_eq_true.1 hkp (opP all pl k) (Array.mem_toList_iff.2 (Array.mem_of_getElem? (kF hlt)))
  rw[e]at hm
  simp[hd]at hm
 obtain⟨N,ts,hs,h1,h2,h3,h4,h5,h6⟩:=hp.trace
 have hlen:(dI true all pl).length=pl.length:=by simp[dI]
 have hget:∀ i,i<pl.length→(dI true all pl)[i]? =some (opP all pl i,(ckP pl i).map (opI all)):=by
  intro i hi
  simp only[dI,if_true,List.getElem?_map,List.getElem?_eq_getElem hi,Option.map_some,Option.some.injEq]
  have e1:pl.getD i default=pl[i]:=by simp[List.getD,hi]
  simp only[opP,opI,ixP,ckP,e1]
  rfl
 have T:Tra P po f all pl (fun _=>false) E N ts hs:=⟨pp,by omega,fun i hi=>h5 i _ hi (hget i (by omega))⟩
 subst h2;subst h3;subst h4
 have hm0:m=m.jkd m.jk:=rfl
 rw[hm0]
 refine wn (S:=po.kp f) (J0:=m.jk) hS (r:=r) (K:=K) (b:=b) (cs:=cs) pok (fun e he=>by cases he) T ?_ ?_ _ (kZ all) 0 (fun _=>0) m a _ hL ⟨Nat.zero_le _,by simp,fun j hj hjl=> ?_,fun j hj hjl=> ?_,fun j hj hjl=> ?_,fun j hj=>by omega,fun j _ hj hjl=> ?_,fun j j' _ _ hj hj' hjl=> ?_,hw,?_,hd,fun _ _ h=>h⟩
 ·cases e with
  | none=>exact .inl (by omega)
  | some v=>
    obtain⟨q,hq,hst⟩:=h6
    have hN:N<pl.length:=by
     have:=(List.getElem?_eq_some_iff.1 hq).1
     omega
    rw[hget N hN]at hq
    injection hq with hq
    subst hq
    exact .inr ⟨v,h',hN,hst,he2 v rfl⟩
 ·intro hN m1 w1 a1 q1 q2 q3
  cases e with
  | none=>
    obtain⟨_,h6⟩:=h6
    subst h6
    exact he1 rfl m1 w1 a1 q1 q2 q3
  | some v=>
    obtain⟨q,hq,hst⟩:=h6
    have:=(List.getElem?_eq_some_iff.1 hq).1
    omega
 ·simp[Array.getD_eq_getD_getElem?,hj]at hjl
 ·simp[Array.getD_eq_getD_getElem?,hj]at hjl
 ·have:=pp.lt j hj
  simp[Array.getD_eq_getD_getElem?,this]at hjl
 ·have:=pp.lt j hj
  simp[Array.getD_eq_getD_getElem?,this]at hjl
 ·have:=pp.lt j hj
  simp[Array.getD_eq_getD_getElem?,this]at hjl
 ·have hl:=T.len 0 (Nat.zero_le _)
  refine TR.of (by rw[bI,←hl];exact ht.1) fun d hdl=> ?_
  have hdl':d<(ts 0).length:=by rw[bI]at hdl;omega
  by_cases hrd:fF all pl (kZ all) 0 d
  ·rw[dV hrd]
   have e3:=T.keep d 0 N (by omega) (fun j _ hj he=>by
    have hjl:j<pl.length:=by omega
    have:=(hrd j hjl he).2
    omega)
   rw[Nat.zero_add]at e3
   rw[e3]
   exact ht.slot hdl'
  ·rw[kc hrd]
   exact .junk _
abbrev zg (E:Nat→Nat→Prop) (x y:Nat):Nat→Nat→Prop:=fun i j=>E i j∨(i=x∧j=y)
theorem Ej {x y:Nat} {li:Array Bool} {L:List Nat} (ho:gy all E li L) (hs:li.size=all.size) (hx:li.getD x false=true):gy all (zg E x y) li L:=by
 induction ho with
 | nil li h=>exact .nil _ h
 | cons li i L h1 h2 h3 h4 _ ih=>
   refine .cons _ _ _ h1 h2 h3 (fun j hj=>hj.elim (h4 j) fun e=>by rw[e.1];exact hx) (ih (by simpa using hs) ?_)
   rw[bH (by omega)]
   split
   ·rfl
   ·exact hx
theorem kP {x y:Nat} (hne:x≠y) (hxs:x<all.size) {li:Array Bool} {L:List Nat} (ho:gy all E li L) (hs:li.size=all.size) (hx:li.getD x false=false) (hy:li.getD y false=false):gy all (zg E x y) li L∨gy all (zg E y x) li L:=by
 induction ho with
 | nil li h=>
   have:=h x hxs
   rw[hx]at this
   cases this
 | cons li i L h1 h2 h3 h4 hr ih=>
   have hil:i<li.size:=by omega
   by_cases hix:i=x
   ·subst hix
    refine .inl (.cons _ _ _ h1 h2 h3 (fun j hj=>hj.elim (h4 j) fun e=>absurd e.2 hne) (Ej hr (by simpa using hs) ?_))
    rw[bH hil,if_pos rfl]
   ·by_cases hiy:i=y
    ·subst hiy
     refine .inr (.cons _ _ _ h1 h2 h3 (fun j hj=>hj.elim (h4 j) fun e=>absurd e.2.symm hne) (Ej hr (by simpa using hs) ?_))
     rw[bH hil,if_pos rfl]
    ·rcases ih (by simpa using hs) (by rw[bH hil,if_neg (Ne.symm hix)];exact hx) (by rw[bH hil,if_neg (Ne.symm hiy)];exact hy)with h | h
     ·exact .inl (.cons _ _ _ h1 h2 h3 (fun j hj=>hj.elim (h4 j) fun e=>absurd e.2 hiy) h)
     ·exact .inr (.cons _ _ _ h1 h2 h3 (fun j hj=>hj.elim (h4 j) fun e=>absurd e.2 hix) h)
theorem du (i:Nat):(kZ all).getD i false=false:=by
 simp only[Array.getD_eq_getD_getElem?,kZ]
 by_cases hi:i<all.size
 ·simp[hi]
 ·simp[hi]
theorem hU {El:List (Nat×Nat)} (hp:jD El all pl=true):jd all pl (fun _=>false) fun i j=>(i,j)∈El:=by
 unfold jD at hp
 simp only[Bool.and_eq_true]at hp
 obtain⟨⟨⟨⟨⟨h1,h2⟩,h2'⟩,h3⟩,h4⟩,h5⟩:=hp
 rw[List.all_eq_true]at h1 h2 h2' h3 h5
 have hmem:∀ k,k<pl.length→pl.getD k default∈pl:=fun k hk=>by
  simp only[List.getD,List.getElem?_eq_getElem hk,Option.getD_some]
  exact List.getElem_mem hk
 have hpair:∀ i j,i<j→j<pl.length→vF El all (Region.before all) (pl.getD i default) (pl.getD j default)=true:=fun i j hij hj=>by
  have:=h5 j (List.mem_range.2 hj)
  rw[List.all_eq_true]at this
  exact this i (List.mem_range.2 hij)
 have hpre:∀ i j,(kW (Region.before all) i j || El.contains (i,j))=true→xo all (fun i j=>(i,j)∈El) i j:=fun i j h=>by
  rw[Bool.or_eq_true]at h
  exact h.imp id fun h=>by simpa using h
 unfold vF at hpair
 simp only[Bool.and_eq_true,bne_iff_ne,ne_eq]at hpair
 refine⟨fun i hi=> ?_,fun k hk=> ?_,fun k d hk hd hin=> ?_,fun j hj e he hb=> ?_,fun j i hj hi hpre=> ?_,fun i j hij hj=> ?_,fun i j hij hj=> ?_,fun i j hij hj=> ?_,fun i j d hij hj hd=> ?_,fun i j d hij hj hd hin=> ?_⟩
 ·have:=h1 i (List.mem_range.2 hi)
  rw[List.any_eq_true]at this
  obtain⟨q,hq,h⟩:=this
  obtain⟨k,hk,rfl⟩:=List.getElem_of_mem hq
  exact⟨k,hk,by simpa[ixP,List.getD,hk]using h⟩
 ·have:=h2 _ (hmem k hk)
  exact of_decide_eq_true this
 ·have:=h2' _ (hmem k hk)
  unfold opP opI ixP at hd hin
  rw[hd]at this
  simp only[Array.getD_eq_getD_getElem?,List.getD_eq_getElem?_getD]at hin this
  simp[List.contains_eq_mem,hin]at this
 ·have:=h3 j (List.mem_range.2 hj)
  rw[Array.all_eq_true']at this
  have:=this e he
  simpa[hb]using this
 ·unfold ua at h4
  rw[List.all_eq_true]at h4
  have:=h4 j (List.mem_range.2 hj)
  rw[List.all_eq_true]at this
  have:=this i (List.mem_range.2 hi)
  rw[hpre]at this
  simp only[Bool.not_true,Bool.false_or]at this
  rw[Option.any_eq_true]at this
  obtain⟨o,ho,h6⟩:=this
  rw[Array.any_eq_true']at h6
  obtain⟨e,he,h7⟩:=h6
  simp only[Bool.and_eq_true,decide_eq_true_eq,Bool.or_eq_true,beq_iff_eq]at h7
  refine⟨e,?_,h7.1.1,h7.2⟩
  have:opI all j=o:=by simp[opI,Array.getD_eq_getD_getElem?,ho]
  rw[this]
  exact he
 ·exact(hpair i j hij hj).1.1.1.1
 ·have:=(hpair i j hij hj).1.1.1.2
  rw[Bool.or_eq_true]at this
  exact this.imp id fun h=> .inr (hpre _ _ h)
 ·have:=(hpair i j hij hj).1.1.2
  rw[Bool.or_eq_true,Bool.or_eq_true,Bool.or_eq_true]at this
  rcases this with((h | h) | h) | h
  ·exact .inl h
  ·exact .inr (.inl (by rw[Bool.not_eq_true']at h;exact h))
  ·exact .inr (.inr (.inl (hpre _ _ h)))
  ·exact .inr (.inr (.inr (List.contains_iff_mem.1 h)))
 ·have:=(hpair i j hij hj).1.2
  unfold opP opI ixP at hd ⊢
  rw[hd]at this
  simpa[List.contains_eq_mem]using this
 ·have:=(hpair i j hij hj).2
  unfold opP opI ixP at hd hin
  rw[hd]at this
  rw[Bool.or_eq_true]at this
  rcases this with h | h
  ·simp only[Array.getD_eq_getD_getElem?,List.getD_eq_getElem?_getD]at hin h
   simp[List.contains_eq_mem,hin]at h
  ·exact hpre _ _ h
theorem gy.mono {all:Array Oper} {E E':Nat→Nat→Prop} (hE:∀ i j,E' i j→E i j) {li:Array Bool} {L:List Nat} (ho:gy all E li L):gy all E' li L:=by
 induction ho with
 | nil li h=>exact .nil _ h
 | cons li i L h1 h2 h3 h4 _ ih=>exact .cons _ _ _ h1 h2 h3 (fun j hj=>h4 j (hE _ _ hj)) ih
theorem gI {o:Oper} (h:dY o=true):∃ ty a v,o.op= .store ty a v∧o.guard=none∧o.dst=none:=by
 unfold dY at h
 split at h
 ·rename_i ty a v h1 h2 h3
  exact⟨ty,a,v,h1,h2,h3⟩
 ·cases h
theorem qH {x:Oper} {ck:List Oper} {t1:List AV} {h1:AH} (hx:dY x=true) (hs:mC P po f all (x,ck) t h t1 h1):∃ ty a v,x.op= .store ty a v∧szA P ty≠0∧aE (szA P ty) h (evA t a) (evA t v)=some h1∧t1=t∧kV P all t h1 ck:=by
 obtain⟨ty,a,v,o1,o2,o3⟩:=gI hx
 rcases hs with⟨s1,_⟩ | ⟨_,u,s2,s3,s4⟩
 ·simp[aU,o2]at s1
 ·have e:t1=t:=by rw[s3,o3];rfl
  subst e
  refine⟨ty,a,v,o1,?_⟩
  rcases s2 with⟨_,s2⟩ | ⟨g,args,fn,c1,_⟩
  ·simp only[aN,o1]at s2
   split at s2
   ·cases s2
   ·rename_i hz
    simp only[Option.map_eq_some_iff,Prod.mk.injEq]at s2
    obtain⟨h2,s5,_,rfl⟩:=s2
    exact⟨hz,s5,rfl,s4⟩
  ·simp[aA,o1]at c1
theorem mc {x:Oper} {ty:TypeId} {a v:Operand} {h1:AH} (hx:dY x=true) (o1:x.op= .store ty a v) (hz:szA P ty≠0) (s:aE (szA P ty) h (evA t a) (evA t v)=some h1):mC P po f all (x,[]) t h t h1:=by
 obtain⟨ty',a',v',o1',o2,o3⟩:=gI hx
 refine .inr ⟨by simp[aU,o2],.junk,.inl ⟨by simp[aA,o1],?_⟩,by rw[o3];rfl,trivial⟩
 simp only[aN,o1]
 rw[if_neg hz,s]
 rfl
theorem pR {x:Oper} {v:AV} (hx:dY x=true) (hs:pq P all x t h v h'):False:=by
 obtain⟨ty,a,u,o1,o2,o3⟩:=gI hx
 obtain⟨_,⟨c,_⟩ | ⟨g,args,fn,c,_⟩⟩:=hs
 ·simp[jl,o1]at c
 ·simp[aA,o1]at c
theorem tQ {x y:Oper} (hx:dY x=true) (hy:dY y=true):∀ {pre:List (Oper×List Oper)} {t:List AV} {h:AH} {e:Option AV} {t':List AV} {h':AH},qw P po f all (pre++[(x,[]),(y,[x])]) t h e t' h'→
  qw P po f all (pre++[(x,[]),(y,[])]) t h e t' h'∧qw P po f all (pre++[(y,[]),(x,[])]) t h e t' h'
 | [],t,h,e,t',h',hp=>by
   cases hp with
   | stop _ _ _ _ _ _ hs=>exact(pR hx hs).elim
   | step _ _ _ _ t1 h1 _ _ _ hs hp=>
     obtain⟨ty,a,v,o1,z1,s1,rfl,_⟩:=qH hx hs
     cases hp with
     | stop _ _ _ _ _ _ hs=>exact(pR hy hs).elim
     | step _ _ _ _ t2 h2 _ _ _ hs2 hp=>
       obtain⟨ty',a',v',o1',z1',s2,rfl,ck⟩:=qH hy hs2
       cases hp with
       | nil=>
         obtain⟨_,_,_,_,g2,g3⟩:=gI hx
         have hck:=ck.1
         simp only[aU,g2,o1,g3]at hck
         obtain⟨h1',w1,w2⟩:=zZ z1 s1 s2 hck
         exact⟨.step _ _ _ _ _ _ _ _ _ (mc hx o1 z1 s1) (.step _ _ _ _ _ _ _ _ _ (mc hy o1' z1' s2) (.nil _ _)),.step _ _ _ _ _ _ _ _ _ (mc hy o1' z1' w1) (.step _ _ _ _ _ _ _ _ _ (mc hx o1 z1 w2) (.nil _ _))⟩
 | q::pre,t,h,e,t',h',hp=>by
   cases hp with
   | stop _ _ _ _ _ _ hs=>exact⟨.stop _ _ _ _ _ _ hs,.stop _ _ _ _ _ _ hs⟩
   | step _ _ _ _ t1 h1 _ _ _ hs hp=>
     obtain⟨a,b⟩:=tQ hx hy hp
     exact⟨.step _ _ _ _ _ _ _ _ _ hs a,.step _ _ _ _ _ _ _ _ _ hs b⟩
theorem uQ {pl:List (Nat×List Nat)} (hp:uv all pl=true):∃ r x y,pl=r++[(x,[]),(y,[x])]∧x≠y∧dY (opI all x)=true∧dY (opI all y)=true∧
  jd all (r++[(x,[]),(y,[])]) (fun _=>false) (fun i j=>(i,j)∈[(x,y)])∧jd all (r++[(y,[]),(x,[])]) (fun _=>false) (fun i j=>(i,j)∈[(y,x)]):=by
 unfold uv at hp
 split at hp
 ·rename_i y x' x r hr
  simp only[Bool.and_eq_true,beq_iff_eq,bne_iff_ne,ne_eq]at hp
  obtain⟨⟨⟨⟨⟨rfl,h2⟩,h3⟩,h4⟩,h5⟩,h6⟩:=hp
  refine⟨r.reverse,x',y,?_,h2,h3,h4,hU h5,hU h6⟩
  have:=congrArg List.reverse hr
  rw[List.reverse_reverse]at this
  rw[this]
  simp
 ·cases hp
end
section
variable {P:Program} {m m':Mm} {h h':AH} {w w':World}
theorem ab.refl (h:AH):ab h h:=⟨Nat.le_refl _,Nat.le_refl _,fun _ _=>rfl,fun _ _=>rfl⟩
theorem ab.trans {h1 h2 h3:AH} (a:ab h1 h2) (b:ab h2 h3):ab h1 h3:=
 ⟨Nat.le_trans a.n b.n,Nat.le_trans a.ids b.ids,fun k hk=>(b.cell k (Nat.lt_of_lt_of_le hk a.n)).trans (a.cell k hk),fun k hk=>(b.hw k (Nat.lt_of_lt_of_le hk a.ids)).trans (a.hw k hk)⟩
theorem ab.push (h:AH) (es:List (List AV)):ab h (h.push es):=⟨by simp[AH.push],by simp[AH.push],fun b hb=>by simp[AH.push,show b≠h.n by omega],fun _ _=>rfl⟩
theorem ab.fresh (h:AH) (n:Nat):ab h (h.fresh n):=⟨by simp[AH.fresh],by simp[AH.fresh],fun b hb=>rfl,fun k hk=>by simp[AH.fresh,show k≠h.ids by omega]⟩
theorem ab.grow {h0 h:AH} (g:ab h0 h) {id n:Nat} (hi:h0.ids≤id):ab h0 (h.grow id n):=⟨g.n,g.ids,g.cell,fun k hk=>by simpa[AH.grow,show k≠id by omega]using g.hw k hk⟩
theorem ab.set {h0 h:AH} (g:ab h0 h) {b:Nat} {es:Option (List (List AV))} (hb:h0.n≤b):ab h0 (h.set b es):=⟨g.n,g.ids,fun k hk=>by simpa[AH.set,show k≠b by omega]using g.cell k hk,g.hw⟩
theorem VR.back (x:Ext m h m' h') (g:ab h h') {v:AV} {u:Value} (r:VR P m' h' v u):∀ {u0:Value},VR P m h v u0→VR P m' h v u:=by
 induction r with
 | junk v=>intro _ _;exact .junk v
 | bool b=>intro _ _;exact .bool b
 | int k n=>intro _ _;exact .int k n
 | str l=>intro _ _;exact .str l
 | nilp=>intro _ _;exact .nilp
 | ptr b i off hb=>
   intro u0 r0
   cases r0 with
   | ptr _ _ _ hb0=>exact .ptr b i off hb0
 | tptr t b hb ht=>
   intro u0 r0
   cases r0 with
   | tptr _ _ hb0 _=>exact .tptr t b hb0 ht
 | ip e off g o F hi hv ih=>
   intro u0 r0
   cases r0 with
   | ip _ _ g0 o0 F0 hi0 hv0=>exact .ip e off g o F hi (fun j hj=>ih j hj (hv0 j hj))
 | nils=>intro _ _;exact .nils
 | isl id e es gg o cap F hl hi hv hc ht ih=>
   intro u0 r0
   cases r0 with
   | isl _ _ _ g0 o0 cap0 F0 hl0 hi0 hv0 hc0 ht0=>
     refine .isl id e es gg o cap F hl hi (fun i hi' j hj=>ih i hi' j hj (hv0 i hi' j hj)) hc (fun k hk=> ?_)
     obtain⟨a1,a2,a3,a4⟩:=ht k hk
     obtain⟨b1,b2,b3,b4⟩:=ht0 k hk
     have:=g.hw k b1
     exact⟨b1,a2,b3,fun e'=>a4 (by omega)⟩
   | isl0 _ _ _=>exact .isl none e [] gg o cap F (by simp) (fun i hi=>absurd hi (Nat.not_lt_zero _)) (fun i hi=>absurd hi (Nat.not_lt_zero _)) hc (fun k hk=>by cases hk)
 | isl0 e a cap=>intro _ _;exact .isl0 e a cap
 | msl b o n e cap hb he hcap hn hmx=>
   intro u0 r0
   cases r0 with
   | msl _ _ _ _ _ hb0 _ _ _ _=>exact .msl b o n e cap hb0 he hcap hn hmx
 | fn g l c l' c' h1 h2 h3 h4 ih1 ih2=>
   intro u0 r0
   cases r0 with
   | fn _ _ _ l0 c0 a1 a2 a3 a4=>exact .fn g l c l' c' h1 h2 (fun j hj hj'=>ih1 j hj hj' (a3 j hj (by omega))) (fun j hj hj'=>ih2 j hj hj' (a4 j hj (by omega)))
 | nilf=>intro _ _;exact .nilf
 | nili=>intro _ _;exact .nili
 | iface t v v' h1 ih=>
   intro u0 r0
   cases r0 with
   | iface _ _ _ a1=>exact .iface t v v' (ih a1)
 | agg l l' h1 h3 ih=>
   intro u0 r0
   cases r0 with
   | agg _ l0 a1 a3=>exact .agg l l' h1 (fun j hj hj'=>ih j hj hj' (a3 j hj (by omega)))
 | tup l l' h1 h3 ih=>
   intro u0 r0
   cases r0 with
   | tup _ l0 a1 a3=>exact .tup l l' h1 (fun j hj hj'=>ih j hj hj' (a3 j hj (by omega)))
theorem WR.back (hw:WR P m h w) (x:Ext m h m' h') (g:ab h h') (hw':WR P m' h' w'):Ext m h m' h∧WR P m' h w':=by
 refine⟨⟨x.base,Nat.le_refl _,Nat.le_refl _,x.blk,x.imm,fun k hk=> ?_,x.jk⟩,?_⟩
 ·obtain⟨a1,a2,a3⟩:=x.te k hk
  exact⟨a1,Nat.le_refl _,fun _=>a3 (g.hw k hk)⟩
 have up:∀ b es,h.cell b=some es→h'.cell b=some es:=fun b es hb=>by rw[g.cell b (hw.lt b es hb).1];exact hb
 refine⟨hw'.size,fun b es hb=>⟨(hw.lt b es hb).1,(hw'.lt b es (up b es hb)).2⟩,fun b es hb=> ?_,fun b b' es es' hb hb'=>hw'.inj b b' es es' (up _ _ hb) (up _ _ hb'),hw'.imm,fun b es hb=>hw'.sep b es (up _ _ hb),fun k hk=> ?_,fun k hk=> ?_,fun k hk b es hb=> ?_,fun k k' hk hk'=> ?_,hw'.good,fun g' y hj=> ?_⟩
 ·obtain⟨cs,h1,h2,h3,h4,h5⟩:=hw'.live b es (up _ _ hb)
  obtain⟨cs0,_,_,_,_,k5⟩:=hw.live b es hb
  refine⟨cs,h1,h2,h3,h4,fun i hi j hj=> ?_⟩
  obtain⟨v,h6,h7⟩:=h5 i hi j hj
  obtain⟨v0,_,k7⟩:=k5 i hi j hj
  exact⟨v,h6,h7.back x g k7⟩
 ·have:=hw'.tip k (Nat.lt_of_lt_of_le hk g.ids)
  rwa [g.hw k hk]at this
 ·have:=hw'.tfree k (Nat.lt_of_lt_of_le hk g.ids)
  rwa [g.hw k hk]at this
 ·exact hw'.tblk k (Nat.lt_of_lt_of_le hk g.ids) b es (up _ _ hb)
 ·exact hw'.tinj k k' (Nat.lt_of_lt_of_le hk g.ids) (Nat.lt_of_lt_of_le hk' g.ids)
 ·obtain⟨a1,a2,a3,a4,a5⟩:=hw'.jk g' y hj
  exact⟨a1,a2,fun b es hb=>a3 b es (up _ _ hb),fun k hk=>a4 k (Nat.lt_of_lt_of_le hk g.ids),a5⟩
theorem ky:∀ {l l2:List AV},wkL l=some l2→l2.length=l.length∧∀ j (hj:j<l.length) (hj2:j<l2.length),wkA l[j]=some l2[j]
 | [],l2,he=>by simp[wkL]at he;subst he;exact⟨rfl,fun j hj=>by simp at hj⟩
 | v::l,l2,he=>by
   simp only[wkL]at he
   split at he
   ·rename_i v' l' h1 h2
    injection he with he
    subst he
    obtain⟨a1,a2⟩:=ky h2
    refine⟨by simp[a1],fun j hj hj2=> ?_⟩
    cases j with
    | zero=>exact h1
    | succ j=>exact a2 j (by simpa using hj) (by simpa using hj2)
   ·cases he
theorem wc:∀ {l l2:List (List AV)},wkR l=some l2→l2.length=l.length∧∀ j (hj:j<l.length) (hj2:j<l2.length),wkL l[j]=some l2[j]
 | [],l2,he=>by simp[wkR]at he;subst he;exact⟨rfl,fun j hj=>by simp at hj⟩
 | v::l,l2,he=>by
   simp only[wkR]at he
   split at he
   ·rename_i v' l' h1 h2
    injection he with he
    subst he
    obtain⟨a1,a2⟩:=wc h2
    refine⟨by simp[a1],fun j hj hj2=> ?_⟩
    cases j with
    | zero=>exact h1
    | succ j=>exact a2 j (by simpa using hj) (by simpa using hj2)
   ·cases he
theorem VR.weak {h0:AH} {v:AV} {u:Value} (r:VR P m h v u):∀ {v2:AV},wkA v=some v2→VR P m h0 v2 u:=by
 induction r with
 | junk v=>intro v2 he;simp[wkA]at he;subst he;exact .junk v
 | bool b=>intro v2 he;simp[wkA]at he;subst he;exact .bool b
 | int k n=>intro v2 he;simp[wkA]at he;subst he;exact .int k n
 | str l=>intro v2 he;simp[wkA]at he;subst he;exact .str l
 | nilp=>intro v2 he;simp[wkA]at he;subst he;exact .nilp
 | ptr b i off hb=>intro v2 he;simp[wkA]at he
 | tptr t b hb ht=>intro v2 he;simp[wkA]at he
 | ip e off g o F hi hv ih=>intro v2 he;simp[wkA]at he
 | nils=>intro v2 he;simp[wkA]at he;subst he;exact .nils
 | isl id e es gg o cap F hl hi hv hc ht ih=>
   intro v2 he
   simp only[wkA]at he
   obtain⟨es2,h1,rfl⟩:=Option.map_eq_some_iff.1 he
   obtain⟨a1,a2⟩:=wc h1
   have hrow:∀ i (hi:i<es.length) (hi2:i<es2.length),es2[i].length=es[i].length:=fun i hi hi2=>(ky (a2 i hi hi2)).1
   have:es2.length=es.length:=a1
   rw[←this]
   refine .isl none e es2 gg o cap F (fun r hr=> ?_) (fun i hi' j hj=>hi i (by omega) j hj) (fun i hi' j hj=> ?_) (by omega) (fun k hk=>by cases hk)
   ·obtain⟨i,hi2,rfl⟩:=List.getElem_of_mem hr
    rw[hrow i (by omega) hi2]
    exact hl _ (List.getElem_mem _)
   ·have hi0:i<es.length:=by omega
    have hj0:j<es[i].length:=by rw[←hrow i hi0 hi'];exact hj
    exact ih i hi0 j hj0 ((ky (a2 i hi0 hi')).2 j hj0 hj)
 | isl0 e a cap=>intro v2 he;simp[wkA,wkR]at he;subst he;exact .isl0 e a cap
 | msl b o n e cap hb he hcap hn hmx=>intro v2 he;simp[wkA]at he
 | fn g l c l' c' h1 h2 h3 h4 ih1 ih2=>intro v2 he;simp[wkA]at he
 | nilf=>intro v2 he;simp[wkA]at he;subst he;exact .nilf
 | nili=>intro v2 he;simp[wkA]at he;subst he;exact .nili
 | iface t v v' h1 ih=>
   intro v2 he
   simp only[wkA]at he
   obtain⟨v3,h1,rfl⟩:=Option.map_eq_some_iff.1 he
   exact .iface t v3 v' (ih h1)
 | agg l l' h1 h3 ih=>
   intro v2 he
   simp only[wkA]at he
   obtain⟨l2,h2,rfl⟩:=Option.map_eq_some_iff.1 he
   obtain⟨a1,a2⟩:=ky h2
   exact .agg l2 l' (by omega) (fun j hj hj'=>ih j (by omega) hj' (a2 j (by omega) hj))
 | tup l l' h1 h3 ih=>
   intro v2 he
   simp only[wkA]at he
   obtain⟨l2,h2,rfl⟩:=Option.map_eq_some_iff.1 he
   obtain⟨a1,a2⟩:=ky h2
   exact .tup l2 l' (by omega) (fun j hj hj'=>ih j (by omega) hj' (a2 j (by omega) hj))
theorem AC.forget {g:FuncId} {args:List AV} {p:Bool} {q q':(AV ⊕ AV)×AH} (hac:AC P g args h q) (hq:fgA p h q=some q'):AC P g args h q':=by
 unfold fgA at hq
 split at hq
 ·split at hq
  ·rename_i hg
   obtain⟨x,h2⟩:=q
   intro m w vs hw hv
   refine(hac m w vs hw hv).mono fun e w' ⟨m',x1,x2,x3,x4⟩=> ?_
   obtain⟨y1,y2⟩:=hw.back x1 hg x2
   cases x with
   | inl v=>
     obtain⟨v2,e1,rfl⟩:=Option.map_eq_some_iff.1 hq
     obtain⟨u,e2,e3⟩:=x4
     exact⟨m',y1,y2,x3,u,e2,e3.weak e1⟩
   | inr v=>
     obtain⟨v2,e1,rfl⟩:=Option.map_eq_some_iff.1 hq
     obtain⟨u,e2,e3⟩:=x4
     exact⟨m',y1,y2,x3,u,e2,e3.weak e1⟩
  ·cases hq
 ·injection hq with hq
  subst hq
  exact hac
end
open Go Go.RowKit
inductive KR (pl:Nat→List (Nat×List Nat)) (S:Nat→Bool):List bP→List Item→Prop
 | nil:KR pl S [] []
 | code (c:Code) (k:List bP) (K:List Item):cz pl S c=true→KR pl S k K→KR pl S (.code c::k) (.code c::K)
 | inBlock (id:Nat) (k:List bP) (K:List Item):KR pl S k K→KR pl S (.inBlock id::k) (.inBlock id::K)
 | inLoop (c:Code) (k:List bP) (K:List Item):cz pl S c=true→KR pl S k K→KR pl S (.inLoop c::k) (.inLoop c::K)
 | halt (K:List Item) (k:List bP):KR pl S (.halt K::k) K
def xn (P:Program) (po:Pol) (f:FuncId) (k:List bP) (t:List AV) (h:AH) (r:AEx×List AV×AH):Prop:=
 ∀ K,KR (po.plan f) (po.kp f) k K→∀ (b:Frame) (cs:List Frame) (m:Mm) (w:World) (a:Act),WR P m h w→TR P m h t a.tmps→a.defers=b.defers→bK P (po.kp f) m h w b cs (lone (b.at a K) cs w) r
def i7 (P:Program) (po:Pol) (f:FuncId):List bP→List AV→AH→AEx×List AV×AH→Prop
 | .ops true all l::k,t,h,r=>∃ e t' h',qw P po f all l t h e t' h'∧(match e with | none=>xn P po f k t' h' r | some v=>r=(.panic v,t',h'))
 | .ops false all l::k,t,h,r=>∀ is:List Nat,l=is.map (fun i=>(opI all i,[]))→(∀ i∈is,i<all.size)→∀ K,KR (po.plan f) (po.kp f) k K→
   ∀ (b:Frame) (cs:List Frame) (m:Mm) (w:World) (a:Act),WR P m h w→TR P m h t a.tmps→a.defers=b.defers→bK P (po.kp f) m h w b cs (lone (b.at a (.inRegion all is::K)) cs w) r
 | k,t,h,r=>xn P po f k t h r
section
variable {P:Program} {po:Pol} {f:FuncId} {k:List bP} {t:List AV} {h h':AH} {r:AEx×List AV×AH}
theorem i7.good (hm:i7 P po f k t h r):xn P po f k t h r:=by
 rcases k with _ | ⟨x,k⟩
 ·exact hm
 ·cases x with
  | ops d all l=>intro K hK;cases hK
  | _=>exact hm
theorem zB {pl:Nat→List (Nat×List Nat)} {S:Nat→Bool} {id:Nat}:∀ {k k':List bP} {K:List Item},KR pl S k K→fD id k=some k'→∃ K',exitTo id K=some K'∧KR pl S k' K':=by
 intro k k' K hk
 induction hk with
 | nil=>intro he;simp[fD]at he
 | code c k K _ _ ih=>intro he;simp only[fD]at he;simpa[exitTo]using ih he
 | inBlock i k K hk ih=>
   intro he
   simp only[fD]at he
   by_cases hi:i=id
   ·rw[if_pos hi]at he
    injection he with he
    subst he
    exact⟨K,by simp[exitTo,hi],hk⟩
   ·rw[if_neg hi]at he
    simpa[exitTo,hi]using ih he
 | inLoop c k K _ _ ih=>intro he;simp only[fD]at he;simpa[exitTo]using ih he
 | halt K k=>intro he;simp[fD]at he
theorem nq (pok:POK P po) {o:Oper} {v:AV} {m:Mm} {w:World} {a:Act} {b:Frame} {cs:List Frame} {K:List Item} {all:Array Oper} {i:Nat} {rest:List Nat} (ho:all[i]? =some o) (hwa:aU all t o=some true)
  (hw:WR P m h w) (ht:TR P m h t a.tmps) (hf:OpF P po f t h o v h'):
  ∃ m' w' u,Ext m h m' h'∧WR P m' h' w'∧VR P m' h' v u∧Below m.base w w'∧Steps P (lone (b.at a (.inRegion all (i::rest)::K)) cs w) (lone (b.at (a.put o.dst u) (.inRegion all rest::K)) cs w'):=by
 have hwt:=dq ht all o hwa
 rcases hf with⟨_,h2⟩ | ⟨g,args,fn,c1,c2,c3,c4⟩
 ·obtain⟨m',w',u,d1,d2,d3,d4,d5⟩:=mh pok.ty hw ht (po.mu f) h2
  exact⟨m',w',u,d2,d3,d4,d5,lF ho hwt d1⟩
 ·obtain⟨vs,v1,v2⟩:=gR (w:=w) ht c1 c2 c3.2 c3.1
  obtain⟨e,w',hR,hst⟩:=iW (b:=b) (cs:=cs) (k:=K) (rest:=rest) ho hwt v2 (c4 m w vs hw v1) (by rintro w' ⟨m',_,_,_,u',h,_⟩;cases h)
  obtain⟨m',x1,x2,x3,u',x4,x5⟩:=hR
  subst x4
  rcases hst with⟨v',h3,h4⟩ | ⟨ch,h3,_⟩
  ·injection h3 with h3
   subst h3
   exact⟨m',w',u',x1,x2,x5,x3,h4⟩
  ·cases h3
theorem vY {S:Nat→Bool} (pok:POK P po) {o:Oper} {v:AV} {m:Mm} {w:World} {a:Act} {b:Frame} {cs:List Frame} {K:List Item} {all:Array Oper} {i:Nat} {rest:List Nat} (ho:all[i]? =some o)
  (hw:WR P m h w) (ht:TR P m h t a.tmps) (hd:a.defers=b.defers) (hf:pq P all o t h v h'):bK P S m h w b cs (lone (b.at a (.inRegion all (i::rest)::K)) cs w) (.panic v,t,h'):=by
 obtain⟨hwa,⟨c1,c2⟩ | ⟨g,args,fn,c1,c2,c3,c4⟩⟩:=hf
 ·have hwt:=dq ht all o hwa
  obtain⟨u',x1,x2⟩:=sA (w:=w) ht c1
  subst c2
  exact⟨m,w,Ext.refl _ _,hw,Below.refl _ _,a,_,u',⟨t,ht,fun _ _=>rfl⟩,hd,x1,xe ho hwt x2⟩
 have hwt:=dq ht all o hwa
 obtain⟨vs,v1,v2⟩:=gR (w:=w) ht c1 c2 c3.2 c3.1
 obtain⟨e,w',hR,hst⟩:=iW (b:=b) (cs:=cs) (k:=K) (rest:=rest) ho hwt v2 (c4 m w vs hw v1) (by rintro w' ⟨m',_,_,_,u',h,_⟩;cases h)
 obtain⟨m',x1,x2,x3,u',x4,x5⟩:=hR
 subst x4
 rcases hst with⟨v',h3,_⟩ | ⟨ch,h3,todo,h4⟩
 ·cases h3
 ·injection h3 with h3
  subst h3
  exact⟨m',w',x1,x2,x3,a,todo,u',⟨t,ht.ext x1,fun _ _=>rfl⟩,hd,x5,h4⟩
theorem nL (pok:POK P po) {g:FuncId} {fn:Func} {c:Code} {args:List AV} (hf:P.funcs[g]? =some fn) (hb:fn.body=some c) (huse:po.use g=true) (hg:xn P po g [.code c] (args++replicate (fn.ntmps - args.length) .junk) h r):
  ∀ q,C5 P fn r=some q→AC P g args h q:=by
 have key:∀ (m:Mm) (w:World) (vs:List Value),WR P m h w→VRs P m h args vs→∀ cs,∃ b:Frame,b.fn=g∧b.kind= .normal∧b.defers=[]∧bK P (po.kp g) m h w b cs (lone (Frame.enter P g vs.toArray .normal) cs w) r:=by
  intro m w vs hw hv cs
  refine⟨Frame.enter P g vs.toArray .normal,rfl,rfl,rfl,?_⟩
  have:=hg [.code c] (.code c _ _ (pok.plan g fn c hf hb huse) .nil) (Frame.enter P g vs.toArray .normal) cs m w {tmps:=(vs++replicate (fn.ntmps - vs.length) undef).toArray,defers:=[]} hw ?_ rfl
  ·have e:(Frame.enter P g vs.toArray .normal).at {tmps:=(vs++replicate (fn.ntmps - vs.length) undef).toArray,defers:=[]} [.code c]=Frame.enter P g vs.toArray .normal:=by
    simp[Frame.enter,Frame.at,hf,hb]
   rwa [e]at this
  ·have hl:=hv.1
   have h2:VRs P m h (args++replicate (fn.ntmps - args.length) .junk) (vs++replicate (fn.ntmps - vs.length) undef):=by
    rw[hl]
    exact VRs.append hv ⟨by simp,fun j hj hj'=>by simp only[List.getElem_replicate];exact .junk _⟩
   refine⟨by simpa using h2.1,fun i hi=> ?_⟩
   have hi2:i<(vs++replicate (fn.ntmps - vs.length) undef).length:=by rw[h2.1];exact hi
   have:=h2.2 i hi hi2
   simp only[Array.getD_eq_getD_getElem?,List.getElem?_toArray,List.getElem?_eq_getElem hi2,Option.getD_some]
   exact this
 obtain⟨x,t',h'⟩:=r
 cases x with
 | ret=>
   intro q hq
   obtain⟨v,hv,rfl⟩:=Option.map_eq_some_iff.1 hq
   intro m w vs hw hvs cs
   obtain⟨b,hb1,hb2,hb3,m',w',h1,h2,h3,a',todo,h4,h5,h6⟩:=key m w vs hw hvs cs
   rw[hb3]at h5
   obtain⟨u,h7,h8⟩:=fM h2 h4 hv
   exact⟨.returned u,w',_,⟨m',h1,h2,h3,u,rfl,h8⟩,h6,hb1,rfl,h5,hb2,fn,by simpa[Frame.at,hb1]using hf,h7⟩
 | halt K=>intro q hq;cases hq
 | panic v=>
   intro q hq
   injection hq with hq
   subst hq
   intro m w vs hw hvs cs
   obtain⟨b,hb1,hb2,hb3,m',w',h1,h2,h3,a',todo,u,_,h4,h5,h6⟩:=key m w vs hw hvs cs
   rw[hb3]at h4
   exact⟨.panicked _,w',_,⟨m',h1,h2,h3,u,rfl,h5⟩,h6,hb1,rfl,h4,fn,by simpa[Frame.at,hb1]using hf⟩
theorem i7.ops_nil {dr:Bool} {all:Array Oper} (hm:i7 P po f k t h r):i7 P po f (.ops dr all []::k) t h r:=by
 cases dr with
 | true=>exact⟨none,t,h,.nil t h,hm.good⟩
 | false=>
   intro is his hlt K hK b cs m w a hw ht hd
   cases is with
   | cons i is=>simp at his
   | nil=>exact bK.steps (.one step_region_end) (hm.good K hK b cs m w a hw ht hd)
theorem i7.ops_step (pok:POK P po) {dr:Bool} {all:Array Oper} {q:Oper×List Oper} {l:List (Oper×List Oper)} {t1:List AV} {h1:AH} (hs:mC P po f all q t h t1 h1) (hm:i7 P po f (.ops dr all l::k) t1 h1 r):i7 P po f (.ops dr all (q::l)::k) t h r:=by
 cases dr with
 | true=>
   obtain⟨e,t',h',h2,h3⟩:=hm
   exact⟨e,t',h',.step _ _ _ _ _ _ _ _ _ hs h2,h3⟩
 | false=>
   intro is his hlt K hK b cs m w a hw ht hd
   cases is with
   | nil=>simp at his
   | cons i is=>
     simp only[List.map_cons,List.cons.injEq]at his
     obtain⟨rfl,his⟩:=his
     have ho:=kF (all:=all) (hlt i (by simp))
     rcases hs with⟨s1,rfl,rfl⟩ | ⟨s1,v,s2,rfl,_⟩
     ·exact bK.steps (mK ho (dq ht all _ s1)) (hm is his (fun j hj=>hlt j (by simp[hj])) K hK b cs m w _ hw (ht.put VR.und _) (by rw[Act.put_defers'];exact hd))
     ·obtain⟨m',w',u,d1,d2,d3,d4,d5⟩:=nq (b:=b) (cs:=cs) (K:=K) (rest:=is) pok ho s1 hw ht s2
      exact bK.steps d5 (bK.after d1 d4 (hm is his (fun j hj=>hlt j (by simp[hj])) K hK b cs m' w' _ d2 ((ht.ext d1).put d3 _) (by rw[Act.put_defers'];exact hd)))
theorem i7.ops_stop (pok:POK P po) {dr:Bool} {all:Array Oper} {q:Oper×List Oper} {l:List (Oper×List Oper)} {v:AV} (hs:pq P all q.1 t h v h'):i7 P po f (.ops dr all (q::l)::k) t h (.panic v,t,h'):=by
 cases dr with
 | true=>exact⟨some v,t,h',.stop _ _ _ _ _ _ hs,rfl⟩
 | false=>
   intro is his hlt K hK b cs m w a hw ht hd
   cases is with
   | nil=>simp at his
   | cons i is=>
     simp only[List.map_cons,List.cons.injEq]at his
     obtain⟨rfl,his⟩:=his
     exact vY pok (kF (hlt i (by simp))) hw ht hd hs
theorem yl (pok:POK P po) {id:Nat} {all:Array Oper} {d:Bool} (hm:i7 P po f (.ops d all (dI d all (po.plan f id))::k) t h r):xn P po f (.code (.region id all d)::k) t h r:=by
 intro K hK b cs m w a hw ht hd
 cases hK with
 | code _ _ K hr hK=>
 cases d with
 | false=>
   refine bK.steps (.one step_region) (hm (List.range all.size) ?_ (fun i hi=>List.mem_range.1 hi) K hK b cs m w a hw ht hd)
   simp only[dI,Bool.false_eq_true,if_false]
   apply List.ext_getElem (by simp)
   intro i h1 h2
   have hi:i<all.size:=by simpa using h1
   simp[opI,hi]
 | true=>
   simp only[cz,Bool.not_true,Bool.false_or]at hr
   rw[Bool.and_eq_true]at hr
   obtain⟨hr,hkp⟩:=hr
   rw[Bool.or_eq_true]at hr
   rcases hr with hr | hr
   case inr=>
    obtain⟨pre,x,y,e0,hne,ix,iy,p1,p2⟩:=uQ hr
    obtain⟨e,t',h',hp,he⟩:=hm
    rw[e0]at hp
    have hx:x<all.size:=by
     obtain⟨q1,q2⟩:pre.length<(pre++[(x,[]),(y,[])]:List (Nat×List Nat)).length∧ixP (pre++[(x,[]),(y,[])]) pre.length=x:=by simp[ixP]
     rw[←q2]
     exact p1.lt _ q1
    have hpl:∀ a b:Nat×List Nat,dI true all (pre++[a,b])=dI true all pre++[(opI all a.1,a.2.map (opI all)),(opI all b.1,b.2.map (opI all))]:=by
     intro a b
     simp[dI,opI]
    rw[hpl]at hp
    obtain⟨s1,s2⟩:=tQ ix iy hp
    have he1:e=none→∀ (m1:Mm) (w1:World) (a1:Act),WR P m1 h' w1→TR P m1 h' t' a1.tmps→a1.defers=b.defers→bK P (po.kp f) m1 h' w1 b cs (lone (b.at a1 K) cs w1) r:=by
     intro e0
     subst e0
     exact fun m1 w1 a1 q1 q2 q3=>he K hK b cs m1 w1 a1 q1 q2 q3
    have he2:∀ v,e=some v→r=(.panic v,t',h'):=by
     intro v e0
     subst e0
     exact he
    have hall:∀ L,gy all (fun _ _=>False) (kZ all) L→bK P (po.kp f) m h w.drew b cs (lone (b.at a (.inRegion all L::K)) cs w.drew) r:=by
     intro L ho
     rcases kP hne hx ho (by simp) (du x) (du y)with ho | ho
     ·refine nP pok p1 hkp (by rw[hpl];exact s1) he1 he2 (ho.mono fun i j hj=> ?_) hw.drew ht hd
      simp only[List.mem_singleton,Prod.mk.injEq]at hj
      exact .inr hj
     ·refine nP pok p2 hkp (by rw[hpl];exact s2) he1 he2 (ho.mono fun i j hj=> ?_) hw.drew ht hd
      simp only[List.mem_singleton,Prod.mk.injEq]at hj
      exact .inr hj
    refine bK.steps (.one step_region_draw) (bK.after (Ext.refl _ _) (Below.refl _ _).drew ?_)
    simp only[Region.schedule,pok.mixed,Bool.true_or,if_true,Region.linearise]
    exact hall _ (z7 p1.edges _ _ _ (by simp) (by simp[List.countP_replicate]))
   have pp:=CT hr
   have hS:∀ d,po.kp f d=true→∀ k,k<(po.plan f id).length→(opP all (po.plan f id) k).dst≠some d:=fun d hd k hk e=>by
    have hlt:=pp.lt k hk
    have hm:=List.all_eq_true.1 hkp (opP all (po.plan f id) k) (Array.mem_toList_iff.2 (Array.mem_of_getElem? (kF hlt)))
    rw[e]at hm
    simp[hd]at hm
   obtain⟨e,t',h',hp,he⟩:=hm
   obtain⟨N,ts,hs,h1,h2,h3,h4,h5,h6⟩:=hp.trace
   generalize hpl:po.plan f id=pl at*
   have hlen:(dI true all pl).length=pl.length:=by simp[dI]
   have hget:∀ i,i<pl.length→(dI true all pl)[i]? =some (opP all pl i,(ckP pl i).map (opI all)):=by
    intro i hi
    simp only[dI,if_true,List.getElem?_map,List.getElem?_eq_getElem hi,Option.map_some,Option.some.injEq]
    have e1:pl.getD i default=pl[i]:=by simp[List.getD,hi]
    simp only[opP,opI,ixP,ckP,e1]
    rfl
   have T:Tra P po f all pl (zOf (po.kp f)) (fun _ _=>False) N ts hs:=⟨pp,by omega,fun i hi=>h5 i _ hi (hget i (by omega))⟩
   subst h2;subst h3;subst h4
   refine bK.steps (.one step_region_draw) (bK.after (Ext.refl _ _) (Below.refl _ _).drew ?_)
   simp only[Region.schedule,pok.mixed,Bool.true_or,if_true,Region.linearise]
   have hm0:m=m.jkd m.jk:=rfl
   rw[hm0]
   refine wn (S:=po.kp f) (J0:=m.jk) hS (r:=r) (K:=K) (b:=b) (cs:=cs) pok (fun e he=>pok.kpz f e he) T ?_ ?_ _ (Array.replicate all.size false) 0 (fun _=>0) m a _ (z7 pp.edges _ _ _ (by simp) ?_) ⟨Nat.zero_le _,by simp,fun j hj hjl=> ?_,fun j hj hjl=> ?_,fun j hj hjl=> ?_,fun j hj=>by omega,fun j _ hj hjl=> ?_,fun j j' _ _ hj hj' hjl=> ?_,hw.drew,?_,hd,fun _ _ h=>h⟩
   ·cases e with
    | none=>exact .inl (by omega)
    | some v=>
      obtain⟨q,hq,hst⟩:=h6
      have hN:N<pl.length:=by
       have:=(List.getElem?_eq_some_iff.1 hq).1
       omega
      rw[hget N hN]at hq
      injection hq with hq
      subst hq
      exact .inr ⟨v,h',hN,hst,he⟩
   ·intro hN m1 w1 a1 q1 q2 q3
    cases e with
    | none=>
      obtain⟨_,h6⟩:=h6
      subst h6
      exact he K hK b cs m1 w1 a1 q1 q2 q3
    | some v=>
      obtain⟨q,hq,hst⟩:=h6
      have:=(List.getElem?_eq_some_iff.1 hq).1
      omega
   ·simp[List.countP_replicate]
   ·simp[Array.getD_eq_getD_getElem?,hj]at hjl
   ·simp[Array.getD_eq_getD_getElem?,hj]at hjl
   ·have:=pp.lt j hj
    simp[Array.getD_eq_getD_getElem?,this]at hjl
   ·have:=pp.lt j hj
    simp[Array.getD_eq_getD_getElem?,this]at hjl
   ·have:=pp.lt j hj
    simp[Array.getD_eq_getD_getElem?,this]at hjl
   ·have hl:=T.len 0 (Nat.zero_le _)
    refine TR.of (by rw[bI,←hl];exact ht.1) fun d hdl=> ?_
    have hdl':d<(ts 0).length:=by rw[bI]at hdl;omega
    by_cases hrd:fF all pl (Array.replicate all.size false) 0 d
    ·rw[dV hrd]
     have e3:=T.keep d 0 N (by omega) (fun j _ hj he=>by
      have hjl:j<pl.length:=by omega
      have:=(hrd j hjl he).2
      omega)
     rw[Nat.zero_add]at e3
     rw[e3]
     exact ht.slot hdl'
    ·rw[kc hrd]
     exact .junk _
end
theorem iF {P:Program} {po:Pol} (pok:POK P po):∀ (f:FuncId) (k:List bP) (t:List AV) (h:AH) (r:AEx×List AV×AH),aX P po f k t h=some r→i7 P po f k t h r:=by
 refine aX.partial_correctness P po (i7 P po) fun run ih f k t h r hr=> ?_
 split at hr
 ·injection hr with hr
  subst hr
  intro K hK b cs m w a hw ht hd
  cases hK
  exact⟨m,w,Ext.refl _ _,hw,Below.refl _ _,a,[],ht,hd,.one step_end⟩
 ·rename_i id k
  intro K hK b cs m w a hw ht hd
  cases hK with
  | inBlock _ _ K hK=>exact bK.steps (.one step_inBlock) ((ih _ _ _ _ _ hr).good K hK b cs m w a hw ht hd)
 ·rename_i KH k
  injection hr with hr
  subst hr
  intro K hK b cs m w a hw ht hd
  cases hK
  exact⟨m,w,Ext.refl _ _,hw,Below.refl _ _,a,ht,hd,Steps.refl _ _⟩
 ·rename_i c k
  intro K hK b cs m w a hw ht hd
  cases hK with
  | inLoop _ _ K hc hK=>exact bK.steps (.one step_inLoop) ((ih _ _ _ _ _ hr).good _ (.code c _ _ hc (.inLoop c _ _ hc hK)) b cs m w a hw (ht.clear _) hd)
 ·exact(ih _ _ _ _ _ hr).ops_nil
 ·rename_i dr all o ck l k
  split at hr
  ·cases hr
  ·rename_i hwa
   exact i7.ops_step pok (.inl ⟨hwa,rfl,rfl⟩) (ih _ _ _ _ _ hr)
  ·rename_i hwa
   split at hr
   ·rename_i v hpa
    injection hr with hr
    subst hr
    exact i7.ops_stop (q:=(o,ck)) pok ⟨hwa,.inl ⟨hpa,rfl⟩⟩
   split at hr
   ·rename_i g args hca
    split at hr
    ·rename_i F hF
     obtain⟨⟨x,h1⟩,hx,hr⟩:=Option.bind_eq_some_iff.1 hr
     obtain⟨fn,hfn,hbn,hac⟩:=pok.ext g F hF
     cases x with
     | inl v=>
       simp only at hr
       split at hr
       ·rename_i hck
        exact i7.ops_step (q:=(o,ck)) pok (.inr ⟨hwa,v,.inr ⟨g,args,fn,hca,hfn,hbn,hac args h _ hx⟩,rfl,hck⟩) (ih _ _ _ _ _ hr)
       ·cases hr
     | inr v=>
       simp only at hr
       injection hr with hr
       subst hr
       exact i7.ops_stop pok ⟨hwa,.inr ⟨g,args,fn,hca,hfn,hbn,hac args h _ hx⟩⟩
    ·split at hr
     ·cases hr
     ·rename_i fn hfn
      split at hr
      ·cases hr
      ·rename_i c hc
       split at hr
       ·cases hr
       ·rename_i hu
        have huse:po.use g=true:=by simpa using hu
        obtain⟨r1,hx,hr⟩:=Option.bind_eq_some_iff.1 hr
        obtain⟨q1,hq1,hr⟩:=Option.bind_eq_some_iff.1 hr
        obtain⟨⟨x,h1⟩,hq2,hr⟩:=Option.bind_eq_some_iff.1 hr
        have hac:=(nL pok hfn hc huse (ih _ _ _ _ _ hx).good q1 hq1).forget hq2
        have hok:fn.body.isNone=false∧(fn.name== "runtime.NumGoroutine")=false:=⟨by simp[hc],pok.name g fn hfn huse⟩
        cases x with
        | inl v=>
          simp only at hr
          split at hr
          ·rename_i hck
           exact i7.ops_step (q:=(o,ck)) pok (.inr ⟨hwa,v,.inr ⟨g,args,fn,hca,hfn,hok,hac⟩,rfl,hck⟩) (ih _ _ _ _ _ hr)
          ·cases hr
        | inr v=>
          simp only at hr
          injection hr with hr
          subst hr
          exact i7.ops_stop pok ⟨hwa,.inr ⟨g,args,fn,hca,hfn,hok,hac⟩⟩
   ·rename_i hca
    obtain⟨⟨v,h1⟩,hx,hr⟩:=Option.bind_eq_some_iff.1 hr
    simp only at hr
    split at hr
    ·rename_i hck
     exact i7.ops_step (q:=(o,ck)) pok (.inr ⟨hwa,v,.inl ⟨hca,hx⟩,rfl,hck⟩) (ih _ _ _ _ _ hr)
    ·cases hr
 ·rename_i c k
  split at hr
  ·intro K hK b cs m w a hw ht hd
   cases hK with
   | code _ _ K hc hK=>exact bK.steps (.one step_skip) ((ih _ _ _ _ _ hr).good K hK b cs m w a hw ht hd)
  ·intro K hK b cs m w a hw ht hd
   cases hK with
   | code _ _ K hc hK=>exact bK.steps (.one step_label) ((ih _ _ _ _ _ hr).good K hK b cs m w a hw ht hd)
  ·intro K hK b cs m w a hw ht hd
   cases hK with
   | code _ _ K hc hK=>
     simp only[cz,Bool.and_eq_true]at hc
     exact bK.steps (.one step_seq) ((ih _ _ _ _ _ hr).good _ (.code _ _ _ hc.1 (.code _ _ _ hc.2 hK)) b cs m w a hw ht hd)
  ·rename_i c x y
   split at hr
   ·rename_i bb hev
    intro K hK b cs m w a hw ht hd
    cases hK with
    | code _ _ K hc hK=>
      simp only[cz,Bool.and_eq_true]at hc
      have hv:=ay ht c
      rw[hev]at hv
      have hbool:a.eval c= .bool bb:=by
       revert hv
       generalize a.eval c=q
       intro hv
       cases hv
       rfl
      refine bK.steps (.one (step_cond hbool)) ?_
      cases bb with
      | true=>exact(ih _ _ _ _ _ (by simpa using hr)).good _ (.code _ _ _ hc.1 hK) b cs m w a hw ht hd
      | false=>exact(ih _ _ _ _ _ (by simpa using hr)).good _ (.code _ _ _ hc.2 hK) b cs m w a hw ht hd
   ·cases hr
  ·intro K hK b cs m w a hw ht hd
   cases hK with
   | code _ _ K hc hK=>
     exact bK.steps (.one step_block) ((ih _ _ _ _ _ hr).good _ (.code _ _ _ (by simpa[cz]using hc) (.inBlock _ _ _ hK)) b cs m w a hw ht hd)
  ·intro K hK b cs m w a hw ht hd
   cases hK with
   | code _ _ K hc hK=>
     have hc':=hc
     simp only[cz]at hc'
     exact bK.steps (.one step_loop) ((ih _ _ _ _ _ hr).good _ (.code _ _ _ hc' (.inLoop _ _ _ hc' hK)) b cs m w a hw (ht.clear _) hd)
  ·obtain⟨k',hk',hr⟩:=Option.bind_eq_some_iff.1 hr
   intro K hK b cs m w a hw ht hd
   cases hK with
   | code _ _ K hc hK=>
     obtain⟨K',h1,h2⟩:=zB hK hk'
     exact bK.steps (.one (step_exit h1)) ((ih _ _ _ _ _ hr).good K' h2 b cs m w a hw ht hd)
  ·injection hr with hr
   subst hr
   intro K hK b cs m w a hw ht hd
   cases hK with
   | code _ _ K hc hK=>exact⟨m,w,Ext.refl _ _,hw,Below.refl _ _,a,_,ht,hd,.one step_ret⟩
  ·exact yl pok (ih _ _ _ _ _ hr)
  ·cases hr
theorem qd {P:Program} {po:Pol} (pok:POK P po) {g:FuncId} {args:List AV} {h:AH} {r:(AV ⊕ AV)×AH} (hr:ai P po g args h=some r):AC P g args h r:=by
 unfold ai at hr
 split at hr
 ·rename_i F hF
  obtain⟨fn,_,_,hac⟩:=pok.ext g F hF
  exact hac args h r hr
 ·split at hr
  ·cases hr
  ·rename_i fn hfn
   split at hr
   ·cases hr
   ·rename_i c hc
    split at hr
    ·cases hr
    ·rename_i hu
     have huse:po.use g=true:=by simpa using hu
     obtain⟨r1,hx,hr⟩:=Option.bind_eq_some_iff.1 hr
     obtain⟨q1,hq1,hr⟩:=Option.bind_eq_some_iff.1 hr
     exact(nL pok hfn hc huse (iF pok _ _ _ _ _ hx).good q1 hq1).forget hr
inductive Arg where
 | v (j:Nat)
 | l (i:Nat)
 | c (a:AV)
def arg (V L:List AV):Arg→AV
 | .v j=>V.getD j .junk
 | .l i=>L.getD i .junk
 | .c a=>a
inductive RO where
 | mv (x:Arg)
 | pick (c x y:Arg)
 | build (z:List AV) (pl:List (Nat×Nat)) (parts:List (Nat×Arg))
 | nilc (x:Arg)
 | bin (kd:Kd) (op:BinOp) (x y:Arg)
 | binG (kd:Kd) (ks:Option (List Kd)) (cy:Bool) (op:BinOp) (x y:Arg)
 | un (op:UnOp) (x:Arg)
 | conv (kd:Kd) (x:Arg)
 | mki (t:TypeId) (x:Arg)
 | mkf (g:FuncId) (first captured:List Arg)
 | slc (s:Bool) (e:Option TypeId) (x:Arg) (lo hi:Option Arg)
 | fad (off:Nat) (x:Arg)
 | fld (agg:Bool) (n off:Nat) (x:Arg)
 | ixa (e:Option TypeId) (ar:Option (Nat×Nat)) (x k:Arg)
 | ix (s:Bool) (ar:Option (Nat×Nat×Bool)) (x k:Arg)
 | tas (aS:TypeId) (ok:Bool) (x:Arg)
 | ext (x:Arg) (i:Nat)
 | len (s:Bool) (e:Option TypeId) (x:Arg)
 | alloc (z:List AV)
 | talloc (t:TypeId) (z:List AV)
 | mm (mx:Bool) (x y:Arg)
 | box (n:Nat) (x:Arg)
 | tbox (t:TypeId) (n:Nat) (x:Arg)
 | bsl (mu:Bool) (e:TypeId) (z:List AV) (n len:Nat) (parts:List (Nat×Arg))
 | load (agg:Bool) (n:Nat) (x:Arg)
 | store (n:Nat) (a x:Arg)
 | mks (e:TypeId) (z:List AV) (l c:Arg)
 | app (mu:Bool) (e:TypeId) (x y:Arg)
 | apps (mu:Bool) (e:TypeId) (x y:Arg)
 | call (f:Arg) (args:List Arg)
 | pan (x:Arg)
inductive RD where
 | l
 | v (j:Nat)
 | n
structure RCk where
 guard:Option (Arg×Bool)
 agg:Bool
 n:Nat
 a:Arg
 d:Arg
inductive RI where
 | i (d:RD) (o:RO)
 | g (a:Arg) (w:Bool) (d:RD) (o:RO)
 | ck (l:List RCk)
inductive RS where
 | ops (l:List RI)
 | cond (a:Arg) (x y:List RS)
 | block (id:Nat) (b:List RS)
 | loop (b:List RS)
 | exit (id:Nat)
 | ret
inductive RK where
 | ss (l:List RS)
 | ops (l:List RI)
 | blk (id:Nat)
 | lp (b:List RS)
 | halt (K:List Item)
inductive jV where
 | v (j:Nat)
 | cell (agg:Bool) (n:Nat) (j:Nat)
def cj (e:Option TypeId) (ar:Option (Nat×Nat)) (x k:AV):Option AV:=
 match x,k with
 | .isl _ el es,.int _ k=>if e=some el∧0≤k then(es[k.toNat]?).map fun e=> .ip e 0 else none
 | .msl b o n el,.int _ k=>if e=some el∧0≤k∧k<n then some (.ptr b (o+k.toNat) 0)else none
 | .ptr b i off,.int _ k=>ar.bind fun q=>if q.2≠0∧0≤k∧k<q.1 then some (.ptr b i (off+k.toNat*q.2))else none
 | .ip e off,.int _ k=>ar.bind fun q=>if q.2≠0∧0≤k∧k<q.1 then some (.ip e (off+k.toNat*q.2))else none
 | _,_=>none
def ixR (s:Bool) (ar:Option (Nat×Nat×Bool)) (x k:AV):Option AV:=
 match x,k with
 | .str l,.int _ k=>if s=true∧0≤k then(l[k.toNat]?).map fun c=> .int .u8 c.toNat else none
 | .agg cs,.int _ k=>ar.bind fun q=>if q.2.1≠0∧0≤k∧k<q.1 then ldA q.2.2 q.2.1 cs (k.toNat*q.2.1)else none
 | _,_=>none
def cU (s:Bool) (e:Option TypeId):AV→Bool
 | .str _=>s
 | .isl _ el _=>e==some el
 | .msl _ _ _ el=>e==some el
 | .nils=>e.isSome
 | _=>false
def wQ:AV→Option AV
 | .ptr b i off=>some (.ptr b i off)
 | .tptr t b=>some (.tptr t b)
 | .ip e off=>some (.ip e off)
 | .fn f a c=>some (.fn f a c)
 | .iface q v=>some (.iface q v)
 | _=>none
def Kj:Kd→Bool
 | .iface=>true
 | _=>false
def je (kd:Kd) (ks:Option (List Kd)) (cy:Bool) (op:BinOp) (x y:AV):Option AV:=
 match x,y with
 | .nili,.nili=>if Kj kd && cy then(match op with | .eql=>some (.bool true) | .neq=>some (.bool false) | _=>none)else none
 | .agg xs,.agg ys=>ks.bind fun ks=>match op with
   | .eql=>(cX ks xs ys).map fun b=> .bool b
   | .neq=>(cX ks xs ys).map fun b=> .bool !b
   | _=>none
 | a,b=>bk kd op a b
def GK (c x y:AV):Option AV:=match c with
 | .bool v=>some (if v then x else y)
 | _=>none
def Hw (t:TypeId) (x:AV):Option AV:=if x.one then some (.iface t x)else match x with
 | .agg cs=>some (.iface t (.agg cs))
 | _=>none
def Cc (aS:TypeId) (ok:Bool):AV→Option AV
 | .iface q v=>if q=aS then some (if ok then .tup [v,.bool true]else v)else none
 | _=>none
def Lp (x:AV) (i:Nat):Option AV:=match x with
 | .tup vs=>vs[i]?
 | _=>none
def G8 (agg:Bool) (n off:Nat):AV→Option AV
 | .agg cs=>ldA agg n cs off
 | _=>none
def Ko (e:TypeId) (z:List AV) (l c:AV) (h:AH):Option (AV×AH):=match l,c with
 | .int _ n,.int _ m=>if 0≤n∧n=m∧n≤100000 then some (.msl h.n 0 n.toNat e,h.push (replicate n.toNat z))else none
 | _,_=>none
def bA (V L:List AV) (h:AH):RO→Option (AV×AH)
 | .mv x=>some (arg V L x,h)
 | .pick c x y=>(GK (arg V L c) (arg V L x) (arg V L y)).map fun v=>(v,h)
 | .build z pl parts=>(gA pl z (parts.map fun q=>(q.1,arg V L q.2))).map fun cs=>(.agg cs,h)
 | .nilc x=>(wQ (arg V L x)).map fun v=>(v,h)
 | .bin kd op x y=>(bk kd op (arg V L x) (arg V L y)).map fun v=>(v,h)
 | .binG kd ks cy op x y=>(je kd ks cy op (arg V L x) (arg V L y)).map fun v=>(v,h)
 | .un op x=>(unA op (arg V L x)).map fun v=>(v,h)
 | .conv kd x=>(cvA kd (arg V L x)).map fun v=>(v,h)
 | .mki t x=>(Hw t (arg V L x)).map fun v=>(v,h)
 | .mkf g first captured=>some (.fn g (first.map (arg V L)) (captured.map (arg V L)),h)
 | .slc s e x lo hi=>if cU s e (arg V L x)then(ju (arg V L x) (lo.map (arg V L)) (hi.map (arg V L))).map fun v=>(v,h)else none
 | .fad off x=>(aH off (arg V L x)).map fun v=>(v,h)
 | .fld agg n off x=>(G8 agg n off (arg V L x)).map fun v=>(v,h)
 | .ixa e ar x k=>(cj e ar (arg V L x) (arg V L k)).map fun v=>(v,h)
 | .ix s ar x k=>(ixR s ar (arg V L x) (arg V L k)).map fun v=>(v,h)
 | .tas aS ok x=>(Cc aS ok (arg V L x)).map fun v=>(v,h)
 | .ext x i=>(Lp (arg V L x) i).map fun v=>(v,h)
 | .len s e x=>if cU s e (arg V L x)then(dO (arg V L x)).map fun(n:Nat)=>(i64 n,h)else none
 | .alloc z=>some (.ptr h.n 0 0,h.push [z])
 | .talloc t z=>some (.tptr t h.n,h.push [z])
 | .mm mx x y=>(mmA mx (arg V L x) (arg V L y)).map fun v=>(v,h)
 | .box n x=>if(arg V L x).cells.all AV.one∧(arg V L x).cells.length=n then some (.ptr h.n 0 0,h.push [(arg V L x).cells])else none
 | .tbox t n x=>if(arg V L x).cells.all AV.one∧(arg V L x).cells.length=n then some (.tptr t h.n,h.push [(arg V L x).cells])else none
 | .bsl mu e z n len parts=>(jc n (replicate len z) (parts.map fun q=>(q.1,arg V L q.2))).map fun es=>
    if mu then(.msl h.n 0 len e,h.push es)else(.isl (some h.ids) e es,h.fresh len)
 | .load agg n x=>(aK agg n h (arg V L x)).map fun v=>(v,h)
 | .store n a x=>(aE n h (arg V L a) (arg V L x)).map fun h'=>(.junk,h')
 | .mks e z l c=>Ko e z (arg V L l) (arg V L c) h
 | .app mu e x y=>aG mu e (arg V L x) (arg V L y) h
 | .apps mu e x y=>lX mu e (arg V L x) (arg V L y) h
 | .call _ _=>none
 | .pan _=>none
def lq (V L:List AV) (a:Arg) (w:Bool):Option Bool:=match arg V L a with
 | .bool b=>some (if w then b else !b)
 | .tup _=>some false
 | _=>none
def nz (V L:List AV):Option (Arg×Bool)→Option Bool
 | none=>some true
 | some (a,w)=>lq V L a w
def rW (V L:List AV) (h:AH):List RCk→Prop
 | []=>True
 | q::r=>(match nz V L q.guard with
    | some true=>aK q.agg q.n h (arg V L q.a)=some (arg V L q.d)
    | _=>True)∧rW V L h r
def aQ (V L:List AV):RO→Option (FuncId×List AV)
 | .call f args=>match arg V L f with
   | .fn g first captured=>some (g,first++args.map (arg V L)++captured)
   | _=>none
 | _=>none
def wm (V L:List AV):RO→Option AV
 | .pan x=>match arg V L x with
   | .iface q v=>some (.iface q v)
   | _=>none
 | _=>none
def fC (V:List AV) (v:AV):RD→List AV
 | .v j=>V.set j v
 | _=>V
def gt (L:List AV) (v:AV):RD→List AV
 | .l=>v::L
 | _=>L
def ez (id:Nat):List RK→Option (List RK)
 | []=>none
 | .blk i::k=>if i=id then some k else ez id k
 | .halt _::_=>none
 | _::k=>ez id k
open Classical in
noncomputable def ap (C:FuncId→List AV→AH→Option ((AV ⊕ AV)×AH)) (nv:Nat) (k:List RK) (V L:List AV) (h:AH):Option (AEx×List AV×AH):=
 match k with
 | []=>some (.ret,V,h)
 | .ss []::k=>ap C nv k V L h
 | .ss (s::l)::k=>
   match s with
   | .ops is=>ap C nv (.ops is:: .ss l::k) V [] h
   | .cond a x y=>match arg V [] a with
     | .bool b=>if b then ap C nv (.ss x:: .ss l::k) V [] h else ap C nv (.ss y:: .ss l::k) V [] h
     | _=>none
   | .block id b=>ap C nv (.ss b:: .blk id:: .ss l::k) V L h
   | .loop b=>ap C nv (.lp b:: .ss l::k) V L h
   | .exit id=>ez id k>>= fun k'=>ap C nv k' V L h
   | .ret=>some (.ret,V,h)
 | .blk _::k=>ap C nv k V L h
 | .halt K::_=>some (.halt K,V,h)
 | .lp b::k=>ap C nv (.ss b:: .lp b::k) (aa nv V) L h
 | .ops []::k=>ap C nv k V [] h
 | .ops (.ck l::is)::k=>if rW V L h l then ap C nv (.ops is::k) V L h else none
 | .ops (.i d o::is)::k=>
  match wm V L o with
  | some v=>some (.panic v,V,h)
  | none=>
   match aQ V L o with
   | some (g,args)=>C g args h>>= fun r=>match r.1 with
     | .inl v=>ap C nv (.ops is::k) (fC V v d) (gt L v d) r.2
     | .inr v=>some (.panic v,V,r.2)
   | none=>bA V L h o>>= fun r=>ap C nv (.ops is::k) (fC V r.1 d) (gt L r.1 d) r.2
 | .ops (.g a w d o::is)::k=>
   match lq V L a w with
   | none=>none
   | some false=>ap C nv (.ops is::k) (fC V (.tup []) d) (gt L (.tup []) d) h
   | some true=>
    match wm V L o with
    | some v=>some (.panic v,V,h)
    | none=>
     match aQ V L o with
     | some (g,args)=>C g args h>>= fun r=>match r.1 with
       | .inl v=>ap C nv (.ops is::k) (fC V v d) (gt L v d) r.2
       | .inr v=>some (.panic v,V,r.2)
     | none=>bA V L h o>>= fun r=>ap C nv (.ops is::k) (fC V r.1 d) (gt L r.1 d) r.2
partial_fixpoint
section
variable (P:Program)
def jT (l:List Nat) (i:Nat):Option Nat:=go l 0
where go:List Nat→Nat→Option Nat
 | [],_=>none
 | x::l,n=>if x=i then some n else go l (n+1)
def gc (vm lm:List Nat):Operand→Option Arg
 | .tmp i=>match jT lm i with
   | some k=>some (.l k)
   | none=>(jT vm i).map .v
 | .const v=>some (.c (lM v))
 | .func f=>some (.c (.fn f [] []))
 | .global _=>none
def lE (vm lm:List Nat):List Operand→Option (List Arg)
 | []=>some []
 | x::l=>(gc vm lm x).bind fun a=>(lE vm lm l).map (a::·)
def kS (vm lm:List Nat):List (Nat×Operand)→Option (List (Nat×Arg))
 | []=>some []
 | x::l=>(gc vm lm x.2).bind fun a=>(kS vm lm l).map ((x.1,a)::·)
def wG (vm lm:List Nat):Option Operand→Option (Option Arg)
 | none=>some none
 | some x=>(gc vm lm x).map some
def jO:Kd→Bool
 | .iface | .agg | .other=>false
 | _=>true
def isC:Operand→Bool
 | .const _=>true
 | _=>false
def tT (mu:TypeId→Bool) (vm lm:List Nat) (o:Oper):Option RO:=
 let A:=gc vm lm
 match o.op with
 | .move x=>(A x).map .mv
 | .assign x=>(A x).map .mv
 | .pick c x y=>(A c).bind fun c=>(A x).bind fun x=>(A y).map fun y=> .pick c x y
 | .build ty parts=>(dC P ty).bind fun z=>(kS vm lm parts.toList).bind fun ps=>match eD P ty with
   | some pl=>if pl.all (fun q=>szA P q.2 != 0)then some (.build z (pl.map fun q=>(q.1,szA P q.2)) ps)else none
   | none=>(lY P ty).bind fun q=>if szA P q.2=0 then none else some (.build z ((List.range q.1).map fun i=>(i*szA P q.2,szA P q.2)) ps)
 | .nilCheck x=>(A x).map .nilc
 | .binOp op ty x y _=>(A x).bind fun x'=>(A y).map fun y'=>if jO (bv P ty)then .bin (bv P ty) op x' y' else .binG (bv P ty) (k9 P ty) (isC y) op x' y'
 | .unOp op _ x=>(A x).map (.un op)
 | .convert src dst x=>if(P.underlying src).isNone then none else(A x).map (.conv (bv P dst))
 | .makeInterface ty x=>if jA P ty=false then none else(A x).map (.mki ty)
 | .makeFunc f first captured=>match f with
   | .func g=>(lE vm lm first.toList).bind fun a=>(lE vm lm captured.toList).map fun c=> .mkf g a c
   | _=>none
 | .slice ty x lo hi mx=>if mx.isSome then none else(A x).bind fun x=>(wG vm lm lo).bind fun lo=>(wG vm lm hi).map fun hi=> .slc (dR P ty) (cV P ty) x lo hi
 | .fieldAddr s x f=>((eD P s).bind (·[f]?)).bind fun q=>if szA P q.2=0 then none else(A x).map (.fad q.1)
 | .field s x f=>((eD P s).bind (·[f]?)).bind fun q=>if szA P q.2=0∨(P.underlying q.2).isNone then none else(A x).map (.fld (fp P q.2) (szA P q.2) q.1)
 | .indexAddr ty x ix=>(A x).bind fun x=>(A ix).map fun k=> .ixa (cV P ty) ((lY P ty).map fun q=>(q.1,szA P q.2)) x k
 | .index ty x ix=>(A x).bind fun x=>(A ix).map fun k=> .ix (dR P ty) ((lY P ty).bind fun q=>if(P.underlying q.2).isSome then some (q.1,szA P q.2,fp P q.2)else none) x k
 | .typeAssert x _ aS ok=>if jA P aS=true then(A x).map (.tas aS ok)else none
 | .extract x i=>(A x).map fun x=> .ext x i
 | .call {callee:= .builtin .len,args,argTypes}=>match args.toList,argTypes.toList with
   | [x],ty::_=>(A x).map (.len (dR P ty) (cV P ty))
   | _,_=>none
 | .alloc e=>(dC P e).map fun z=>if mu e then .talloc e z else .alloc z
 | .box e x=>(A x).map fun x=>if mu e then .tbox e (szA P e) x else .box (szA P e) x
 | .buildSlice ty len parts=>(cV P ty).bind fun e=>(dC P e).bind fun z=>if len*szA P e≤16777216 then(kS vm lm parts.toList).map (.bsl (mu ty) e z (szA P e) len)else none
 | .load ty a=>if(P.underlying ty).isNone then none else(A a).map (.load (fp P ty) (szA P ty))
 | .store ty a x=>if szA P ty=0 then none else(A a).bind fun a=>(A x).map (.store (szA P ty) a)
 | .makeSlice ty l c=>(cV P ty).bind fun e=>(dC P e).bind fun z=>(A l).bind fun l=>(A c).map fun c=> .mks e z l c
 | .call {callee:= .builtin .append,args,argTypes}=>match args.toList,argTypes.toList with
   | [x,y],[ty,ty']=>if ty=ty' then(cV P ty).bind fun e=>if(dC P e).isSome then(A x).bind fun x=>(A y).map fun y=> .app (mu ty) e x y else none
     else if dR P ty' then(cV P ty).bind fun e=>if Ga P e then(A x).bind fun x=>(A y).map fun y=> .apps (mu ty) e x y else none else none
   | _,_=>none
 | .call {callee:= .value f,args,..}=>(A f).bind fun f=>(lE vm lm args.toList).map (.call f)
 | .panic x=>(A x).map .pan
 | .call {callee:= .builtin .min,args,..}=>match args.toList with
   | [x,y]=>(A x).bind fun x=>(A y).map (.mm false x)
   | _=>none
 | .call {callee:= .builtin .max,args,..}=>match args.toList with
   | [x,y]=>(A x).bind fun x=>(A y).map (.mm true x)
   | _=>none
 | _=>none
def kN (vm lm:List Nat) (all:Array Oper) (o:Oper):Option (Option (Arg×Bool)):=
 match o.guard with
 | none=>some none
 | some (j,want)=>((all[j]?).bind (·.dst)).bind fun d=>(gc vm lm (.tmp d)).map fun a=>some (a,want)
def Mp (vm lm:List Nat) (all:Array Oper) (o:Oper):Option RCk:=
 match o.op,o.dst with
 | .load ty a,some d=>(kN vm lm all o).bind fun g=>(gc vm lm a).bind fun a=>(gc vm lm (.tmp d)).map fun d=>⟨g,fp P ty,szA P ty,a,d⟩
 | .store ty a x,none=>(kN vm lm all o).bind fun g=>(gc vm lm a).bind fun a=>(gc vm lm x).map fun d=>⟨g,fp P ty,szA P ty,a,d⟩
 | _,_=>none
def om (vm lm:List Nat) (all:Array Oper):List Oper→Option (List RCk)
 | []=>some []
 | o::l=>(Mp P vm lm all o).bind fun q=>(om vm lm all l).map (q::·)
def qU (n:Nat) (vm lm:List Nat):Option Tmp→Option (RD×List Nat)
 | none=>some (.n,lm)
 | some d=>if n≤d∨(jT lm d).isSome then none else match jT vm d with
   | some j=>some (.v j,lm)
   | none=>some (.l,d::lm)
def Lx (g:Option (Arg×Bool)) (d:RD) (r:RO):RI:=match g with
 | none=> .i d r
 | some (a,w)=> .g a w d r
def A7 (c:List RCk) (is:List RI):List RI:=match c with
 | []=>is
 | q::c=> .ck (q::c)::is
def gl (mu:TypeId→Bool) (n:Nat) (vm:List Nat) (all:Array Oper):List Nat→List (Oper×List Oper)→Option (List RI)
 | _,[]=>some []
 | lm,(o,ck)::l=>(tT P mu vm lm o).bind fun r=>(kN vm lm all o).bind fun g=>(qU n vm lm o.dst).bind fun d=>(om P vm d.2 all ck).bind fun c=>(gl mu n vm all d.2 l).map fun is=>
   Lx g d.1 r::A7 c is
def bc (mu:TypeId→Bool) (plan:Nat→List (Nat×List Nat)) (n:Nat) (vm:List Nat):Code→List RS→Option (List RS)
 | .skip,r=>some r
 | .label _,r=>some r
 | .seq a b,r=>(bc mu plan n vm b r).bind fun r=>bc mu plan n vm a r
 | .cond c x y,r=>(gc vm [] c).bind fun c=>(bc mu plan n vm x []).bind fun x=>(bc mu plan n vm y []).map fun y=> .cond c x y::r
 | .block id b,r=>(bc mu plan n vm b []).map fun b=> .block id b::r
 | .loop b,r=>(bc mu plan n vm b []).map fun b=> .loop b::r
 | .exit id,r=>some (.exit id::r)
 | .ret,r=>some (.ret::r)
 | .region id ops d,r=>(gl P mu n vm ops [] (dI d ops (plan id))).map fun is=> .ops is::r
 | _,_=>none
def iL (vm:List Nat):List ResultVar→Option (List jV)
 | []=>some []
 | .tmp i::l=>(jT vm i).bind fun j=>(iL vm l).map (.v j::·)
 | .cell i ty::l=>if(P.underlying ty).isNone then none else(jT vm i).bind fun j=>(iL vm l).map (.cell (fp P ty) (szA P ty) j::·)
end
def ei (V:List AV) (h:AH):List jV→Option (List AV)
 | []=>some []
 | .v j::rs=>(ei V h rs).map fun l=>V.getD j .junk::l
 | .cell agg n j::rs=>(aK agg n h (V.getD j .junk)).bind fun v=>(ei V h rs).map fun l=>v::l
structure RV (n:Nat) (vm lm:List Nat) (t V L:List AV):Prop where
 len:t.length=n
 lv:V.length=vm.length
 ll:L.length=lm.length
 v:∀ j s,vm[j]? =some s→s<n∧t.getD s .junk=V.getD j .junk
 l:∀ j s,lm[j]? =some s→s<n∧t.getD s .junk=L.getD j .junk
section
variable {P:Program} {po:Pol} {f:FuncId} {n:Nat} {vm lm:List Nat} {t V L:List AV} {h:AH} {mu:TypeId→Bool}
theorem vL {i:Nat}:∀ (l:List Nat) (m k:Nat),jT.go i l m=some k→m≤k∧l[k - m]? =some i
 | [],m,k,he=>by simp[jT.go]at he
 | x::l,m,k,he=>by
   simp only[jT.go]at he
   split at he
   ·rename_i hx
    injection he with he
    subst he
    exact⟨Nat.le_refl _,by simp[hx]⟩
   ·obtain⟨h1,h2⟩:=vL l (m+1) k he
    refine⟨by omega,?_⟩
    rw[show k - m=(k - (m+1))+1 by omega,List.getElem?_cons_succ]
    exact h2
theorem iZ {l:List Nat} {i k:Nat} (he:jT l i=some k):l[k]? =some i:=by simpa using(vL l 0 k he).2
theorem lx {i:Nat}:∀ (l:List Nat) (m:Nat),jT.go i l m=none→i ∉ l
 | [],m,_=>by simp
 | x::l,m,he=>by
   simp only[jT.go]at he
   split at he
   ·cases he
   ·rename_i hx
    have:=lx l (m+1) he
    simp only[List.mem_cons,not_or]
    exact⟨fun e=>hx e.symm,this⟩
theorem aq (r:RV n vm lm t V L) {x:Operand} {a:Arg} (he:gc vm lm x=some a):evA t x=arg V L a:=by
 cases x with
 | tmp i=>
   simp only[gc]at he
   split at he
   ·rename_i k hk
    injection he with he
    subst he
    exact(r.l k i (iZ hk)).2
   ·obtain⟨j,hj,rfl⟩:=Option.map_eq_some_iff.1 he
    exact(r.v j i (iZ hj)).2
 | const v=>simp only[gc,Option.some.injEq]at he;subst he;rfl
 | func g=>simp only[gc,Option.some.injEq]at he;subst he;rfl
 | global g=>simp[gc]at he
theorem gQ (r:RV n vm lm t V L):∀ {xs:List Operand} {aS:List Arg},lE vm lm xs=some aS→xs.map (evA t)=aS.map (arg V L)
 | [],aS,he=>by simp[lE]at he;subst he;rfl
 | x::xs,aS,he=>by
   simp only[lE]at he
   obtain⟨a,ha,he⟩:=Option.bind_eq_some_iff.1 he
   obtain⟨aS',has,rfl⟩:=Option.map_eq_some_iff.1 he
   simp[aq r ha,gQ r has]
theorem iT (r:RV n vm lm t V L):∀ {xs:List (Nat×Operand)} {aS:List (Nat×Arg)},kS vm lm xs=some aS→(xs.map fun q=>(q.1,evA t q.2))=aS.map fun q=>(q.1,arg V L q.2)
 | [],aS,he=>by simp[kS]at he;subst he;rfl
 | x::xs,aS,he=>by
   simp only[kS]at he
   obtain⟨a,ha,he⟩:=Option.bind_eq_some_iff.1 he
   obtain⟨aS',has,rfl⟩:=Option.map_eq_some_iff.1 he
   simp[aq r ha,iT r has]
theorem oe (r:RV n vm lm t V L) {x:Option Operand} {a:Option Arg} (he:wG vm lm x=some a):x.map (evA t)=a.map (arg V L):=by
 cases x with
 | none=>simp[wG]at he;subst he;rfl
 | some x=>
   simp only[wG]at he
   obtain⟨a,ha,rfl⟩:=Option.map_eq_some_iff.1 he
   simp[aq r ha]
theorem AD (P:Program) (ty:TypeId) (x:AV):mI P ty x=cU (dR P ty) (cV P ty) x:=by
 cases x<;>rfl
theorem K8 (P:Program) (ty:TypeId) (x k:AV):dj P ty x k=cj (cV P ty) ((lY P ty).map fun q=>(q.1,szA P q.2)) x k:=by
 cases x<;>cases k<;>first | rfl | (simp only[dj,cj];cases lY P ty<;>rfl)
theorem LD (P:Program) (ty:TypeId) (x k:AV):ixA P ty x k=ixR (dR P ty) ((lY P ty).bind fun q=>if(P.underlying q.2).isSome then some (q.1,szA P q.2,fp P q.2)else none) x k:=by
 cases x<;>cases k<;>first | rfl | skip
 simp only[ixA,ixR]
 cases lY P ty with
 | none=>rfl
 | some q=>cases hu:(P.underlying q.2).isSome<;>simp[hu]
theorem Ed (kd:Kd) (op:BinOp):bk kd op .nili .nili=none:=by
 unfold bk
 simp only
 split<;>(cases kd<;>rfl)
theorem DB (kd:Kd) (op:BinOp) (xs ys:List AV):bk kd op (.agg xs) (.agg ys)=none:=by
 unfold bk
 simp only
 split<;>(cases kd<;>rfl)
theorem zS (r:RV n vm lm t V L) {o:Oper} {ro:RO} (he:tT P mu vm lm o=some ro):aN P mu t h o=bA V L h ro∧aA t o=aQ V L ro:=by
 unfold tT at he
 simp only at he
 split at he
 case h_1 x ho=>
  obtain⟨a,ha,rfl⟩:=Option.map_eq_some_iff.1 he
  exact⟨by simp[aN,bD,ho,bA,aq r ha],by simp[aA,aQ,ho]⟩
 case h_2 x ho=>
  obtain⟨a,ha,rfl⟩:=Option.map_eq_some_iff.1 he
  exact⟨by simp[aN,bD,ho,bA,aq r ha],by simp[aA,aQ,ho]⟩
 case h_3 c x y ho=>
  obtain⟨c',hc,he⟩:=Option.bind_eq_some_iff.1 he
  obtain⟨x',hx,he⟩:=Option.bind_eq_some_iff.1 he
  obtain⟨y',hy,rfl⟩:=Option.map_eq_some_iff.1 he
  refine⟨?_,by simp[aA,aQ,ho]⟩
  simp only[aN,bD,ho,bA,aq r hc,aq r hx,aq r hy]
  rfl
 case h_4 ty parts ho=>
  obtain⟨z,hz,he⟩:=Option.bind_eq_some_iff.1 he
  obtain⟨ps,hps,he⟩:=Option.bind_eq_some_iff.1 he
  have hp:=iT r hps
  split at he
  ·rename_i pl hpl
   split at he
   ·rename_i hall
    injection he with he
    subst he
    exact⟨by simp only[aN,bD,ho,bA,hz,hpl,Option.bind_some,hall,if_true,hp,Option.map_map];rfl,by simp[aA,aQ,ho]⟩
   ·cases he
  ·rename_i hpl
   obtain⟨q,hq,he⟩:=Option.bind_eq_some_iff.1 he
   split at he
   ·cases he
   ·rename_i hnz
    injection he with he
    subst he
    exact⟨by simp only[aN,bD,ho,bA,hz,hpl,hq,Option.bind_some,hnz,if_false,hp,Option.map_map];rfl,by simp[aA,aQ,ho]⟩
 case h_5 x ho=>
  obtain⟨a,ha,rfl⟩:=Option.map_eq_some_iff.1 he
  exact⟨by simp only[aN,bD,ho,bA,aq r ha];rfl,by simp[aA,aQ,ho]⟩
 case h_6 op ty x y yt ho=>
  obtain⟨x',hx,he⟩:=Option.bind_eq_some_iff.1 he
  obtain⟨y',hy,rfl⟩:=Option.map_eq_some_iff.1 he
  refine⟨?_,by split<;>simp[aA,aQ,ho]⟩
  have e1:bA V L h (if jO (bv P ty)then .bin (bv P ty) op x' y' else .binG (bv P ty) (k9 P ty) (isC y) op x' y')=
    (if jO (bv P ty)then bk (bv P ty) op (arg V L x') (arg V L y')else je (bv P ty) (k9 P ty) (isC y) op (arg V L x') (arg V L y')).map fun v=>(v,h):=by
   split<;>rfl
  rw[e1]
  have hfl:jO (bv P ty)=true→k9 P ty=none:=by
   intro hk
   unfold k9
   split
   ·rename_i fs hfs
    simp[bv,hfs,jO]at hk
   ·rfl
  have e2:bD P t o=if jO (bv P ty)then bk (bv P ty) op (arg V L x') (arg V L y')else je (bv P ty) (k9 P ty) (isC y) op (arg V L x') (arg V L y'):=by
   simp only[bD,ho,aq r hx,aq r hy]
   generalize arg V L x'=X
   generalize arg V L y'=Y
   generalize bv P ty=kd at*
   generalize k9 P ty=ks at*
   cases hs:jO kd
   ·simp only[Bool.false_eq_true,if_false]
    cases X<;>first | rfl | skip
    ·cases Y<;>first | rfl | (cases kd<;>cases y<;>cases op<;>rfl)
    ·cases Y<;>rfl
   ·simp only[if_true]
    have h0:=hfl hs
    subst h0
    cases X<;>first | rfl | skip
    ·cases Y<;>first | rfl | skip
     rw[Ed]
     cases kd<;>first | rfl | cases hs
    ·cases Y<;>first | rfl | skip
     rw[DB]
     rfl
  simp only[aN,ho]
  rw[e2]
 case h_7 op ty x ho=>
  obtain⟨a,ha,rfl⟩:=Option.map_eq_some_iff.1 he
  exact⟨by simp only[aN,bD,ho,bA,aq r ha],by simp[aA,aQ,ho]⟩
 case h_8 src dst x ho=>
  split at he
  ·cases he
  ·rename_i hn
   obtain⟨a,ha,rfl⟩:=Option.map_eq_some_iff.1 he
   exact⟨by simp only[aN,bD,ho,bA,aq r ha,hn];rfl,by simp[aA,aQ,ho]⟩
 case h_9 ty x ho=>
  split at he
  ·cases he
  ·rename_i hn
   obtain⟨a,ha,rfl⟩:=Option.map_eq_some_iff.1 he
   exact⟨by simp only[aN,bD,ho,bA,aq r ha,hn,if_false];rfl,by simp[aA,aQ,ho]⟩
 case h_10 g first captured ho=>
  split at he
  ·obtain⟨a,ha,he⟩:=Option.bind_eq_some_iff.1 he
   obtain⟨c,hc,rfl⟩:=Option.map_eq_some_iff.1 he
   exact⟨by simp[aN,bD,ho,bA,gQ r ha,gQ r hc],by simp[aA,aQ,ho]⟩
  ·cases he
 case h_11 ty x lo hi mx ho=>
  split at he
  ·cases he
  ·rename_i hmx
   obtain⟨a,ha,he⟩:=Option.bind_eq_some_iff.1 he
   obtain⟨lo',hlo,he⟩:=Option.bind_eq_some_iff.1 he
   obtain⟨hi',hhi,rfl⟩:=Option.map_eq_some_iff.1 he
   refine⟨?_,by simp[aA,aQ,ho]⟩
   simp only[aN,bD,ho,bA,aq r ha,oe r hlo,oe r hhi,AD]
   cases hf:cU (dR P ty) (cV P ty) (arg V L a)<;>simp[hmx]
 case h_12 s x fi ho=>
  obtain⟨q,hq,he⟩:=Option.bind_eq_some_iff.1 he
  split at he
  ·cases he
  ·rename_i hn
   obtain⟨a,ha,rfl⟩:=Option.map_eq_some_iff.1 he
   exact⟨by simp only[aN,bD,ho,bA,aq r ha,hq,Option.bind_some,hn,if_false],by simp[aA,aQ,ho]⟩
 case h_13 s x fi ho=>
  obtain⟨q,hq,he⟩:=Option.bind_eq_some_iff.1 he
  split at he
  ·cases he
  ·rename_i hn
   obtain⟨a,ha,rfl⟩:=Option.map_eq_some_iff.1 he
   exact⟨by simp only[aN,bD,ho,bA,aq r ha,hq,Option.bind_some,hn,if_false];rfl,by simp[aA,aQ,ho]⟩
 case h_14 ty x ix ho=>
  obtain⟨a,ha,he⟩:=Option.bind_eq_some_iff.1 he
  obtain⟨k,hk,rfl⟩:=Option.map_eq_some_iff.1 he
  exact⟨by simp only[aN,bD,ho,bA,aq r ha,aq r hk,K8],by simp[aA,aQ,ho]⟩
 case h_15 ty x ix ho=>
  obtain⟨a,ha,he⟩:=Option.bind_eq_some_iff.1 he
  obtain⟨k,hk,rfl⟩:=Option.map_eq_some_iff.1 he
  exact⟨by simp only[aN,bD,ho,bA,aq r ha,aq r hk,LD],by simp[aA,aQ,ho]⟩
 case h_16 x xt aS ok ho=>
  split at he
  ·rename_i hp
   obtain⟨a,ha,rfl⟩:=Option.map_eq_some_iff.1 he
   refine⟨?_,by simp[aA,aQ,ho]⟩
   simp only[aN,bD,ho,bA,aq r ha,hp,true_and]
   rfl
  ·cases he
 case h_17 x i ho=>
  obtain⟨a,ha,rfl⟩:=Option.map_eq_some_iff.1 he
  exact⟨by simp only[aN,bD,ho,bA,aq r ha];rfl,by simp[aA,aQ,ho]⟩
 case h_18 args argTypes ho=>
  split at he
  ·rename_i x ty tys e1 e2
   obtain⟨a,ha,rfl⟩:=Option.map_eq_some_iff.1 he
   refine⟨?_,by simp[aA,aQ,ho]⟩
   simp only[aN,bD,ho,bA,e1,e2,aq r ha,AD]
   split<;>simp[Option.map_map,Function.comp_def]
  ·cases he
 case h_19 e ho=>
  obtain⟨z,hz,rfl⟩:=Option.map_eq_some_iff.1 he
  refine⟨?_,?_⟩
  ·simp only[aN,ho,hz,Option.map_some]
   split<;>rfl
  ·split<;>simp[aA,aQ,ho]
 case h_20 e x ho=>
  obtain⟨a,ha,rfl⟩:=Option.map_eq_some_iff.1 he
  refine⟨?_,?_⟩
  ·simp only[aN,ho,aq r ha]
   split<;>split<;>simp_all [bA]
  ·split<;>simp[aA,aQ,ho]
 case h_21 ty len parts ho=>
  obtain⟨e,he1,he⟩:=Option.bind_eq_some_iff.1 he
  obtain⟨z,hz,he⟩:=Option.bind_eq_some_iff.1 he
  split at he
  ·rename_i hc
   obtain⟨ps,hps,rfl⟩:=Option.map_eq_some_iff.1 he
   exact⟨by simp only[aN,ho,bA,he1,hz,Option.bind_some,if_pos hc,iT r hps],by simp[aA,aQ,ho]⟩
  ·cases he
 case h_22 ty a ho=>
  split at he
  ·cases he
  ·rename_i hn
   obtain⟨a,ha,rfl⟩:=Option.map_eq_some_iff.1 he
   exact⟨by simp only[aN,ho,bA,aq r ha,hn,if_false];rfl,by simp[aA,aQ,ho]⟩
 case h_23 ty a x ho=>
  split at he
  ·cases he
  ·rename_i hn
   obtain⟨a,ha,he⟩:=Option.bind_eq_some_iff.1 he
   obtain⟨x,hx,rfl⟩:=Option.map_eq_some_iff.1 he
   exact⟨by simp only[aN,ho,bA,aq r ha,aq r hx,hn,if_false],by simp[aA,aQ,ho]⟩
 case h_24 ty l c ho=>
  obtain⟨e,he1,he⟩:=Option.bind_eq_some_iff.1 he
  obtain⟨z,hz,he⟩:=Option.bind_eq_some_iff.1 he
  obtain⟨a,ha,he⟩:=Option.bind_eq_some_iff.1 he
  obtain⟨k,hk,rfl⟩:=Option.map_eq_some_iff.1 he
  exact⟨by simp only[aN,ho,bA,aq r ha,aq r hk,he1,hz,Option.bind_some];rfl,by simp[aA,aQ,ho]⟩
 case h_25 args argTypes ho=>
  split at he
  ·rename_i x y ty ty' e1 e2
   split at he
   ·rename_i ht
    obtain⟨e,he1,he⟩:=Option.bind_eq_some_iff.1 he
    split at he
    ·rename_i hz
     obtain⟨a,ha,he⟩:=Option.bind_eq_some_iff.1 he
     obtain⟨k,hk,rfl⟩:=Option.map_eq_some_iff.1 he
     exact⟨by simp only[aN,ho,bA,e1,e2,aq r ha,aq r hk,if_pos ht,he1,Option.bind_some,if_pos hz],by simp[aA,aQ,ho]⟩
    ·cases he
   ·rename_i ht
    split at he
    ·rename_i hst
     obtain⟨e,he1,he⟩:=Option.bind_eq_some_iff.1 he
     split at he
     ·rename_i h8
      obtain⟨a,ha,he⟩:=Option.bind_eq_some_iff.1 he
      obtain⟨k,hk,rfl⟩:=Option.map_eq_some_iff.1 he
      exact⟨by simp only[aN,ho,bA,e1,e2,aq r ha,aq r hk,if_neg ht,if_pos hst,he1,Option.bind_some,if_pos h8],by simp[aA,aQ,ho]⟩
     ·cases he
    ·cases he
  ·cases he
 case h_26 fo args aty ho=>
  obtain⟨a,ha,he⟩:=Option.bind_eq_some_iff.1 he
  obtain⟨aS,has,rfl⟩:=Option.map_eq_some_iff.1 he
  refine⟨by simp[aN,bD,ho,bA],?_⟩
  simp only[aA,aQ,ho,aq r ha,gQ r has]
  rfl
 case h_27 x ho=>
  obtain⟨a,ha,rfl⟩:=Option.map_eq_some_iff.1 he
  exact⟨by simp[aN,bD,ho,bA],by simp[aA,aQ,ho]⟩
 case h_28 args _ ho=>
  split at he
  ·rename_i x y e1
   obtain⟨a,ha,he⟩:=Option.bind_eq_some_iff.1 he
   obtain⟨k,hk,rfl⟩:=Option.map_eq_some_iff.1 he
   exact⟨by simp only[aN,bD,ho,e1,bA,aq r ha,aq r hk],by simp[aA,aQ,ho]⟩
  ·cases he
 case h_29 args _ ho=>
  split at he
  ·rename_i x y e1
   obtain⟨a,ha,he⟩:=Option.bind_eq_some_iff.1 he
   obtain⟨k,hk,rfl⟩:=Option.map_eq_some_iff.1 he
   exact⟨by simp only[aN,bD,ho,e1,bA,aq r ha,aq r hk],by simp[aA,aQ,ho]⟩
  ·cases he
 case h_30=>cases he
theorem Gq {o:Oper} {x:Arg} (he:tT P mu vm lm o=some (.pan x)):∃ y,o.op= .panic y∧gc vm lm y=some x:=by
 unfold tT at he
 simp only at he
 split at he
 case h_27 y ho=>
  obtain⟨a,ha,e⟩:=Option.map_eq_some_iff.1 he
  injection e with e
  subst e
  exact⟨y,ho,ha⟩
 all_goals
  exfalso
  try (cases he;done)
  try simp only[Option.map_eq_some_iff,Option.bind_eq_some_iff,reduceCtorEq,and_false,exists_false,exists_const]at he
 case h_4=>
  obtain⟨_,_,_,_,he⟩:=he
  split at he
  ·split at he<;>cases he
  ·obtain⟨_,_,he⟩:=Option.bind_eq_some_iff.1 he
   split at he<;>cases he
 all_goals
  repeat' (first
   | (cases he;done)
   | split at he
   | (obtain⟨_,_,he⟩:=he)
   | (simp only[Option.map_eq_some_iff,Option.bind_eq_some_iff,reduceCtorEq,and_false,exists_false,exists_const]at he))
theorem xp (r:RV n vm lm t V L) {o:Oper} {ro:RO} (he:tT P mu vm lm o=some ro):jl t o=wm V L ro:=by
 cases ro with
 | pan x=>
   obtain⟨y,h1,h2⟩:=Gq he
   simp only[jl,h1,wm,aq r h2]
   rfl
 | _=>
   have:jl t o=none:=by
    unfold jl
    split
    ·rename_i x ho
     unfold tT at he
     rw[ho]at he
     simp only at he
     obtain⟨a,ha,e⟩:=Option.map_eq_some_iff.1 he
     cases e
    ·rfl
   rw[this]
   rfl
end
section
variable {P:Program} {po:Pol} {f:FuncId} {n:Nat} {vm lm:List Nat} {t V L:List AV} {h:AH} {mu:TypeId→Bool} {plan:Nat→List (Nat×List Nat)}
theorem C2 {l:List Nat} (h:l.Nodup) {i j s:Nat} (hi:l[i]? =some s) (hj:l[j]? =some s):i=j:=by
 obtain⟨a1,a2⟩:=List.getElem?_eq_some_iff.1 hi
 obtain⟨b1,b2⟩:=List.getElem?_eq_some_iff.1 hj
 have:=List.pairwise_iff_getElem.1 h
 rcases Nat.lt_trichotomy i j with h | h | h
 ·exact absurd (a2.trans b2.symm) (this i j a1 b1 h)
 ·exact h
 ·exact absurd (b2.trans a2.symm) (this j i b1 a1 h)
theorem wS (r:RV n vm lm t V L) (hnd:vm.Nodup) {dst:Option Tmp} {d:RD×List Nat} (he:qU n vm lm dst=some d) (v:AV):RV n vm d.2 (bu t dst v) (fC V v d.1) (gt L v d.1):=by
 cases dst with
 | none=>simp only[qU,Option.some.injEq]at he;subst he;exact r
 | some s=>
   simp only[qU]at he
   split at he
   ·cases he
   ·rename_i hc
    simp only[not_or,Nat.not_le,Option.isSome_iff_ne_none,ne_eq,Classical.not_not]at hc
    obtain⟨c1,c2⟩:=hc
    have hnl:=lx lm 0 c2
    split at he
    ·rename_i j hj
     injection he with he
     subst he
     have hj':=iZ hj
     refine⟨by simp[bu,r.len],by simp[fC,r.lv],r.ll,fun i q hq=> ?_,fun i q hq=> ?_⟩
     ·obtain⟨h1,h2⟩:=r.v i q hq
      refine⟨h1,?_⟩
      by_cases hij:i=j
      ·subst hij
       rw[hj']at hq
       injection hq with hq
       subst hq
       have hlt:i<V.length:=by rw[r.lv];exact(List.getElem?_eq_some_iff.1 hj').1
       rw[oQ rfl (by rw[r.len];exact h1)]
       simp[fC,List.getD,hlt]
      ·have hne:s≠q:=by
        intro e
        subst e
        exact hij (C2 hnd hq hj')
       rw[kM (by simpa using hne),h2]
       simp[fC,List.getD,List.getElem?_set_ne (Ne.symm hij)]
     ·obtain⟨h1,h2⟩:=r.l i q hq
      refine⟨h1,?_⟩
      have hne:s≠q:=fun e=>hnl (by rw[e];exact List.mem_of_getElem? hq)
      rw[kM (by simpa using hne),h2]
      rfl
    ·rename_i hj
     injection he with he
     subst he
     have hnv:=lx vm 0 hj
     refine⟨by simp[bu,r.len],r.lv,by simp[gt,r.ll],fun i q hq=> ?_,fun i q hq=> ?_⟩
     ·obtain⟨h1,h2⟩:=r.v i q hq
      have hne:s≠q:=fun e=>hnv (by rw[e];exact List.mem_of_getElem? hq)
      exact⟨h1,by rw[kM (by simpa using hne),h2];rfl⟩
     ·cases i with
      | zero=>
        simp only[List.getElem?_cons_zero,Option.some.injEq]at hq
        subst hq
        exact⟨c1,by rw[oQ rfl (by rw[r.len];exact c1)];rfl⟩
      | succ i=>
        simp only[List.getElem?_cons_succ]at hq
        obtain⟨h1,h2⟩:=r.l i q hq
        have hne:s≠q:=fun e=>hnl (by rw[e];exact List.mem_of_getElem? hq)
        exact⟨h1,by rw[kM (by simpa using hne),h2];rfl⟩
theorem fT (r:RV n vm lm t V L) {all:Array Oper} {o:Oper} {g:Option (Arg×Bool)} (he:kN vm lm all o=some g):aU all t o=nz V L g:=by
 unfold kN at he
 split at he
 ·rename_i hg
  injection he with he
  subst he
  simp[aU,hg,nz]
 ·rename_i j want hg
  obtain⟨d,hd,he⟩:=Option.bind_eq_some_iff.1 he
  obtain⟨a,ha,rfl⟩:=Option.map_eq_some_iff.1 he
  have:=aq r ha
  simp only[evA]at this
  simp only[aU,hg,hd,this,nz,lq]
  rfl
theorem kB (r:RV n vm lm t V L) {all:Array Oper}:∀ {l:List Oper} {c:List RCk},om P vm lm all l=some c→rW V L h c→kV P all t h l
 | [],c,_,_=>trivial
 | o::l,c,he,hc=>by
   simp only[om]at he
   obtain⟨q,hq,he⟩:=Option.bind_eq_some_iff.1 he
   obtain⟨c',hc',rfl⟩:=Option.map_eq_some_iff.1 he
   obtain⟨h1,h2⟩:=hc
   refine⟨?_,kB r hc' h2⟩
   unfold Mp at hq
   split at hq
   ·rename_i ty a d ho hd
    obtain⟨g,hg,hq⟩:=Option.bind_eq_some_iff.1 hq
    obtain⟨a',ha,hq⟩:=Option.bind_eq_some_iff.1 hq
    obtain⟨d',hd',rfl⟩:=Option.map_eq_some_iff.1 hq
    rw[fT r hg]
    have e1:=aq r ha
    have e2:=aq r hd'
    simp only[evA]at e2
    simp only at h1
    split at h1
    ·rename_i hw
     rw[hw]
     simp only[ho,hd,e1,e2]
     exact h1
    ·rename_i hw
     split
     ·rename_i hw'
      exact absurd hw' hw
     ·trivial
   ·rename_i ty a x ho hd
    obtain⟨g,hg,hq⟩:=Option.bind_eq_some_iff.1 hq
    obtain⟨a',ha,hq⟩:=Option.bind_eq_some_iff.1 hq
    obtain⟨d',hd',rfl⟩:=Option.map_eq_some_iff.1 hq
    rw[fT r hg]
    have e1:=aq r ha
    have e2:=aq r hd'
    simp only at h1
    split at h1
    ·rename_i hw
     rw[hw]
     simp only[ho,hd,e1,e2]
     exact h1
    ·rename_i hw
     split
     ·rename_i hw'
      exact absurd hw' hw
     ·trivial
   ·cases hq
def trL (P:Program) (mu:TypeId→Bool) (plan:Nat→List (Nat×List Nat)) (n:Nat) (vm:List Nat):List Code→List RS→Option (List RS)
 | [],r=>some r
 | c::cs,r=>(trL P mu plan n vm cs r).bind fun r=>bc P mu plan n vm c r
inductive nX (P:Program) (mu:TypeId→Bool) (plan:Nat→List (Nat×List Nat)) (n:Nat) (vm:List Nat):Code→RS→Prop
 | cond (c:Operand) (x y:Code) (a:Arg) (xs ys:List RS):gc vm [] c=some a→bc P mu plan n vm x []=some xs→bc P mu plan n vm y []=some ys→nX P mu plan n vm (.cond c x y) (.cond a xs ys)
 | block (id:Nat) (b:Code) (bs:List RS):bc P mu plan n vm b []=some bs→nX P mu plan n vm (.block id b) (.block id bs)
 | loop (b:Code) (bs:List RS):bc P mu plan n vm b []=some bs→nX P mu plan n vm (.loop b) (.loop bs)
 | exit (id:Nat):nX P mu plan n vm (.exit id) (.exit id)
 | ret:nX P mu plan n vm .ret .ret
 | region (id:Nat) (all:Array Oper) (d:Bool) (is:List RI):gl P mu n vm all [] (dI d all (plan id))=some is→nX P mu plan n vm (.region id all d) (.ops is)
theorem rc (cs ds:List Code) (r:List RS):trL P mu plan n vm (cs++ds) r=(trL P mu plan n vm ds r).bind fun r=>trL P mu plan n vm cs r:=by
 induction cs with
 | nil=>simp only[List.nil_append,trL];cases trL P mu plan n vm ds r<;>rfl
 | cons c cs ih=>simp only[List.cons_append,trL,ih];cases trL P mu plan n vm ds r<;>rfl
theorem Ch:∀ (c:Code) (r l:List RS),bc P mu plan n vm c r=some l→
  (l=r∧∀ k t h,aX P po f (.code c::k) t h=aX P po f k t h)∨
  (∃ s l' c1 cs,l=s::l'∧trL P mu plan n vm cs r=some l'∧nX P mu plan n vm c1 s∧∀ k t h,aX P po f (.code c::k) t h=aX P po f (.code c1::(cs.map .code++k)) t h):=by
 intro c
 induction c with
 | skip=>intro r l he;simp only[bc,Option.some.injEq]at he;exact .inl ⟨he.symm,fun k t h=>CF⟩
 | label i=>intro r l he;simp only[bc,Option.some.injEq]at he;exact .inl ⟨he.symm,fun k t h=>zi⟩
 | seq a b iha ihb=>
   intro r l he
   simp only[bc]at he
   obtain⟨r1,h1,h2⟩:=Option.bind_eq_some_iff.1 he
   rcases iha r1 l h2 with⟨e1,e2⟩ | ⟨s,l',c1,cs,e1,e2,e3,e4⟩
   ·subst e1
    rcases ihb r l h1 with⟨f1,f2⟩ | ⟨s,l',c1,cs,f1,f2,f3,f4⟩
    ·exact .inl ⟨f1,fun k t h=>by rw[pQ,e2,f2]⟩
    ·exact .inr ⟨s,l',c1,cs,f1,f2,f3,fun k t h=>by rw[pQ,e2,f4]⟩
   ·refine .inr ⟨s,l',c1,cs++[b],e1,?_,e3,fun k t h=> ?_⟩
    ·rw[rc]
     simp only[trL,Option.bind_some,h1,e2]
    ·rw[pQ,e4]
     simp
 | cond c x y _ _=>
   intro r l he
   simp only[bc]at he
   obtain⟨a,ha,he⟩:=Option.bind_eq_some_iff.1 he
   obtain⟨xs,hx,he⟩:=Option.bind_eq_some_iff.1 he
   obtain⟨ys,hy,rfl⟩:=Option.map_eq_some_iff.1 he
   exact .inr ⟨_,_,_,[],rfl,rfl,.cond _ _ _ _ _ _ ha hx hy,fun k t h=>rfl⟩
 | block id b _=>
   intro r l he
   simp only[bc]at he
   obtain⟨bs,hb,rfl⟩:=Option.map_eq_some_iff.1 he
   exact .inr ⟨_,_,_,[],rfl,rfl,.block _ _ _ hb,fun k t h=>rfl⟩
 | loop b _=>
   intro r l he
   simp only[bc]at he
   obtain⟨bs,hb,rfl⟩:=Option.map_eq_some_iff.1 he
   exact .inr ⟨_,_,_,[],rfl,rfl,.loop _ _ hb,fun k t h=>rfl⟩
 | exit id=>intro r l he;simp only[bc,Option.some.injEq]at he;subst he;exact .inr ⟨_,_,_,[],rfl,rfl,.exit _,fun k t h=>rfl⟩
 | ret=>intro r l he;simp only[bc,Option.some.injEq]at he;subst he;exact .inr ⟨_,_,_,[],rfl,rfl,.ret,fun k t h=>rfl⟩
 | region id ops d=>
   intro r l he
   simp only[bc]at he
   obtain⟨is,his,rfl⟩:=Option.map_eq_some_iff.1 he
   exact .inr ⟨_,_,_,[],rfl,rfl,.region _ _ _ _ his,fun k t h=>rfl⟩
 | _=>intro r l he;simp[bc]at he
theorem sq:∀ (cs:List Code) (l:List RS),trL P mu plan n vm cs []=some l→
  (l=[]∧∀ k t h,aX P po f (cs.map .code++k) t h=aX P po f k t h)∨
  (∃ s l' c1 cs',l=s::l'∧trL P mu plan n vm cs' []=some l'∧nX P mu plan n vm c1 s∧∀ k t h,aX P po f (cs.map .code++k) t h=aX P po f (.code c1::(cs'.map .code++k)) t h):=by
 intro cs
 induction cs with
 | nil=>intro l he;simp only[trL,Option.some.injEq]at he;exact .inl ⟨he.symm,fun k t h=>rfl⟩
 | cons c cs ih=>
   intro l he
   simp only[trL]at he
   obtain⟨r,h1,h2⟩:=Option.bind_eq_some_iff.1 he
   rcases Ch (po:=po) (f:=f) c r l h2 with⟨e1,e2⟩ | ⟨s,l',c1,cs1,e1,e2,e3,e4⟩
   ·subst e1
    rcases ih l h1 with⟨f1,f2⟩ | ⟨s,l',c1,cs',f1,f2,f3,f4⟩
    ·exact .inl ⟨f1,fun k t h=>by simp only[List.map_cons,List.cons_append];rw[e2,f2]⟩
    ·exact .inr ⟨s,l',c1,cs',f1,f2,f3,fun k t h=>by simp only[List.map_cons,List.cons_append];rw[e2,f4]⟩
   ·refine .inr ⟨s,l',c1,cs1++cs,e1,?_,e3,fun k t h=> ?_⟩
    ·rw[rc,h1]
     exact e2
    ·simp only[List.map_cons,List.cons_append]
     rw[e4]
     simp
inductive KC (P:Program) (mu:TypeId→Bool) (plan:Nat→List (Nat×List Nat)) (n:Nat) (vm:List Nat):List bP→List RK→Prop
 | nil:KC P mu plan n vm [] []
 | ss (cs:List Code) (l:List RS) (k:List bP) (rk:List RK):trL P mu plan n vm cs []=some l→KC P mu plan n vm k rk→KC P mu plan n vm (cs.map .code++k) (.ss l::rk)
 | blk (id:Nat) (k:List bP) (rk:List RK):KC P mu plan n vm k rk→KC P mu plan n vm (.inBlock id::k) (.blk id::rk)
 | lp (c:Code) (b:List RS) (k:List bP) (rk:List RK):bc P mu plan n vm c []=some b→KC P mu plan n vm k rk→KC P mu plan n vm (.inLoop c::k) (.lp b::rk)
 | halt (K:List Item) (k:List bP) (rk:List RK):KC P mu plan n vm (.halt K::k) (.halt K::rk)
theorem wJ {id:Nat} (cs:List Code) (k:List bP):fD id (cs.map .code++k)=fD id k:=by
 induction cs with
 | nil=>rfl
 | cons c cs ih=>simp only[List.map_cons,List.cons_append,fD];exact ih
theorem D3 {id:Nat} {k:List bP} {rk rk':List RK} (hk:KC P mu plan n vm k rk) (he:ez id rk=some rk'):∃ k',fD id k=some k'∧KC P mu plan n vm k' rk':=by
 induction hk with
 | nil=>simp[ez]at he
 | ss cs l k rk h1 h2 ih=>
   simp only[ez]at he
   obtain⟨k',e1,e2⟩:=ih he
   exact⟨k',by rw[wJ];exact e1,e2⟩
 | blk i k rk h1 ih=>
   simp only[ez]at he
   by_cases hi:i=id
   ·rw[if_pos hi]at he
    injection he with he
    subst he
    exact⟨k,by simp[fD,hi],h1⟩
   ·rw[if_neg hi]at he
    obtain⟨k',e1,e2⟩:=ih he
    exact⟨k',by simp[fD,hi];exact e1,e2⟩
 | lp c b k rk h1 h2 ih=>
   simp only[ez]at he
   obtain⟨k',e1,e2⟩:=ih he
   exact⟨k',by simp only[fD];exact e1,e2⟩
 | halt K k rk=>simp[ez]at he
def ToK (P:Program) (po:Pol) (f:FuncId) (n:Nat) (vm:List Nat) (ak:List bP) (t:List AV) (h:AH) (r:AEx×List AV×AH):Prop:=
 ∃ t',aX P po f ak t h=some (r.1,t',r.2.2)∧RV n vm [] t' r.2.1 []
def qb (P:Program) (po:Pol) (f:FuncId) (n:Nat) (vm:List Nat) (k:List RK) (V L:List AV) (h:AH) (r:AEx×List AV×AH):Prop:=
 (∀ ak t,KC P (po.mu f) (po.plan f) n vm ak k→RV n vm [] t V []→ToK P po f n vm ak t h r)∧
 (∀ d all l is ak lm t k',k= .ops is::k'→gl P (po.mu f) n vm all lm l=some is→KC P (po.mu f) (po.plan f) n vm ak k'→RV n vm lm t V L→ToK P po f n vm (.ops d all l::ak) t h r)∧
 (∀ d all l is c ck ak lm t k',k= .ops (.ck c::is)::k'→om P vm lm all ck=some c→gl P (po.mu f) n vm all lm l=some is→KC P (po.mu f) (po.plan f) n vm ak k'→RV n vm lm t V L→
  kV P all t h ck∧ToK P po f n vm (.ops d all l::ak) t h r)
theorem ToK.eq {ak ak':List bP} {t t':List AV} {h h':AH} {r:AEx×List AV×AH} (he:aX P po f ak t h=aX P po f ak' t' h') (hk:ToK P po f n vm ak' t' h' r):ToK P po f n vm ak t h r:=by
 obtain⟨t2,h1,h2⟩:=hk
 exact⟨t2,he.trans h1,h2⟩
theorem qb.not_ops {k:List RK} {V L:List AV} {h:AH} {r:AEx×List AV×AH} (hno:∀ is k',k≠.ops is::k') (hk:∀ ak t,KC P (po.mu f) (po.plan f) n vm ak k→RV n vm [] t V []→ToK P po f n vm ak t h r):qb P po f n vm k V L h r:=
 ⟨hk,fun d all l is ak lm t k' he=>absurd he (hno _ _),fun d all l is c ck ak lm t k' he=>absurd he (hno _ _)⟩
theorem RV.drop {L:List AV} {lm:List Nat} (r:RV n vm lm t V L):RV n vm [] t V []:=⟨r.len,r.lv,rfl,r.v,fun j s hs=>by simp at hs⟩
theorem RV.clear {nk nr:Nat} (r:RV n vm [] t V []) (h1:∀ j s,vm[j]? =some s→(j<nr↔s<nk)):RV n vm [] (aa nk t) (aa nr V) []:=by
 refine⟨by rw[←r.len,aa];simp;omega,by rw[←r.lv,aa];simp;omega,rfl,fun j s hs=> ?_,fun j s hs=>by simp at hs⟩
 obtain⟨a1,a2⟩:=r.v j s hs
 refine⟨a1,?_⟩
 have hj:j<V.length:=by rw[r.lv];exact(List.getElem?_eq_some_iff.1 hs).1
 have hs':s<t.length:=by rw[r.len];exact a1
 have get:∀ (n:Nat) (x:List AV) (i:Nat),i<x.length→(aa n x).getD i .junk=if i<n then x.getD i .junk else .junk:=by
  intro n x i hi
  unfold aa
  by_cases hin:i<n
  ·have:i<(x.take n).length:=by simp;omega
   rw[if_pos hin,List.getD,List.getElem?_append_left this,List.getElem?_take]
   simp[hin,List.getD]
  ·rw[if_neg hin,List.getD,List.getElem?_append_right (by simp;omega)]
   simp only[List.getElem?_replicate]
   split<;>rfl
 rw[get _ _ _ hs',get _ _ _ hj]
 by_cases hlt:j<nr
 ·rw[if_pos hlt,if_pos ((h1 j s hs).1 hlt),a2]
 ·rw[if_neg hlt,if_neg (fun x=>hlt ((h1 j s hs).2 x))]
end
noncomputable def cFR (p:Bool) (rs:List jV) (h0:AH):Option (AEx×List AV×AH)→Option ((AV ⊕ AV)×AH)
 | some (.ret,V,h)=>cF.cR p h0 h ((ei V h rs).map eO)
 | some (.panic v,_,h)=>fgA p h0 (.inr v,h)
 | some (.halt _,_,_)=>none
 | none=>none
section
variable {P:Program} {po:Pol} {f:FuncId} {n nv:Nat} {vm lm:List Nat} {t V L:List AV} {h:AH}
theorem pA {d:RD} {is:List RI} {k':List RK} {o:Oper} {c:List RCk} {ck:List Oper} {l:List (Oper×List Oper)} {all:Array Oper} {lm2:List Nat} {dr:Bool} {ak:List bP} {v:AV} {h':AH} {r:AEx×List AV×AH}
  (hnd:vm.Nodup) (hd:qU n vm lm o.dst=some (d,lm2)) (hc:om P vm lm2 all ck=some c) (his:gl P (po.mu f) n vm all lm2 l=some is) (hk:KC P (po.mu f) (po.plan f) n vm ak k') (rv:RV n vm lm t V L)
  (hm:qb P po f n vm (.ops (A7 c is)::k') (fC V v d) (gt L v d) h' r):
  kV P all (bu t o.dst v) h' ck∧ToK P po f n vm (.ops dr all l::ak) (bu t o.dst v) h' r:=by
 have rv':=wS rv hnd hd v
 cases c with
 | nil=>
   refine⟨kB rv' hc trivial,hm.2.1 dr all l is ak _ _ k' rfl his hk rv'⟩
 | cons q c=>exact hm.2.2 dr all l is (q::c) ck ak _ _ k' rfl hc his hk rv'
theorem lO {mu:TypeId→Bool} {all:Array Oper} {lm:List Nat} {l:List (Oper×List Oper)} {x:RI} {is:List RI} (he:gl P mu n vm all lm l=some (x::is)):
  ∃ o ck l' ro g d lm2 c is',l=(o,ck)::l'∧tT P mu vm lm o=some ro∧kN vm lm all o=some g∧qU n vm lm o.dst=some (d,lm2)∧om P vm lm2 all ck=some c∧gl P mu n vm all lm2 l'=some is'∧
    x=Lx g d ro∧is=A7 c is':=by
 cases l with
 | nil=>simp[gl]at he
 | cons q l'=>
   obtain⟨o,ck⟩:=q
   simp only[gl]at he
   obtain⟨ro,h1,he⟩:=Option.bind_eq_some_iff.1 he
   obtain⟨g,h2,he⟩:=Option.bind_eq_some_iff.1 he
   obtain⟨⟨d,lm2⟩,h3,he⟩:=Option.bind_eq_some_iff.1 he
   obtain⟨c,h4,he⟩:=Option.bind_eq_some_iff.1 he
   obtain⟨is',h5,he⟩:=Option.map_eq_some_iff.1 he
   simp only[List.cons.injEq]at he
   exact⟨o,ck,l',ro,g,d,lm2,c,is',rfl,h1,h2,h3,h4,h5,he.1.symm,he.2.symm⟩
theorem KY {dr:Bool} {all:Array Oper} {o:Oper} {ck:List Oper} {l:List (Oper×List Oper)} {ak:List bP} {v:AV} {h':AH} (hw:aU all t o=some true) (hp:jl t o=none) (hc:aA t o=none) (he:aN P (po.mu f) t h o=some (v,h')) (hck:kV P all (bu t o.dst v) h' ck):
  aX P po f (.ops dr all ((o,ck)::l)::ak) t h=aX P po f (.ops dr all l::ak) (bu t o.dst v) h':=by
 rw[jn,hw,oY,hp,ur,hc,HP,he,G6,Ds hck]
theorem Fi {dr:Bool} {all:Array Oper} {o:Oper} {ck:List Oper} {l:List (Oper×List Oper)} {ak:List bP} {g:FuncId} {args:List AV} {v:AV} {h':AH} (hw:aU all t o=some true) (hp:jl t o=none) (hc:aA t o=some (g,args)) (he:ai P po g args h=some (.inl v,h')) (hck:kV P all (bu t o.dst v) h' ck):
  aX P po f (.ops dr all ((o,ck)::l)::ak) t h=aX P po f (.ops dr all l::ak) (bu t o.dst v) h':=by
 rw[jn,hw,oY,hp,ur,hc,Ah,he,HS,Ds hck]
theorem Fy {dr:Bool} {all:Array Oper} {o:Oper} {ck:List Oper} {l:List (Oper×List Oper)} {ak:List bP} {g:FuncId} {args:List AV} {v:AV} {h':AH} (hw:aU all t o=some true) (hp:jl t o=none) (hc:aA t o=some (g,args)) (he:ai P po g args h=some (.inr v,h')):
  aX P po f (.ops dr all ((o,ck)::l)::ak) t h=some (.panic v,t,h'):=by
 rw[jn,hw,oY,hp,ur,hc,Ah,he,Dh]
theorem FG {dr:Bool} {all:Array Oper} {o:Oper} {ck:List Oper} {l:List (Oper×List Oper)} {ak:List bP} (hw:aU all t o=some false):
  aX P po f (.ops dr all ((o,ck)::l)::ak) t h=aX P po f (.ops dr all l::ak) (bu t o.dst (.tup [])) h:=by
 rw[jn,hw,DV]
theorem l8 (hnd:vm.Nodup) (hcl:∀ j s,vm[j]? =some s→(j<nv↔s<po.nv f)):
  ∀ (k:List RK) (V L:List AV) (h:AH) (r:AEx×List AV×AH),ap (ai P po) nv k V L h=some r→qb P po f n vm k V L h r:=by
 refine ap.partial_correctness (ai P po) nv (qb P po f n vm) fun run ih k V L h r hr=> ?_
 have wanted:∀ {d:RD} {ro:RO} {is:List RI} {k':List RK},(match wm V L ro with
   | some v=>some (.panic v,V,h)
   | none=>match aQ V L ro with
   | some (g,args)=>ai P po g args h>>= fun r=>match r.1 with
     | .inl v=>run (.ops is::k') (fC V v d) (gt L v d) r.2
     | .inr v=>some (.panic v,V,r.2)
   | none=>bA V L h ro>>= fun r=>run (.ops is::k') (fC V r.1 d) (gt L r.1 d) r.2)=some r→
   ∀ {all o ck l lm lm2 c is' ak t dr},tT P (po.mu f) vm lm o=some ro→qU n vm lm o.dst=some (d,lm2)→om P vm lm2 all ck=some c→gl P (po.mu f) n vm all lm2 l=some is'→is=A7 c is'→
   KC P (po.mu f) (po.plan f) n vm ak k'→RV n vm lm t V L→aU all t o=some true→ToK P po f n vm (.ops dr all ((o,ck)::l)::ak) t h r:=by
  intro d ro is k' hr all o ck l lm lm2 c is' ak t dr h1 h2 h3 h4 h5 hk rv hw
  obtain⟨e1,e2⟩:=zS (h:=h) rv h1
  have e0:=xp rv h1
  split at hr
  ·rename_i v hpa
   injection hr with hr
   subst hr
   exact⟨t,by rw[jn,hw,oY,e0,hpa,In],rv.drop⟩
  rename_i hpn
  have e0:=e0.trans hpn
  split at hr
  ·rename_i g args hcl'
   obtain⟨⟨x,h'⟩,hx,hr⟩:=Option.bind_eq_some_iff.1 hr
   cases x with
   | inl v=>
     simp only at hr
     subst h5
     have hm:=ih _ _ _ _ _ hr
     obtain⟨m1,m2⟩:=pA (dr:=dr) hnd h2 h3 h4 hk rv hm
     exact m2.eq (Fi hw e0 (e2.trans hcl') hx m1)
   | inr v=>
     simp only at hr
     injection hr with hr
     subst hr
     exact⟨t,Fy hw e0 (e2.trans hcl') hx,rv.drop⟩
  ·rename_i hcl'
   obtain⟨⟨v,h'⟩,hx,hr⟩:=Option.bind_eq_some_iff.1 hr
   simp only at hr
   subst h5
   have hm:=ih _ _ _ _ _ hr
   obtain⟨m1,m2⟩:=pA (dr:=dr) hnd h2 h3 h4 hk rv hm
   exact m2.eq (KY hw e0 (e2.trans hcl') (e1.trans hx) m1)
 split at hr
 ·injection hr with hr
  subst hr
  refine qb.not_ops (by simp) fun ak t hk rv=> ?_
  cases hk
  exact⟨t,EI,rv⟩
 ·rename_i k
  refine qb.not_ops (by simp) fun ak t hk rv=> ?_
  cases hk with
  | ss cs _ k0 _ htr hk=>
    rcases sq (po:=po) (f:=f) cs [] htr with⟨_,e2⟩ | ⟨s,l',c1,cs',e1,_⟩
    ·exact((ih _ _ _ _ _ hr).1 _ _ hk rv.drop).eq (e2 _ _ _)
    ·cases e1
 ·rename_i s l k
  refine qb.not_ops (by simp) fun ak t hk rv=> ?_
  cases hk with
  | ss cs _ k0 _ htr hk=>
    rcases sq (po:=po) (f:=f) cs (s::l) htr with⟨e1,_⟩ | ⟨s',l',c1,cs',e1,e2,e3,e4⟩
    ·cases e1
    ·injection e1 with e1 e1'
     subst e1;subst e1'
     refine ToK.eq (e4 _ _ _) ?_
     have hkc:KC P (po.mu f) (po.plan f) n vm (cs'.map .code++k0) (.ss l::k):= .ss cs' l k0 k e2 hk
     cases e3 with
     | region id all d is hreg=>
       exact((ih _ _ _ _ _ hr).2.1 d all _ is _ [] t _ rfl hreg hkc rv).eq xj
     | cond c x y a xs ys ha hx hy=>
       simp only at hr
       have hev:=aq rv ha
       split at hr
       ·rename_i b hb
        have hev2:evA t c= .bool b:=hev.trans hb
        cases b with
        | true=>
          simp only[if_true]at hr
          refine ToK.eq (by rw[sX,hev2,FF]) ((ih _ _ _ _ _ hr).1 (.code x::(cs'.map .code++k0)) t ?_ rv)
          exact .ss [x] xs _ _ (by simp[trL,hx]) hkc
        | false=>
          simp only[Bool.false_eq_true,if_false]at hr
          refine ToK.eq (by rw[sX,hev2,CQ]) ((ih _ _ _ _ _ hr).1 (.code y::(cs'.map .code++k0)) t ?_ rv)
          exact .ss [y] ys _ _ (by simp[trL,hy]) hkc
       ·cases hr
     | block id b bs hb=>
       refine ToK.eq zM ((ih _ _ _ _ _ hr).1 (.code b:: .inBlock id::(cs'.map .code++k0)) t ?_ rv)
       exact .ss [b] bs _ _ (by simp[trL,hb]) (.blk id _ _ hkc)
     | loop b bs hb=>
       exact ToK.eq Co ((ih _ _ _ _ _ hr).1 (.inLoop b::(cs'.map .code++k0)) t (.lp b bs _ _ hb hkc) rv)
     | exit id=>
       obtain⟨rk',h1,hr⟩:=Option.bind_eq_some_iff.1 hr
       obtain⟨k',h2,h3⟩:=D3 hkc (by simpa[ez]using h1:ez id (.ss l::k)=some rk')
       exact ToK.eq (by rw[Cu,h2,Hy]) ((ih _ _ _ _ _ hr).1 k' t h3 rv)
     | ret=>
       injection hr with hr
       subst hr
       exact⟨t,Gm,rv⟩
 ·rename_i id k
  refine qb.not_ops (by simp) fun ak t hk rv=> ?_
  cases hk with
  | blk _ k0 _ hk=>exact ToK.eq uO ((ih _ _ _ _ _ hr).1 _ _ hk rv)
 ·rename_i KH k
  injection hr with hr
  subst hr
  refine qb.not_ops (by simp) fun ak t hk rv=> ?_
  cases hk with
  | halt _ k0 _=>exact⟨t,Dq,rv⟩
 ·rename_i b k
  refine qb.not_ops (by simp) fun ak t hk rv=> ?_
  cases hk with
  | lp c _ k0 _ hb hk=>
    refine ToK.eq wq ((ih _ _ _ _ _ hr).1 (.code c:: .inLoop c::k0) _ ?_ (rv.clear hcl))
    exact .ss [c] b _ _ (by simp[trL,hb]) (.lp c b _ _ hb hk)
 ·rename_i k
  refine⟨fun ak t hk rv=>(by cases hk),fun dr all l is ak lm t k' he htr hk rv=> ?_,fun dr all l is c ck ak lm t k' he=>(by cases he)⟩
  injection he with he1 he2
  injection he1 with he1
  subst he1;subst he2
  cases l with
  | nil=>exact ToK.eq vo ((ih _ _ _ _ _ hr).1 _ _ hk rv.drop)
  | cons q l=>
    obtain⟨o,ck⟩:=q
    simp only[gl]at htr
    obtain⟨ro,h1,htr⟩:=Option.bind_eq_some_iff.1 htr
    obtain⟨g,h2,htr⟩:=Option.bind_eq_some_iff.1 htr
    obtain⟨⟨d,lm2⟩,h3,htr⟩:=Option.bind_eq_some_iff.1 htr
    obtain⟨c,h4,htr⟩:=Option.bind_eq_some_iff.1 htr
    obtain⟨is',h5,htr⟩:=Option.map_eq_some_iff.1 htr
    cases htr
 ·rename_i l is k
  split at hr
  ·rename_i hck
   refine⟨fun ak t hk rv=>(by cases hk),fun dr all l2 is2 ak lm t k' he htr hk rv=> ?_,fun dr all l2 is2 c ck ak lm t k' he hc htr hk rv=> ?_⟩
   ·injection he with he1 he2
    injection he1 with he1
    subst he1;subst he2
    obtain⟨o,ck,l',ro,g,d,lm2,c,is',_,_,_,_,_,_,hx,_⟩:=lO htr
    cases g<;>cases hx
   ·injection he with he1 he2
    injection he1 with he1
    injection he1 with he0 he1
    injection he0 with he0
    subst he0;subst he1;subst he2
    exact⟨kB rv hc hck,(ih _ _ _ _ _ hr).2.1 dr all l2 is ak lm t _ rfl htr hk rv⟩
  ·cases hr
 ·rename_i d ro is k
  refine⟨fun ak t hk rv=>(by cases hk),fun dr all l is2 ak lm t k' he htr hk rv=> ?_,fun dr all l is2 c ck ak lm t k' he=>(by cases he)⟩
  injection he with he1 he2
  injection he1 with he1
  subst he1;subst he2
  obtain⟨o,ck,l',ro',g,d',lm2,c,is',rfl,h1,h2,h3,h4,h5,hx,h6⟩:=lO htr
  cases g with
  | some g=>cases hx
  | none=>
    injection hx with hx1 hx2
    subst hx1;subst hx2
    exact wanted hr h1 h3 h4 h5 h6 hk rv (by rw[fT rv h2];rfl)
 ·rename_i a w d ro is k
  refine⟨fun ak t hk rv=>(by cases hk),fun dr all l is2 ak lm t k' he htr hk rv=> ?_,fun dr all l is2 c ck ak lm t k' he=>(by cases he)⟩
  injection he with he1 he2
  injection he1 with he1
  subst he1;subst he2
  obtain⟨o,ck,l',ro',g,d',lm2,c,is',rfl,h1,h2,h3,h4,h5,hx,h6⟩:=lO htr
  cases g with
  | none=>cases hx
  | some g=>
    injection hx with hx1 hx2 hx3 hx4
    obtain⟨ga,gw⟩:=g
    simp only at hx1 hx2
    subst hx1;subst hx2;subst hx3;subst hx4
    have hg:=fT rv h2
    simp only[nz]at hg
    split at hr
    ·cases hr
    ·rename_i hgf
     subst h6
     obtain⟨_,m2⟩:=pA (dr:=dr) hnd h3 h4 h5 hk rv (ih _ _ _ _ _ hr)
     exact m2.eq (FG (hg.trans hgf))
    ·rename_i hgt
     exact wanted hr h1 h3 h4 h5 h6 hk rv (hg.trans hgt)
theorem fH (rv:RV n vm [] t V []):∀ {l:List ResultVar} {rs:List jV},iL P vm l=some rs→lC P t h l=ei V h rs
 | [],rs,he=>by simp only[iL,Option.some.injEq]at he;subst he;rfl
 | .tmp i::l,rs,he=>by
   simp only[iL]at he
   obtain⟨j,hj,he⟩:=Option.bind_eq_some_iff.1 he
   obtain⟨rs',hrs,rfl⟩:=Option.map_eq_some_iff.1 he
   simp only[lC,ei,fH rv hrs,(rv.v j i (iZ hj)).2]
 | .cell i ty::l,rs,he=>by
   simp only[iL]at he
   split at he
   ·cases he
   ·rename_i hn
    obtain⟨j,hj,he⟩:=Option.bind_eq_some_iff.1 he
    obtain⟨rs',hrs,rfl⟩:=Option.map_eq_some_iff.1 he
    simp only[lC,ei,fH rv hrs,(rv.v j i (iZ hj)).2,if_neg hn]
def rA (a n nk nv:Nat) (vm:List Nat):Bool:=
 decide (a≤vm.length∧a≤n) && (List.range vm.length).all fun j=>let s:=vm.getD j 0
  decide (s<n) && (decide (j<nv)==decide (s<nk)) && (if j<a∨s<a then s==j else true) && (List.range j).all fun i=>vm.getD i 0 != s
def FnR (P:Program) (po:Pol) (g:FuncId) (a nv:Nat) (vm:List Nat) (ss:List RS) (rs:List jV) (p:Bool):Prop:=
 ∃ fn c,P.funcs[g]? =some fn∧fn.body=some c∧po.ext g=none∧po.use g=true∧po.pure g=p∧bc P (po.mu g) (po.plan g) fn.ntmps vm c []=some ss∧rA a fn.ntmps (po.nv g) nv vm=true∧iL P vm fn.results.toList=some rs
theorem ag {g:FuncId} {a:Nat} {ss:List RS} {rs:List jV} {p:Bool} {args:List AV} {q:(AV ⊕ AV)×AH} (hf:FnR P po g a nv vm ss rs p) (ha:args.length=a)
  (hr:cFR p rs h (ap (ai P po) nv [.ss ss] (args++replicate (vm.length - args.length) .junk) [] h)=some q):ai P po g args h=some q:=by
 obtain⟨fn,c,h1,h2,h3,h4,h5,h6,h7,h8⟩:=hf
 rw[Cn h3 h1 h2 h4 h5]
 unfold rA at h7
 simp only[Bool.and_eq_true,decide_eq_true_eq,List.all_eq_true,List.mem_range,beq_iff_eq,bne_iff_ne,ne_eq]at h7
 obtain⟨⟨a1,a2⟩,a3⟩:=h7
 have get:∀ j s,vm[j]? =some s→j<vm.length∧vm.getD j 0=s:=fun j s hj=>⟨(List.getElem?_eq_some_iff.1 hj).1,by simp[List.getD,hj]⟩
 have hnd:vm.Nodup:=by
  rw[List.nodup_iff_pairwise_ne,List.pairwise_iff_getElem]
  intro i j hi hj hij e
  have:=(a3 j hj).2 i hij
  apply this
  simp[List.getD,hi,hj,e]
 have hcl:∀ j s,vm[j]? =some s→(j<nv↔s<po.nv g):=by
  intro j s hj
  obtain⟨g1,g2⟩:=get j s hj
  have:=(a3 j g1).1.1.2
  rw[g2]at this
  exact decide_eq_decide.1 this
 have rv:RV fn.ntmps vm [] (args++replicate (fn.ntmps - args.length) .junk) (args++replicate (vm.length - args.length) .junk) []:=by
  refine⟨by simp;omega,by simp;omega,rfl,fun j s hj=> ?_,fun j s hj=>by simp at hj⟩
  obtain⟨g1,g2⟩:=get j s hj
  obtain⟨⟨⟨b1,_⟩,b2⟩,_⟩:=a3 j g1
  rw[g2]at b1 b2
  refine⟨b1,?_⟩
  by_cases hc:j<a∨s<a
  ·rw[if_pos hc]at b2
   have:s=j:=by simpa using b2
   subst this
   have hlt:s<args.length:=by omega
   simp[List.getD,List.getElem?_append_left hlt]
  ·have c1:¬ j<args.length:=by omega
   have c2:¬ s<args.length:=by omega
   simp only[List.getD,List.getElem?_append_right (Nat.not_lt.1 c1),List.getElem?_append_right (Nat.not_lt.1 c2),List.getElem?_replicate]
   split<;>split<;>rfl
 generalize hrun:ap (ai P po) nv [.ss ss] (args++replicate (vm.length - args.length) .junk) [] h=x at hr
 cases x with
 | none=>cases hr
 | some r=>
   have hm:=(l8 (n:=fn.ntmps) (f:=g) hnd hcl _ _ _ _ _ hrun).1 [.code c] _ (.ss [c] ss [] [] (by simp[trL,h6]) .nil) rv
   obtain⟨t',e1,e2⟩:=hm
   rw[e1]
   obtain⟨x,V',h'⟩:=r
   cases x with
   | panic v=>exact hr
   | halt K=>cases hr
   | ret=>
     rw[Lq]
     have:=fH (h:=h') e2 h8
     unfold lu
     rw[this]
     exact hr
end
def DJ (ops:Array Oper) (M:Array Nat):Nat→List Nat→List Nat→List (Nat×List Nat)
 | 0,_,_=>[]
 | n+1,rest,done=>
   let rdy:=rest.filter fun i=>rest.all fun j=>j==i || !kW M j i
   match((rdy.find? fun i=>bM (ops.getD i default)).or (rdy.find? fun i=>match(ops.getD i default).op with | .alloc _=>false | _=>true)).or rdy.head? with
   | none=>[]
   | some i=>(i,if bM (ops.getD i default)then[]else done.filter fun j=>jw (ops.getD j default) && !kW M j i)::DJ ops M n (rest.filter (· != i)) (done++[i])
def HK (ops:Array Oper) (M:Array Nat) (pl:List (Nat×List Nat)):List (Nat×List Nat):=match pl.reverse with
 | (y,[])::(x,[])::r=>if dY (ops.getD x default) && dY (ops.getD y default) && !kW M x y then r.reverse++[(x,[]),(y,[x])]else pl
 | _=>pl
def FZ (ops:Array Oper):List (Nat×List Nat):=HK ops (Region.before ops) (DJ ops (Region.before ops) ops.size (List.range ops.size) [])
def jK (id:Nat):Code→Option (Array Oper)
 | .region i ops _=>if i=id then some ops else none
 | .seq a b=>(jK id a).or (jK id b)
 | .cond _ a b=>(jK id a).or (jK id b)
 | .block _ b=>jK id b
 | .loop b=>jK id b
 | _=>none
def MU (fn:Func):Nat:=fn.ntmps
def nH (P:Program) (mu:FuncId→TypeId→Bool) (ext:FuncId→Option (List AV→AH→Option ((AV ⊕ AV)×AH))) (use pure:List FuncId):Pol where
 ext:=ext
 mu:=mu
 nv g:=match P.funcs[g]? with
  | some fn=>MU fn
  | none=>0
 plan g id:=match((P.funcs[g]?).bind (·.body)).bind (jK id)with
  | some ops=>FZ ops
  | none=>[]
 use:=use.contains
 pure:=pure.contains
 kp g d:=if 1000000≤d then(dC P (d - 1000000)).isSome else match P.funcs[g]? with
  | some fn=>fn.results.toList.any fun r=>match r with | .cell i _=>i==d | _=>false
  | none=>false
def Jb (P:Program):Bool:=(List.range P.types.size).all fun t=>(match P.info? t with
 | some i=>decide (i.bytes≤100000) && (match i.zero with | some v=>v.cells.size==i.size | none=>true)
 | none=>true) && (match P.underlying t with
 | some (.slice e)=>decide (0<P.cellsOf e)
 | _=>true)
def JO (P:Program) (po:Pol) (use:List FuncId):Bool:=use.all fun g=>match P.funcs[g]? with
 | some fn=>(match fn.body with | some c=>cz (po.plan g) (po.kp g) c | none=>true) && !(fn.name== "runtime.NumGoroutine")
 | none=>true
theorem Hi {P:Program} (h:Jb P=true):kY P:=by
 unfold Jb at h
 rw[List.all_eq_true]at h
 refine⟨fun t i v hlt h1 h2=> ?_,fun t i hlt h1=> ?_,fun t e hlt he=> ?_⟩
 ·have:=h t (List.mem_range.2 hlt)
  simp only[h1,h2,Bool.and_eq_true,beq_iff_eq]at this
  exact this.1.2
 ·have:=h t (List.mem_range.2 hlt)
  simp only[h1,Bool.and_eq_true,decide_eq_true_eq]at this
  exact this.1.1
 ·have:=h t (List.mem_range.2 hlt)
  simp only[he,Bool.and_eq_true,decide_eq_true_eq]at this
  exact this.2
theorem KU {P:Program} {mu:FuncId→TypeId→Bool} {ext:FuncId→Option (List AV→AH→Option ((AV ⊕ AV)×AH))} {use pure:List FuncId} (hty:kY P) (hm:P.follows .mixedOrders=true)
  (hf:JO P (nH P mu ext use pure) use=true) (hx:∀ g F,ext g=some F→∃ fn,P.funcs[g]? =some fn∧(fn.body.isNone=false∧(fn.name== "runtime.NumGoroutine")=false)∧∀ args h r,F args h=some r→AC P g args h r):POK P (nH P mu ext use pure):=by
 unfold JO at hf
 rw[List.all_eq_true]at hf
 have hmem:∀ g,(nH P mu ext use pure).use g=true→g∈use:=fun g hg=>by simpa[nH]using hg
 refine⟨hty,fun g fn h1 h2=> ?_,hx,fun g fn c h1 h2 h3=> ?_,hm,fun g e he=> ?_⟩
 ·have:=hf g (hmem g h2)
  rw[h1]at this
  simp only[Bool.and_eq_true]at this
  simpa using this.2
 ·have:=hf g (hmem g h3)
  rw[h1]at this
  simp only[h2,Bool.and_eq_true]at this
  exact this.1
 ·simp only[nH]at he
  rw[if_pos (Nat.le_add_right _ _),Nat.add_sub_cancel_left]at he
  exact he
abbrev sV:=FuncId→List AV→AH→Option ((AV ⊕ AV)×AH)
abbrev iC:=Option (AEx×List AV×AH)
section
variable (C:sV) (nv:Nat)
noncomputable def rV (d:RD) (is:List RI) (k:List RK) (V L:List AV) (h:AH):Option AV→iC
 | some v=>ap C nv (.ops is::k) (fC V v d) (gt L v d) h
 | none=>none
noncomputable def rH (is:List RI) (k:List RK) (V L:List AV):Option AH→iC
 | some h=>ap C nv (.ops is::k) V L h
 | none=>none
noncomputable def rS (d:RD) (is:List RI) (k:List RK) (V L:List AV):Option (AV×AH)→iC
 | some (v,h)=>ap C nv (.ops is::k) (fC V v d) (gt L v d) h
 | none=>none
noncomputable def rC (d:RD) (is:List RI) (k:List RK) (V L:List AV):Option ((AV ⊕ AV)×AH)→iC
 | some (.inl v,h)=>ap C nv (.ops is::k) (fC V v d) (gt L v d) h
 | some (.inr v,h)=>some (.panic v,V,h)
 | none=>none
noncomputable def rF (d:RD) (is:List RI) (k:List RK) (V L:List AV) (h:AH):Option (FuncId×List AV)→iC
 | some (g,args)=>rC C nv d is k V L (C g args h)
 | none=>none
noncomputable def rG (d:RD) (o:RO) (is:List RI) (k:List RK) (V L:List AV) (h:AH):Option Bool→iC
 | some true=>ap C nv (.ops (.i d o::is)::k) V L h
 | some false=>ap C nv (.ops is::k) (fC V (.tup []) d) (gt L (.tup []) d) h
 | none=>none
noncomputable def rB (x y l:List RS) (k:List RK) (V:List AV) (h:AH):AV→iC
 | .bool b=>if b then ap C nv (.ss x:: .ss l::k) V [] h else ap C nv (.ss y:: .ss l::k) V [] h
 | _=>none
noncomputable def rE (V L:List AV) (h:AH):Option (List RK)→iC
 | some k=>ap C nv k V L h
 | none=>none
end
section
variable {C:sV} {nv:Nat} {k:List RK} {V L:List AV} {h:AH} {d:RD} {is:List RI}
theorem JF:ap C nv [] V L h=some (.ret,V,h):=by rw[ap]
theorem xZ:ap C nv (.ss []::k) V L h=ap C nv k V L h:=by rw[ap]
theorem FQ {l:List RS}:ap C nv (.ss (.ops is::l)::k) V L h=ap C nv (.ops is:: .ss l::k) V [] h:=by rw[ap]
theorem D2 {a:Arg} {x y l:List RS}:ap C nv (.ss (.cond a x y::l)::k) V L h=rB C nv x y l k V h (arg V [] a):=by
 rw[ap]
 cases arg V [] a<;>rfl
theorem uI {id:Nat} {b l:List RS}:ap C nv (.ss (.block id b::l)::k) V L h=ap C nv (.ss b:: .blk id:: .ss l::k) V L h:=by rw[ap]
theorem zV {b l:List RS}:ap C nv (.ss (.loop b::l)::k) V L h=ap C nv (.lp b:: .ss l::k) V L h:=by conv=>lhs;rw[ap]
theorem EQ {id:Nat} {l:List RS}:ap C nv (.ss (.exit id::l)::k) V L h=rE C nv V L h (ez id k):=by
 rw[ap]
 cases ez id k<;>rfl
theorem JN {l:List RS}:ap C nv (.ss (.ret::l)::k) V L h=some (.ret,V,h):=by rw[ap]
theorem JW {id:Nat}:ap C nv (.blk id::k) V L h=ap C nv k V L h:=by rw[ap]
theorem MG {b:List RS}:ap C nv (.lp b::k) V L h=ap C nv (.ss b:: .lp b::k) (aa nv V) L h:=by rw[ap]
theorem ns:ap C nv (.ops []::k) V L h=ap C nv k V [] h:=by rw[ap]
theorem Mc {l:List RCk} (hc:rW V L h l):ap C nv (.ops (.ck l::is)::k) V L h=ap C nv (.ops is::k) V L h:=by rw[ap];simp[hc]
theorem fe {o:RO} (hn:aQ V L o=none) (hp:wm V L o=none):ap C nv (.ops (.i d o::is)::k) V L h=rS C nv d is k V L (bA V L h o):=by
 rw[ap]
 simp only[hn,hp]
 rcases bA V L h o with _ | ⟨v,h'⟩<;>rfl
theorem FU {x:Arg} {q:TypeId} {v:AV} (hx:arg V L x= .iface q v):ap C nv (.ops (.i d (.pan x)::is)::k) V L h=some (.panic (.iface q v),V,h):=by
 rw[ap]
 simp[wm,hx]
theorem Gl {K:List Item}:ap C nv (.halt K::k) V L h=some (.halt K,V,h):=by rw[ap]
theorem yY {f:Arg} {args:List Arg}:ap C nv (.ops (.i d (.call f args)::is)::k) V L h=rF C nv d is k V L h (aQ V L (.call f args)):=by
 rw[ap]
 simp only[wm]
 rcases hc:aQ V L (.call f args)with _ | ⟨g,aS⟩
 ·rfl
 ·simp only[rF]
  rcases C g aS h with _ | ⟨_ | _,h'⟩<;>rfl
theorem Bg {g:FuncId} {args:List Arg}:ap C nv (.ops (.i d (.call (.c (.fn g [] [])) args)::is)::k) V L h=rC C nv d is k V L (C g (args.map (arg V L)) h):=by
 rw[yY]
 simp[aQ,arg,rF]
theorem r_g {a:Arg} {w:Bool} {o:RO}:ap C nv (.ops (.g a w d o::is)::k) V L h=rG C nv d o is k V L h (lq V L a w):=by
 rw[ap]
 rcases lq V L a w with _ | ⟨_ | _⟩
 ·rfl
 ·rfl
 ·simp only[rG]
  conv=>rhs;rw[ap]
theorem ej {x:Option AV}:rS C nv d is k V L (x.map fun v=>(v,h))=rV C nv d is k V L h x:=by cases x<;>rfl
theorem Mn {x:Arg}:ap C nv (.ops (.i d (.mv x)::is)::k) V L h=ap C nv (.ops is::k) (fC V (arg V L x) d) (gt L (arg V L x) d) h:=by rw[fe rfl rfl];rfl
theorem Dw {c x y:Arg}:ap C nv (.ops (.i d (.pick c x y)::is)::k) V L h=rV C nv d is k V L h (GK (arg V L c) (arg V L x) (arg V L y)):=by rw[fe rfl rfl];exact ej
theorem Bn {z:List AV} {pl:List (Nat×Nat)} {ps:List (Nat×Arg)}:ap C nv (.ops (.i d (.build z pl ps)::is)::k) V L h=rV C nv d is k V L h ((gA pl z (ps.map fun q=>(q.1,arg V L q.2))).map .agg):=by
 rw[fe rfl rfl]
 simp only[bA]
 cases gA pl z (ps.map fun q=>(q.1,arg V L q.2))<;>rfl
theorem FM {x:Arg}:ap C nv (.ops (.i d (.nilc x)::is)::k) V L h=rV C nv d is k V L h (wQ (arg V L x)):=by rw[fe rfl rfl];exact ej
theorem IV {kd:Kd} {op:BinOp} {x y:Arg}:ap C nv (.ops (.i d (.bin kd op x y)::is)::k) V L h=rV C nv d is k V L h (bk kd op (arg V L x) (arg V L y)):=by rw[fe rfl rfl];exact ej
theorem F9 {kd:Kd} {ks:Option (List Kd)} {cy:Bool} {op:BinOp} {x y:Arg}:ap C nv (.ops (.i d (.binG kd ks cy op x y)::is)::k) V L h=rV C nv d is k V L h (je kd ks cy op (arg V L x) (arg V L y)):=by rw[fe rfl rfl];exact ej
theorem LI {op:UnOp} {x:Arg}:ap C nv (.ops (.i d (.un op x)::is)::k) V L h=rV C nv d is k V L h (unA op (arg V L x)):=by rw[fe rfl rfl];exact ej
theorem FK {kd:Kd} {x:Arg}:ap C nv (.ops (.i d (.conv kd x)::is)::k) V L h=rV C nv d is k V L h (cvA kd (arg V L x)):=by rw[fe rfl rfl];exact ej
theorem I6 {t:TypeId} {x:Arg}:ap C nv (.ops (.i d (.mki t x)::is)::k) V L h=rV C nv d is k V L h (Hw t (arg V L x)):=by rw[fe rfl rfl];exact ej
theorem Jy {g:FuncId} {f c:List Arg}:ap C nv (.ops (.i d (.mkf g f c)::is)::k) V L h=rV C nv d is k V L h (some (.fn g (f.map (arg V L)) (c.map (arg V L)))):=by rw[fe rfl rfl];rfl
theorem Jv {s:Bool} {e:Option TypeId} {x:Arg} {lo hi:Option Arg}:ap C nv (.ops (.i d (.slc s e x lo hi)::is)::k) V L h=rV C nv d is k V L h (if cU s e (arg V L x)then ju (arg V L x) (lo.map (arg V L)) (hi.map (arg V L))else none):=by
 rw[fe rfl rfl]
 simp only[bA]
 split
 ·exact ej
 ·rfl
theorem I9 {off:Nat} {x:Arg}:ap C nv (.ops (.i d (.fad off x)::is)::k) V L h=rV C nv d is k V L h (aH off (arg V L x)):=by rw[fe rfl rfl];exact ej
theorem JM {agg:Bool} {n off:Nat} {x:Arg}:ap C nv (.ops (.i d (.fld agg n off x)::is)::k) V L h=rV C nv d is k V L h (G8 agg n off (arg V L x)):=by rw[fe rfl rfl];exact ej
theorem I4 {e:Option TypeId} {ar:Option (Nat×Nat)} {x q:Arg}:ap C nv (.ops (.i d (.ixa e ar x q)::is)::k) V L h=rV C nv d is k V L h (cj e ar (arg V L x) (arg V L q)):=by rw[fe rfl rfl];exact ej
theorem LH {s:Bool} {ar:Option (Nat×Nat×Bool)} {x q:Arg}:ap C nv (.ops (.i d (.ix s ar x q)::is)::k) V L h=rV C nv d is k V L h (ixR s ar (arg V L x) (arg V L q)):=by rw[fe rfl rfl];exact ej
theorem JQ {t:TypeId} {ok:Bool} {x:Arg}:ap C nv (.ops (.i d (.tas t ok x)::is)::k) V L h=rV C nv d is k V L h (Cc t ok (arg V L x)):=by rw[fe rfl rfl];exact ej
theorem IN {x:Arg} {i:Nat}:ap C nv (.ops (.i d (.ext x i)::is)::k) V L h=rV C nv d is k V L h (Lp (arg V L x) i):=by rw[fe rfl rfl];exact ej
theorem IT {s:Bool} {e:Option TypeId} {x:Arg}:ap C nv (.ops (.i d (.len s e x)::is)::k) V L h=rV C nv d is k V L h (if cU s e (arg V L x)then(dO (arg V L x)).map fun(n:Nat)=>i64 n else none):=by
 rw[fe rfl rfl]
 simp only[bA]
 split
 ·cases dO (arg V L x)<;>rfl
 ·rfl
theorem Bo {z:List AV}:ap C nv (.ops (.i d (.alloc z)::is)::k) V L h=ap C nv (.ops is::k) (fC V (.ptr h.n 0 0) d) (gt L (.ptr h.n 0 0) d) (h.push [z]):=by rw[fe rfl rfl];rfl
theorem AQ {n:Nat} {x:Arg} (h1:(arg V L x).cells.all AV.one=true) (h2:(arg V L x).cells.length=n):ap C nv (.ops (.i d (.box n x)::is)::k) V L h=ap C nv (.ops is::k) (fC V (.ptr h.n 0 0) d) (gt L (.ptr h.n 0 0) d) (h.push [(arg V L x).cells]):=by
 rw[fe rfl rfl]
 simp[bA,h1,h2,rS]
theorem JL {e:TypeId} {z:List AV} {n len:Nat} {ps:List (Nat×Arg)}:ap C nv (.ops (.i d (.bsl false e z n len ps)::is)::k) V L h=rS C nv d is k V L ((jc n (replicate len z) (ps.map fun q=>(q.1,arg V L q.2))).map fun es=>(.isl (some h.ids) e es,h.fresh len)):=by rw[fe rfl rfl];rfl
theorem FH {e:TypeId} {z:List AV} {n len:Nat} {ps:List (Nat×Arg)}:ap C nv (.ops (.i d (.bsl true e z n len ps)::is)::k) V L h=rS C nv d is k V L ((jc n (replicate len z) (ps.map fun q=>(q.1,arg V L q.2))).map fun es=>(.msl h.n 0 len e,h.push es)):=by rw[fe rfl rfl];rfl
theorem E4 {agg:Bool} {n:Nat} {x:Arg}:ap C nv (.ops (.i d (.load agg n x)::is)::k) V L h=rV C nv d is k V L h (aK agg n h (arg V L x)):=by rw[fe rfl rfl];exact ej
theorem BD {n:Nat} {a x:Arg}:ap C nv (.ops (.i .n (.store n a x)::is)::k) V L h=rH C nv is k V L (aE n h (arg V L a) (arg V L x)):=by
 rw[fe rfl rfl]
 simp only[bA]
 cases aE n h (arg V L a) (arg V L x)<;>rfl
theorem Ju {e:TypeId} {z:List AV} {l c:Arg}:ap C nv (.ops (.i d (.mks e z l c)::is)::k) V L h=rS C nv d is k V L (Ko e z (arg V L l) (arg V L c) h):=by rw[fe rfl rfl];rfl
theorem JY {mu:Bool} {e:TypeId} {x y:Arg}:ap C nv (.ops (.i d (.app mu e x y)::is)::k) V L h=rS C nv d is k V L (aG mu e (arg V L x) (arg V L y) h):=by rw[fe rfl rfl];rfl
theorem Ff {mu:Bool} {e:TypeId} {x y:Arg}:ap C nv (.ops (.i d (.apps mu e x y)::is)::k) V L h=rS C nv d is k V L (lX mu e (arg V L x) (arg V L y) h):=by rw[fe rfl rfl];rfl
theorem Gd {t:TypeId} {n:Nat} {x:Arg} (h1:(arg V L x).cells.all AV.one=true) (h2:(arg V L x).cells.length=n):ap C nv (.ops (.i d (.tbox t n x)::is)::k) V L h=ap C nv (.ops is::k) (fC V (.tptr t h.n) d) (gt L (.tptr t h.n) d) (h.push [(arg V L x).cells]):=by
 rw[fe rfl rfl]
 simp[bA,h1,h2,rS]
theorem wd {t:TypeId} {z:List AV}:ap C nv (.ops (.i d (.talloc t z)::is)::k) V L h=ap C nv (.ops is::k) (fC V (.tptr t h.n) d) (gt L (.tptr t h.n) d) (h.push [z]):=by rw[fe rfl rfl];rfl
theorem Lw {mx:Bool} {x y:Arg}:ap C nv (.ops (.i d (.mm mx x y)::is)::k) V L h=rV C nv d is k V L h (mmA mx (arg V L x) (arg V L y)):=by rw[fe rfl rfl];exact ej
theorem Al {v:AV}:rV C nv d is k V L h (some v)=ap C nv (.ops is::k) (fC V v d) (gt L v d) h:=rfl
theorem AS:rH C nv is k V L (some h)=ap C nv (.ops is::k) V L h:=rfl
theorem Ae {v:AV}:rS C nv d is k V L (some (v,h))=ap C nv (.ops is::k) (fC V v d) (gt L v d) h:=rfl
theorem FT {v:AV}:rC C nv d is k V L (some (.inl v,h))=ap C nv (.ops is::k) (fC V v d) (gt L v d) h:=rfl
theorem xi {v:AV}:rC C nv d is k V L (some (.inr v,h))=some (.panic v,V,h):=rfl
theorem AN {o:RO}:rG C nv d o is k V L h (some true)=ap C nv (.ops (.i d o::is)::k) V L h:=rfl
theorem xg {o:RO}:rG C nv d o is k V L h (some false)=ap C nv (.ops is::k) (fC V (.tup []) d) (gt L (.tup []) d) h:=rfl
theorem A9 {x y l:List RS} {b:Bool}:rB C nv x y l k V h (.bool b)=if b=true then ap C nv (.ss x:: .ss l::k) V [] h else ap C nv (.ss y:: .ss l::k) V [] h:=rfl
theorem Bi:rE C nv V L h (some k)=ap C nv k V L h:=rfl
theorem sG {b:Bool} {x y:AV}:GK (.bool b) x y=some (if b=true then x else y):=rfl
theorem jL {p:Bool} {rs:List jV} {h0:AH}:cFR p rs h0 (some (.ret,V,h))=cF.cR p h0 h ((ei V h rs).map eO):=rfl
theorem nx {p:Bool} {rs:List jV} {h0:AH} {v:AV}:cFR p rs h0 (some (.panic v,V,h))=fgA p h0 (.inr v,h):=rfl
theorem JD {j:Nat}:arg V L (.v j)=V.getD j .junk:=rfl
theorem IZ {j:Nat}:arg V L (.l j)=L.getD j .junk:=rfl
theorem IW {a:AV}:arg V L (.c a)=a:=rfl
theorem Gb {v:AV} {j:Nat}:fC V v (.v j)=V.set j v:=rfl
theorem Ep {v:AV}:fC V v .l=V:=rfl
theorem Du {v:AV}:fC V v .n=V:=rfl
theorem DY {v:AV} {j:Nat}:gt L v (.v j)=L:=rfl
theorem Gy {v:AV}:gt L v .l=v::L:=rfl
theorem E0 {v:AV}:gt L v .n=L:=rfl
end
end Go.Proofs.YtkdbjfncchmmpaaGreat
