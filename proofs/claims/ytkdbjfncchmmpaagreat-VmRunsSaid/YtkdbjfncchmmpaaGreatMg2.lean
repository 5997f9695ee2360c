/- A call does in memory what the plain model says: what is to be shown, and the steps of the machine. Statements whose order Go leaves open: the plain facts. Statements whose order Go leaves open: the run of a plan, step by step, and what of it is true in every order. The run of a plan seen from its end: what each operation looks at stays. In every order that Go leaves open a statement comes to what its plan comes to. The memory that a call made may be forgotten. What the plain model says of a call is what the machine does. -/
import Derived.Test.YtkdbjfncchmmpaaGreatMg1
import Derived.Orders
namespace Go.Proofs.YtkdbjfncchmmpaaGreat
open Nat renaming reduceAdd→θ,reduceSub→ξ,reduceLeDiff→ψ,reduceLT→ω
open List renaming replicate→η
set_option linter.unusedSimpArgs false
set_option linter.unusedVariables false
set_option linter.unusedSimpArgs false
set_option linter.unusedVariables false
open Go Go.RowKit
def AC (P:Program) (g:FuncId) (args:List AV) (h:AH) (r:(AV ⊕ AV)×AH):Prop:=
 ∀ (m:Mm) (w:World) (vs:List Value),WR P m h w→VRs P m h args vs→Calls P g vs.toArray w fun e w'=>∃ m',Ext m h m' r.2∧WR P m' r.2 w'∧Below m.base w w'∧
   match r.1 with
   | .inl v=>∃ u,e= .returned u∧VR P m' r.2 v u
   | .inr v=>∃ u,e= .panicked [{v:=u,recovered:=false}]∧VR P m' r.2 v u
structure POK (P:Program) (po:Pol):Prop where
 ty:pO P
 name:∀ (g:Nat) (fn:Func),P.funcs[g]? =some fn→po.use g=true→(fn.name== "runtime.NumGoroutine")=false
 ext:∀ g F,po.ext g=some F→∃ fn,P.funcs[g]? =some fn∧(fn.body.isNone=false∧(fn.name== "runtime.NumGoroutine")=false)∧∀ args h r,F args h=some r→AC P g args h r
 plan:∀ (g:Nat) (fn:Func) (c:Code),P.funcs[g]? =some fn→fn.body=some c→po.use g=true→dP (po.plan g) (po.kp g) c=true
 mixed:P.follows .mixedOrders=true
 kpz:∀ g e,e<2000000→po.kp g (1000000+e)=true→(eH P e).isSome=true
 kpb:∀ g ty,po.kp g (1000000+(ty+2000000))=true→po.mu g ty=false∧po.mu g (ty+1000000)=true
def bV (P:Program) (S:Nat→Bool) (m:Mm) (h:AH) (w:World) (b:Frame) (cs:List Frame) (mach:Machine) (r:AEx×List AV×AH):Prop:=
 ∃ m' w',Ext m h m' r.2.2∧WR P m' r.2.2 w'∧Below m.base w w'∧
   match r.1 with
   | .ret=>∃ (a':Act) (todo:List Item),TR P m' r.2.2 r.2.1 a'.tmps∧a'.defers=b.defers∧Steps P mach (lone {b.at a' todo with mode:= .returning} cs w')
   | .panic v=>∃ (a':Act) (todo:List Item) (u:Value),(∃ tm,TR P m' r.2.2 tm a'.tmps∧∀ d,S d=true→tm.getD d .junk=r.2.1.getD d .junk)∧a'.defers=b.defers∧VR P m' r.2.2 v u∧Steps P mach (lone {b.at a' todo with mode:= .panicking [{v:=u,recovered:=false}]} cs w')
   | .halt K=>∃ (a':Act),TR P m' r.2.2 r.2.1 a'.tmps∧a'.defers=b.defers∧Steps P mach (lone (b.at a' K) cs w')
section
variable {P:Program} {m m1 m':Mm} {h h1 h':AH} {w w1 w':World} {t:List AV} {a:Act} {o:Oper} {b:Frame} {cs:List Frame} {mach mach':Machine} {r:AEx×List AV×AH}
theorem bV.steps {S:Nat→Bool} (hs:Steps P mach mach') (ho:bV P S m h w b cs mach' r):bV P S m h w b cs mach r:=by
 obtain⟨m',w',h1,h2,h3,h4⟩:=ho
 refine⟨m',w',h1,h2,h3,?_⟩
 split at h4
 ·rename_i hr
  obtain⟨a',todo,k1,k2,k3⟩:=h4
  exact⟨a',todo,k1,k2,hs.trans k3⟩
 ·rename_i v hr
  obtain⟨a',todo,u,k0,k1,k2,k3⟩:=h4
  exact⟨a',todo,u,k0,k1,k2,hs.trans k3⟩
 ·rename_i K hr
  obtain⟨a',k1,k2,k3⟩:=h4
  exact⟨a',k1,k2,hs.trans k3⟩
theorem bV.after {S:Nat→Bool} (hx:Ext m h m1 h1) (hb:Below m.base w w1) (ho:bV P S m1 h1 w1 b cs mach r):bV P S m h w b cs mach r:=by
 obtain⟨m',w',k1,k2,k3,k4⟩:=ho
 exact⟨m',w',hx.trans k1,k2,hb.trans (by rw[←hx.base];exact k3),k4⟩
theorem TR.clear (ht:TR P m h t a.tmps) (n:Nat):TR P m h (aa n t) a.tmps:=by
 refine⟨by rw[ht.1,aa];simp;omega,fun i hi=> ?_⟩
 unfold aa at hi ⊢
 by_cases hin:i<(t.take n).length
 ·rw[List.getElem_append_left hin,List.getElem_take]
  exact ht.2 i _
 ·rw[List.getElem_append_right (by omega)]
  simp only[List.getElem_replicate]
  exact .junk _
theorem qQ {all:Array Oper} {i:Nat} {rest:List Nat} {k:List Item} {u:Value} (ho:all[i]? =some o) (hwa:Region.wanted o (yielded all a.tmps)=true)
  (hr:(execOp a.eval o).run P w= .ok (.value u) w'∨((execOp a.eval o).run P w= .ok .skip w'∧u=undef)):
  Steps P (lone (b.at a (.inRegion all (i::rest)::k)) cs w) (lone (b.at (a.put o.dst u) (.inRegion all rest::k)) cs w'):=by
 have hg:=stepG_op (P:=P) (b:=b) (k:=k) (cs:=cs) (w:=w) (rest:=rest) ho hwa
 have hfin:∀ v,(b.at a (.inRegion all (i::rest)::k)).finish v=b.at (a.put o.dst v) (.inRegion all rest::k):=by
  intro v;rw[Frame.finish_at,ho];rfl
 refine .one (step_lone_go ?_)
 rcases hr with hr | ⟨hr,rfl⟩
 ·rw[hg,←hfin];simp[stepG.apply,hr]
 ·rw[hg,←hfin];simp[stepG.apply,hr]
theorem nC {all:Array Oper} {i:Nat} {rest:List Nat} {k:List Item} (ho:all[i]? =some o) (hwa:Region.wanted o (yielded all a.tmps)=false):
  Steps P (lone (b.at a (.inRegion all (i::rest)::k)) cs w) (lone (b.at (a.put o.dst undef) (.inRegion all rest::k)) cs w):=by
 have hs:=step_op_skip (P:=P) (b:=b) (a:=a) (k:=k) (cs:=cs) (w:=w) (ops:=all) (i:=i) (rest:=rest) (by simp[ho];simpa using hwa)
 simp only[ho,Option.bind_some]at hs
 exact .one hs
theorem mE {all:Array Oper} {i:Nat} {rest:List Nat} {k:List Item} {f:FuncId} {args:Array Value} {R:Ending→World→Prop} (ho:all[i]? =some o) (hwa:Region.wanted o (yielded all a.tmps)=true)
  (hr:(execOp a.eval o).run P w= .ok (.enter f args) w) (hc:Calls P f args w R) (hno:∀ w',¬ R .outgrown w'):
  ∃ e w',R e w'∧((∃ v,e= .returned v∧Steps P (lone (b.at a (.inRegion all (i::rest)::k)) cs w) (lone (b.at (a.put o.dst v) (.inRegion all rest::k)) cs w'))∨
    (∃ ch,e= .panicked ch∧∃ todo,Steps P (lone (b.at a (.inRegion all (i::rest)::k)) cs w) (lone {b.at a todo with mode:= .panicking ch} cs w'))):=by
 have hg:=stepG_op (P:=P) (b:=b) (k:=k) (cs:=cs) (w:=w) (rest:=rest) ho hwa
 have hfin:∀ v,(b.at a (.inRegion all (i::rest)::k)).finish v=b.at (a.put o.dst v) (.inRegion all rest::k):=by
  intro v;rw[Frame.finish_at,ho];rfl
 obtain⟨e,w'',fr,hR,hsteps,_,hleave⟩:=hc (b.at a (.inRegion all (i::rest)::k)::cs)
 have henter:step P (lone (b.at a (.inRegion all (i::rest)::k)) cs w)= .next (lone (Frame.enter P f args .normal) (b.at a (.inRegion all (i::rest)::k)::cs) w):=
  step_lone_go (by rw[hg];simp[stepG.apply,hr,Frame.at])
 refine⟨e,w'',hR,?_⟩
 cases e with
 | returned v=>
   left
   refine⟨v,rfl,.head henter (Steps.trans hsteps (.one ?_))⟩
   rw[←hfin];exact step_leave_returned hleave
 | panicked chain=>
   right
   refine⟨chain,rfl,.inRegion all (i::rest)::k,.head henter (Steps.trans hsteps (.one ?_))⟩
   rw[←Frame.raise_at];exact step_leave_panicked hleave
 | outgrown=>exact absurd hR (hno _)
theorem ez (ht:TR P m h t a.tmps) (all:Array Oper) (o:Oper) {x:Bool} (hw:bB all t o=some x):Region.wanted o (yielded all a.tmps)=x:=by
 unfold bB at hw
 unfold Region.wanted
 split at hw
 ·rename_i hg
  rw[hg]
  injection hw
 ·rename_i j want hg
  rw[hg]
  simp only
  split at hw
  ·rename_i d hd
   have hlt:t.getD d .junk≠.junk→d<t.length:=by
    intro hb
    rcases Nat.lt_or_ge d t.length with h1 | h1
    ·exact h1
    ·rw[List.getD,List.getElem?_eq_none h1]at hb
     exact absurd rfl hb
   have hv:=ht.get d
   split at hw
   ·rename_i bb hb
    injection hw with hw
    rw[hb]at hv
    have hts:d<a.tmps.size:=by rw[ht.1];exact hlt (by rw[hb];simp)
    have hval:a.tmps.getD d undef= .bool bb:=by
     revert hv
     generalize a.tmps.getD d undef=q
     intro hv
     cases hv
     rfl
    have e1:a.tmps[d]? =some (.bool bb):=by
     rw[←hval]
     simp[Array.getD,hts]
    simp only[yielded,hd,Option.bind_some,e1]
    rw[←hw]
    cases want<;>cases bb<;>rfl
   ·rename_i vs hb
    injection hw with hw
    rw[hb]at hv
    have hts:d<a.tmps.size:=by rw[ht.1];exact hlt (by rw[hb];simp)
    obtain⟨us,hval⟩:∃ us,a.tmps.getD d undef= .tuple us:=by
     revert hv
     generalize a.tmps.getD d undef=q
     intro hv
     cases hv
     exact⟨_,rfl⟩
    have e1:a.tmps[d]? =some (.tuple us):=by
     rw[←hval]
     simp[Array.getD,hts]
    simp only[yielded,hd,Option.bind_some,e1]
    rw[←hw]
    cases want<;>rfl
   ·cases hw
  ·cases hw
theorem zY (ht:TR P m h t a.tmps) {v:AV} (hp:mz t o=some v):∃ u,VR P m h v u∧(execOp a.eval o).run P w= .halt (.panic u) w:=by
 unfold mz at hp
 split at hp
 ·rename_i x ho
  split at hp
  ·rename_i q v' hev
   injection hp with hp
   subst hp
   have hv:=aM ht x
   rw[hev]at hv
   obtain⟨u,hu⟩:∃ u,a.eval x=u:=⟨_,rfl⟩
   rw[hu]at hv
   cases hv with
   | iface _ _ u' h1=>
     refine⟨_,.iface q v' u' h1,?_⟩
     unfold execOp
     rw[ho]
     simp only[hu,Instr.panic]
     rfl
  ·cases hp
 ·cases hp
theorem EV {all:Array Oper} {i:Nat} {rest:List Nat} {k:List Item} {u:Value} (ho:all[i]? =some o) (hwa:Region.wanted o (yielded all a.tmps)=true) (hr:(execOp a.eval o).run P w= .halt (.panic u) w):
  Steps P (lone (b.at a (.inRegion all (i::rest)::k)) cs w) (lone {b.at a (.inRegion all (i::rest)::k)with mode:= .panicking [{v:=u,recovered:=false}]} cs w):=by
 have hg:=stepG_op (P:=P) (b:=b) (k:=k) (cs:=cs) (w:=w) (rest:=rest) ho hwa
 refine .one (step_lone_go ?_)
 rw[hg,←Frame.raise_at]
 simp[stepG.apply,hr]
theorem jZ (ht:TR P m h t a.tmps) {g:FuncId} {args:List AV} (hc:aT t o=some (g,args)) {fn:Func} (hf:P.funcs[g]? =some fn) (hn:(fn.name== "runtime.NumGoroutine")=false) (hb:fn.body.isNone=false):
  ∃ vs:List Value,VRs P m h args vs∧(execOp a.eval o).run P w= .ok (.enter g vs.toArray) w:=by
 unfold aT at hc
 split at hc
 ·rename_i fo ao aty ho
  split at hc
  ·rename_i g' first captured hev
   injection hc with hc
   injection hc with h1 h2
   subst h1
   subst h2
   have hv:=aM ht fo
   rw[hev]at hv
   obtain⟨u,hu⟩:∃ u,a.eval fo=u:=⟨_,rfl⟩
   rw[hu]at hv
   cases hv with
   | fn _ l c l' c' e1 e2 e3 e4=>
     refine⟨l'++ao.toList.map a.eval++c',VRs.append (VRs.append ⟨e1,e3⟩ (VRs.map fun x _=>aM ht x)) ⟨e2,e4⟩,?_⟩
     have e5:(l'.toArray++ao.map a.eval)++c'.toArray=(l'++ao.toList.map a.eval++c').toArray:=by
      apply Array.ext'
      simp
     simp only[execOp,ho,hu,resolve,Deferred.ofValue,Sem.run_bind,Sem.run_pure,Result.andThen_ok,invoke,callFunc,run_program,hf,hn,hb,Bool.false_eq_true,if_false,e5]
  ·cases hc
 ·cases hc
theorem ja (hw:WR P m h w) (ht:TR P m h t a.tmps) {fn:Func} {v:AV} (hv:qi fn t h P=some v):∃ u,(results fn a.tmps).run P w= .ok u w∧VR P m h v u:=by
 unfold qi at hv
 obtain⟨vs,hvs,rfl⟩:=Option.map_eq_some_iff.1 hv
 have key:∀ (rs:List ResultVar) (vs:List AV),qo P t h rs=some vs→∃ us:List Value,(rs.mapM fun(x:ResultVar)=>(match x with
   | .tmp t=>pure (a.tmps.getD t undef)
   | .cell c t=>do loadVar t (←asAddr (a.tmps.getD c undef)):Sem Value)).run P w= .ok us w∧VRs P m h vs us:=by
  intro rs
  induction rs with
  | nil=>
    intro vs hvs
    simp[qo]at hvs
    subst hvs
    exact⟨[],by simp,VRs.nil⟩
  | cons x rs ih=>
    intro vs hvs
    cases x with
    | tmp i=>
      simp only[qo]at hvs
      obtain⟨l,hl,rfl⟩:=Option.map_eq_some_iff.1 hvs
      obtain⟨us,h1,h2⟩:=ih l hl
      exact⟨_,by simp only[List.mapM_cons,Sem.run_bind,Sem.run_pure,Result.andThen_ok,h1],VRs.cons (ht.get i) h2⟩
    | cell i ty=>
      simp only[qo]at hvs
      split at hvs
      ·cases hvs
      ·rename_i hn
       obtain⟨v,hv,hvs⟩:=Option.bind_eq_some_iff.1 hvs
       obtain⟨l,hl,rfl⟩:=Option.map_eq_some_iff.1 hvs
       obtain⟨us,h1,h2⟩:=ih l hl
       have hx:=ht.get i
       obtain⟨d,hd⟩:=Option.isSome_iff_exists.1 (by cases hu2:P.underlying ty<;>simp_all:(P.underlying ty).isSome=true)
       obtain⟨i0,hi0⟩:=yv hd
       have hld:∃ u,(do loadVar ty (←asAddr (a.tmps.getD i undef)):Sem Value).run P w= .ok u w∧VR P m h v u:=by
        revert hx hv
        generalize a.tmps.getD i undef=ax
        generalize t.getD i .junk=ex
        intro hv hx
        obtain⟨ex',hx',hne,hl,_⟩:=hx.untag
        rw[←hl]at hv
        cases hx' with
        | tptr t b _ _=>exact absurd rfl (hne t b)
        | ptr b i off hb=>
          simp only[aR]at hv
          rcases hr:h.row b i with _ | e
          ·simp[hr]at hv
          ·simp only[hr,Option.bind_some]at hv
           obtain⟨F,hF⟩:=K3 hw hr
           obtain⟨u,h1,h2⟩:=sg (w:=w) ty hd (by rw[hi0];simp) (m.blk b) (i*P.cellsOf (m.bt b)) off e F hF hv
           exact⟨u,by simp[asAddr,h1],h2⟩
        | ip e off g o' F hi' hv'=>
          simp only[aR]at hv
          obtain⟨u,h1,h2⟩:=sg (w:=w) (h:=h) (m:=m) ty hd (by rw[hi0];simp) g o' off e F (fun j hj=>⟨hw.imm _ _ _ (hi' j hj),hv' j hj⟩) hv
          exact⟨u,by simp[asAddr,h1],h2⟩
        | _=>simp[aR]at hv
       obtain⟨u,hu1,hu2⟩:=hld
       exact⟨_,by simp only[List.mapM_cons,Sem.run_bind,Result.andThen_ok,hu1,h1,Sem.run_pure],VRs.cons hu2 h2⟩
 obtain⟨us,h1,h2⟩:=key _ _ hvs
 unfold results
 rw[Array.mapM_eq_mapM_toList]
 have hrun:(do
   let vs ←(List.toArray<$>(fn.results.toList.mapM fun(x:ResultVar)=>(match x with
    | .tmp t=>pure (a.tmps.getD t undef)
    | .cell c t=>do loadVar t (←asAddr (a.tmps.getD c undef)):Sem Value)))
   pure (if h:vs.size=1 then vs[0]else .tuple vs):Sem Value).run P w= .ok (if h:us.toArray.size=1 then us.toArray[0]else .tuple us.toArray) w:=by
  simp[h1, -Array.getD_eq_getD_getElem?]
 refine⟨_,hrun,?_⟩
 by_cases hl:us.length=1
 ·obtain⟨u,rfl⟩:=List.length_eq_one_iff.1 hl
  have hvl:vs.length=1:=h2.1.symm
  obtain⟨v,rfl⟩:=List.length_eq_one_iff.1 hvl
  have:=h2.2 0 (by simp) (by simp)
  simpa[gh]using this
 ·have hvl:vs.length≠1:=by rw[←h2.1];exact hl
  have e1:gh vs= .tup vs:=by
   unfold gh
   split
   ·simp at hvl
   ·rfl
  rw[e1,dif_neg (by simpa using hl)]
  exact .tup _ _ h2.1 h2.2
end
open Go Go.RowKit
section
variable {P:Program} {t τ:List AV} {h h':AH} {o:Oper} {all:Array Oper} {M:Array Nat}
theorem Mf {x:Operand} (hx:∀ d,x= .tmp d→t.getD d .junk=τ.getD d .junk):evA t x=evA τ x:=by
 cases x with
 | tmp d=>exact hx d rfl
 | _=>rfl
theorem se (hl:∀ d∈o.looksAt all,t.getD d .junk=τ.getD d .junk):∀ x∈o.op.operands,evA t x=evA τ x:=by
 intro x hx
 refine Mf fun d hd=>hl d ?_
 subst hd
 exact List.mem_append_left _ (List.mem_filterMap.2 ⟨.tmp d,by simpa using hx,rfl⟩)
theorem jr (hl:∀ d∈o.looksAt all,t.getD d .junk=τ.getD d .junk):bB all t o=bB all τ o:=by
 unfold bB
 split
 ·rfl
 ·rename_i j want hg
  split
  ·rename_i d hd
   rw[hl d (List.mem_append_right _ (by simp[hg,hd]))]
  ·rfl
theorem l8 (hl:∀ d∈o.looksAt all,t.getD d .junk=τ.getD d .junk):aT t o=aT τ o:=by
 have hE:=se hl
 unfold aT
 split
 ·rename_i fo ao aty ho
  rw[ho]at hE
  have h1:evA t fo=evA τ fo:=hE _ (by simp[Op.operands,Call.operands])
  have h2:ao.toList.map (evA t)=ao.toList.map (evA τ):=List.map_congr_left fun x hx=>hE _ (by
   simp[Op.operands,Call.operands]
   exact .inr (by simpa using hx))
  rw[h1,h2]
 ·rfl
theorem Hr (hl:∀ d∈o.looksAt all,t.getD d .junk=τ.getD d .junk):mz t o=mz τ o:=by
 have hE:=se hl
 unfold mz
 split
 ·rename_i x ho
  rw[hE x (by simp[ho,Op.operands])]
 ·rfl
theorem uR (ps:List (Nat×Operand)) (hp:∀ x∈ps.map (·.2),evA t x=evA τ x):(ps.map fun q=>(q.1,evA t q.2))=ps.map fun q=>(q.1,evA τ q.2):=
 List.map_congr_left fun p hm=>by rw[hp p.2 (List.mem_map.2 ⟨p,hm,rfl⟩)]
theorem A9 (xs:Array Operand) (hp:∀ x∈xs,evA t x=evA τ x):xs.toList.map (evA t)=xs.toList.map (evA τ):=List.map_congr_left fun x hx=>hp x (by simpa using hx)
theorem CC (hE:∀ x∈o.op.operands,evA t x=evA τ x):cD P t o=cD P τ o:=by
 unfold cD
 split
 ·rename_i x ho
  rw[hE x (by simp[ho,Op.operands])]
 ·rename_i x ho
  rw[hE x (by simp[ho,Op.operands])]
 ·rename_i c x y ho
  rw[hE c (by simp[ho,Op.operands]),hE x (by simp[ho,Op.operands]),hE y (by simp[ho,Op.operands])]
 ·rename_i ty parts ho
  rw[uR parts.toList fun x hx=>hE x (by rw[ho];simp only[Op.operands];simpa using hx)]
 ·rename_i x ho
  rw[hE x (by simp[ho,Op.operands])]
 ·rename_i op ty x y yt ho
  rw[hE x (by simp[ho,Op.operands]),hE y (by simp[ho,Op.operands])]
 ·rename_i op ty x ho
  rw[hE x (by simp[ho,Op.operands])]
 ·rename_i src dst x ho
  rw[hE x (by simp[ho,Op.operands])]
 ·rename_i ty x ho
  rw[hE x (by simp[ho,Op.operands])]
 ·rename_i f first captured ho
  rw[A9 first fun x hx=>hE x (by simp[ho,Op.operands,hx]),A9 captured fun x hx=>hE x (by simp[ho,Op.operands,hx])]
 ·rename_i ty x lo hi mx ho
  have h1:evA t x=evA τ x:=hE x (by simp[ho,Op.operands])
  have h2:lo.map (evA t)=lo.map (evA τ):=by
   cases lo with
   | none=>rfl
   | some l=>simp only[Option.map_some];rw[hE l (by simp[ho,Op.operands])]
  have h3:hi.map (evA t)=hi.map (evA τ):=by
   cases hi with
   | none=>rfl
   | some l=>simp only[Option.map_some];rw[hE l (by simp[ho,Op.operands])]
  rw[h1,h2,h3]
 ·rename_i s x f ho
  rw[hE x (by simp[ho,Op.operands])]
 ·rename_i s x f ho
  rw[hE x (by simp[ho,Op.operands])]
 ·rename_i ty x ix ho
  rw[hE x (by simp[ho,Op.operands]),hE ix (by simp[ho,Op.operands])]
 ·rename_i ty x ix ho
  rw[hE x (by simp[ho,Op.operands]),hE ix (by simp[ho,Op.operands])]
 ·rename_i x xt aS ok ho
  rw[hE x (by simp[ho,Op.operands])]
 ·rename_i x i ho
  rw[hE x (by simp[ho,Op.operands])]
 ·rename_i args argTypes ho
  have hA:∀ x∈args.toList,evA t x=evA τ x:=fun x hx=>hE x (by rw[ho];simp[Op.operands,Call.operands];simpa using hx)
  split
  ·rename_i x ty tys ha hty
   rw[hA x (by rw[ha];simp)]
  ·rfl
 ·rename_i args argTypes ho
  have hA:∀ x∈args.toList,evA t x=evA τ x:=fun x hx=>hE x (by rw[ho];simp[Op.operands,Call.operands];simpa using hx)
  split
  ·rename_i x y ha
   rw[hA x (by rw[ha];simp),hA y (by rw[ha];simp)]
  ·rfl
 ·rename_i args argTypes ho
  have hA:∀ x∈args.toList,evA t x=evA τ x:=fun x hx=>hE x (by rw[ho];simp[Op.operands,Call.operands];simpa using hx)
  split
  ·rename_i x y ha
   rw[hA x (by rw[ha];simp),hA y (by rw[ha];simp)]
  ·rfl
 ·rfl
theorem sj (mu:TypeId→Bool) (hl:∀ d∈o.looksAt all,t.getD d .junk=τ.getD d .junk):be P mu t h o=be P mu τ h o:=by
 have hE:=se hl
 have hp:=CC (P:=P) hE
 clear hl
 unfold be
 split
 ·rfl
 ·rename_i e x ho
  rw[hE x (by simp[ho,Op.operands])]
 ·rename_i ty len parts ho
  rw[uR parts.toList fun x hx=>hE x (by rw[ho];simp only[Op.operands];simpa using hx)]
 ·rename_i ty x ho
  rw[hE x (by simp[ho,Op.operands])]
 ·rename_i ty x y ho
  rw[hE x (by simp[ho,Op.operands]),hE y (by simp[ho,Op.operands])]
 ·rename_i ty x y ho
  rw[hE x (by simp[ho,Op.operands]),hE y (by simp[ho,Op.operands])]
 ·rename_i args argTypes ho
  have hA:∀ x∈args.toList,evA t x=evA τ x:=fun x hx=>hE x (by rw[ho];simp[Op.operands,Call.operands];simpa using hx)
  split
  ·rename_i x y ty ty' ha hty
   rw[hA x (by rw[ha];simp),hA y (by rw[ha];simp)]
  ·rfl
 ·rw[hp]
theorem wW (mu:TypeId→Bool) (hs:eP o=true) (hn:jS o=false) (h:AH):be P mu t h o=(cD P t o).map fun v=>(v,h):=by
 unfold be
 split
 all_goals first
  | rfl
  | (rename_i ho;simp[eP,ho]at hs;done)
  | (rename_i ho;simp[jS,ho]at hn;done)
theorem Is (mu:TypeId→Bool) (hs:eP o=true) {v:AV} (he:be P mu t h o=some (v,h')):h'=h:=by
 by_cases hn:jS o=true
 ·unfold jS at hn
  split at hn
  ·rename_i ty a ho
   unfold be at he
   rw[ho]at he
   simp only at he
   split at he
   ·cases he
   ·obtain⟨u,_,he⟩:=Option.map_eq_some_iff.1 he
    injection he with h1 h2
    exact h2.symm
  ·cases hn
 ·rw[wW mu hs (by simpa using hn)]at he
  obtain⟨u,_,he⟩:=Option.map_eq_some_iff.1 he
  injection he with h1 h2
  exact h2.symm
theorem LW (mu:TypeId→Bool) (hs:eP o=true) (hn:jS o=false) {v:AV} (he:be P mu t h o=some (v,h)) (h2:AH):be P mu t h2 o=some (v,h2):=by
 rw[wW mu hs hn]at he ⊢
 obtain⟨u,hu,he⟩:=Option.map_eq_some_iff.1 he
 injection he with h1 _
 rw[hu,←h1]
 rfl
def stQ (mu:TypeId→Bool) (o:Oper):Bool:=eP o || (match o.op with | .buildSlice ty _ _=> !mu ty && mu (ty+1000000) | _=>false)
theorem Jl {mu:TypeId→Bool} (hq:stQ mu o=true):eP o=true∨∃ ty len parts,o.op= .buildSlice ty len parts∧mu ty=false∧mu (ty+1000000)=true:=by
 unfold stQ at hq
 rw[Bool.or_eq_true]at hq
 refine hq.imp id fun h=> ?_
 split at h
 ·rename_i ty len parts ho
  rw[Bool.and_eq_true,Bool.not_eq_true']at h
  exact⟨ty,len,parts,ho,h.1,h.2⟩
 ·cases h
theorem uQ {Z:TypeId→Bool} (h:eP o=true):jR Z o=true:=by unfold jR;rw[h];rfl
theorem uc {Z mu:TypeId→Bool} (zb:∀ ty,Z (ty+2000000)=true→mu ty=false∧mu (ty+1000000)=true) (hq:jR Z o=true):stQ mu o=true:=by
 unfold jR at hq
 unfold stQ
 rw[Bool.or_eq_true]at hq ⊢
 refine hq.imp id fun h=> ?_
 split at h
 ·rename_i ty len parts ho
  rw[ho]
  obtain⟨a,b⟩:=zb _ h
  simp[a,b]
 ·cases h
theorem DG {mu:TypeId→Bool} {ty:TypeId} {len:Nat} {parts:Array (Nat×Operand)} (ho:o.op= .buildSlice ty len parts) (h1:mu ty=false) (h2:mu (ty+1000000)=true) (h:AH):be P mu t h o=((d8 P ty).bind fun e=>(eH P e).bind fun z=>if len*szA P e≤16777216 then
   (jT (szA P e) (η len z) (parts.toList.map fun q=>(q.1,evA t q.2))).map fun es=> .isl none e es
   else none).map fun v=>(v,h):=by
 unfold be
 rw[ho]
 simp only[h1,h2,if_true,Bool.false_eq_true,if_false]
 cases d8 P ty with
 | none=>rfl
 | some e=>
   simp only[Option.bind_some]
   cases eH P e with
   | none=>rfl
   | some z=>
     simp only[Option.bind_some]
     split
     ·rw[Option.map_map];rfl
     ·rfl
theorem QD (mu:TypeId→Bool) (hs:stQ mu o=true) {v:AV} (he:be P mu t h o=some (v,h')):h'=h:=by
 rcases Jl hs with hs | ⟨ty,len,parts,ho,h1,h2⟩
 ·exact Is mu hs he
 ·rw[DG ho h1 h2]at he
  obtain⟨u,_,he⟩:=Option.map_eq_some_iff.1 he
  injection he with h1 h2
  exact h2.symm
theorem UR (mu:TypeId→Bool) (hs:stQ mu o=true) (hn:jS o=false) {v:AV} (he:be P mu t h o=some (v,h)) (h2:AH):be P mu t h2 o=some (v,h2):=by
 rcases Jl hs with hs | ⟨ty,len,parts,ho,h3,h4⟩
 ·exact LW mu hs hn he h2
 ·rw[DG ho h3 h4]at he ⊢
  obtain⟨u,hu,he⟩:=Option.map_eq_some_iff.1 he
  injection he with h1 _
  rw[hu,←h1]
  rfl
end
open Go Go.RowKit
def OpF (P:Program) (po:Pol) (f:FuncId) (t:List AV) (h:AH) (o:Oper) (v:AV) (h':AH):Prop:=
 (aT t o=none∧be P (po.mu f) t h o=some (v,h'))∨∃ g args fn,aT t o=some (g,args)∧P.funcs[g]? =some fn∧(fn.body.isNone=false∧(fn.name== "runtime.NumGoroutine")=false)∧AC P g args h (.inl v,h')
def rq (P:Program) (po:Pol) (f:FuncId) (all:Array Oper) (q:Oper×List Oper) (t:List AV) (h:AH) (t':List AV) (h':AH):Prop:=
 (bB all t q.1=some false∧t'=cz t q.1.dst (.tup [])∧h'=h)∨
 (bB all t q.1=some true∧∃ v,OpF P po f t h q.1 v h'∧t'=cz t q.1.dst v∧pQ P all t' h' q.2)
def ug (P:Program) (all:Array Oper) (o:Oper) (t:List AV) (h:AH) (v:AV) (h':AH):Prop:=
 bB all t o=some true∧((mz t o=some v∧h'=h)∨∃ g args fn,aT t o=some (g,args)∧P.funcs[g]? =some fn∧(fn.body.isNone=false∧(fn.name== "runtime.NumGoroutine")=false)∧AC P g args h (.inr v,h'))
inductive nU (P:Program) (po:Pol) (f:FuncId) (all:Array Oper):List (Oper×List Oper)→List AV→AH→Option AV→List AV→AH→Prop
 | nil (t:List AV) (h:AH):nU P po f all [] t h none t h
 | step (q:Oper×List Oper) (l:List (Oper×List Oper)) (t:List AV) (h:AH) (t1:List AV) (h1:AH) (e:Option AV) (t':List AV) (h':AH):
   rq P po f all q t h t1 h1→nU P po f all l t1 h1 e t' h'→nU P po f all (q::l) t h e t' h'
 | stop (q:Oper×List Oper) (l:List (Oper×List Oper)) (t:List AV) (h:AH) (v:AV) (h':AH):ug P all q.1 t h v h'→nU P po f all (q::l) t h (some v) t h'
theorem nU.trace {P:Program} {po:Pol} {f:FuncId} {all:Array Oper} {l:List (Oper×List Oper)} {t:List AV} {h:AH} {e:Option AV} {t':List AV} {h':AH} (hp:nU P po f all l t h e t' h'):
  ∃ (N:Nat) (ts:Nat→List AV) (hs:Nat→AH),N≤l.length∧ts 0=t∧hs 0=h∧ts N=t'∧(∀ i q,i<N→l[i]? =some q→rq P po f all q (ts i) (hs i) (ts (i+1)) (hs (i+1)))∧
    (match e with | none=>N=l.length∧hs N=h' | some v=>∃ q,l[N]? =some q∧ug P all q.1 (ts N) (hs N) v h'):=by
 induction hp with
 | nil t h=>exact⟨0,fun _=>t,fun _=>h,Nat.le_refl _,rfl,rfl,rfl,fun i q hi=>by omega,rfl,rfl⟩
 | step q l t h t1 h1 e t' h' hst _ ih=>
   obtain⟨N,ts,hs,h1',h2,h3,h4,h5,h6⟩:=ih
   refine⟨N+1,fun | 0=>t | i+1=>ts i,fun | 0=>h | i+1=>hs i,by simpa using h1',rfl,rfl,h4,fun i q' hi hq=> ?_,?_⟩
   ·cases i with
    | zero=>
      simp only[List.getElem?_cons_zero,Option.some.injEq]at hq
      subst hq
      show rq P po f all q t h (ts 0) (hs 0)
      rw[h2,h3]
      exact hst
    | succ i=>
      simp only[List.getElem?_cons_succ]at hq
      exact h5 i q' (by omega) hq
   ·cases e with
    | none=>exact⟨by simp[h6.1],h6.2⟩
    | some v=>
      obtain⟨q',hq,hs'⟩:=h6
      exact⟨q',by simpa using hq,hs'⟩
 | stop q l t h v h' hst=>exact⟨0,fun _=>t,fun _=>h,Nat.zero_le _,rfl,rfl,rfl,fun i q hi=>by omega,q,rfl,hst⟩
section
variable (all:Array Oper) (pl:List (Nat×List Nat))
def opI (i:Nat):Oper:=all.getD i default
def ixP (k:Nat):Nat:=(pl.getD k default).1
def ckP (k:Nat):List Nat:=(pl.getD k default).2
def opP (k:Nat):Oper:=opI all (ixP pl k)
def xo (all:Array Oper) (E:Nat→Nat→Prop) (i j:Nat):Prop:=kw (Region.before all) i j=true∨E i j
structure pu (Z:TypeId→Bool) (E:Nat→Nat→Prop):Prop where
 cover:∀ i,i<all.size→∃ k,k<pl.length∧ixP pl k=i
 lt:∀ k,k<pl.length→ixP pl k<all.size
 self:∀ k d,k<pl.length→(opP all pl k).dst=some d→d ∉ (opP all pl k).looksAt all
 edges:∀ j,j<all.size→∀ e∈(opI all j).after,Region.binds .any e=true→e.on<j
 mask:∀ j i,j<all.size→i<all.size→kw (Region.before all) i j=true→∃ e∈(opI all j).after,Region.binds .any e=true∧(e.on=i∨kw (Region.before all) i e.on=true)
 ne:∀ i j,i<j→j<pl.length→ixP pl i≠ixP pl j
 still:∀ i j,i<j→j<pl.length→jR Z (opP all pl i)=true∨oS Z (opP all pl j)=true∨xo all E (ixP pl i) (ixP pl j)
 load:∀ i j,i<j→j<pl.length→jR Z (opP all pl j)=true∨jS (opP all pl i)=false∨xo all E (ixP pl i) (ixP pl j)∨ixP pl i∈ckP pl j
 dst:∀ i j d,i<j→j<pl.length→(opP all pl j).dst=some d→d ∉ (opP all pl i).looksAt all∧(opP all pl i).dst≠some d
 data:∀ i j d,i<j→j<pl.length→(opP all pl i).dst=some d→d∈(opP all pl j).looksAt all→xo all E (ixP pl i) (ixP pl j)
structure pY (Z:TypeId→Bool) (E:Nat→Nat→Prop):Prop where
 size:pl.length≤all.size
 cover:∀ i,i<pl.length→∃ k,k<pl.length∧ixP pl k=i
 lt:∀ k,k<pl.length→ixP pl k<pl.length
 self:∀ k d,k<pl.length→(opP all pl k).dst=some d→d ∉ (opP all pl k).looksAt all
 edges:∀ j,j<all.size→∀ e∈(opI all j).after,Region.binds .any e=true→e.on<j
 mask:∀ j i,j<all.size→i<all.size→kw (Region.before all) i j=true→∃ e∈(opI all j).after,Region.binds .any e=true∧(e.on=i∨kw (Region.before all) i e.on=true)
 ne:∀ i j,i<j→j<pl.length→ixP pl i≠ixP pl j
 still:∀ i j,i<j→j<pl.length→jR Z (opP all pl i)=true∨oS Z (opP all pl j)=true∨xo all E (ixP pl i) (ixP pl j)
 load:∀ i j,i<j→j<pl.length→jR Z (opP all pl j)=true∨jS (opP all pl i)=false∨xo all E (ixP pl i) (ixP pl j)∨ixP pl i∈ckP pl j
 dst:∀ i j d,i<j→j<pl.length→(opP all pl j).dst=some d→d ∉ (opP all pl i).looksAt all∧(opP all pl i).dst≠some d
 data:∀ i j d,i<j→j<pl.length→(opP all pl i).dst=some d→d∈(opP all pl j).looksAt all→xo all E (ixP pl i) (ixP pl j)
end
theorem tF (Z:TypeId→Bool) (all:Array Oper) (M:Array Nat):∀ (pl:List (Nat×List Nat)),sd Z all M pl=true→∀ i j,i<j→j<pl.length→Dv Z all M (pl.getD i default) (pl.getD j default)=true
 | [],_,i,j,_,hj=>by simp at hj
 | x::r,hp,i,j,hij,hj=>by
   simp only[sd,Bool.and_eq_true,List.all_eq_true]at hp
   obtain⟨j,rfl⟩:∃ j',j=j'+1:=⟨j - 1,by omega⟩
   have hj':j<r.length:=by simpa using hj
   cases i with
   | zero=>
     have:r[j]∈r:=List.getElem_mem hj'
     have:=hp.1 _ this
     simpa[List.getD,hj']using this
   | succ i=>
     have:=tF Z all M r hp.2 i j (by omega) hj'
     simpa[List.getD]using this
theorem GG {n:Nat} {Z:TypeId→Bool} {all:Array Oper} {pl:List (Nat×List Nat)} (hn:n≤all.size) (hp:vG n Z all pl=true):pl.length=n∧pY all pl Z fun _ _=>False:=by
 unfold vG at hp
 simp only[Bool.and_eq_true]at hp
 obtain⟨⟨⟨⟨⟨⟨h0,h1⟩,h2⟩,h2'⟩,h3⟩,h4⟩,h5⟩:=hp
 have h0:pl.length=n:=by simpa using h0
 rw[List.all_eq_true]at h1 h2 h2' h3
 have hmem:∀ k,k<pl.length→pl.getD k default∈pl:=fun k hk=>by
  simp only[List.getD,List.getElem?_eq_getElem hk,Option.getD_some]
  exact List.getElem_mem hk
 have hpair:∀ i j,i<j→j<pl.length→_:=fun i j hij hj=>tF Z all (Region.before all) pl h5 i j hij hj
 unfold Dv at hpair
 simp only[Bool.and_eq_true,bne_iff_ne,ne_eq]at hpair
 refine⟨h0,by omega,fun i hi=> ?_,fun k hk=> ?_,fun k d hk hd hin=> ?_,fun j hj e he hb=> ?_,fun j i hj hi hpre=> ?_,fun i j hij hj=> ?_,fun i j hij hj=> ?_,fun i j hij hj=> ?_,fun i j d hij hj hd=> ?_,fun i j d hij hj hd hin=> ?_⟩
 ·have:=h1 i (List.mem_range.2 (by omega))
  rw[List.any_eq_true]at this
  obtain⟨q,hq,h⟩:=this
  obtain⟨k,hk,rfl⟩:=List.getElem_of_mem hq
  exact⟨k,hk,by simpa[ixP,List.getD,hk]using h⟩
 ·have:=h2 _ (hmem k hk)
  have:=of_decide_eq_true this
  rw[h0]
  exact this
 ·have:=h2' _ (hmem k hk)
  unfold opP opI ixP at hd hin
  rw[hd]at this
  simp only[Array.getD_eq_getD_getElem?,List.getD_eq_getElem?_getD]at hin this
  simp[List.contains_eq_mem,hin]at this
 ·have:=h3 j (List.mem_range.2 hj)
  rw[Array.all_eq_true']at this
  have:=this e he
  simpa[hb]using this
 ·unfold tx at h4
  rw[List.all_eq_true]at h4
  have:=h4 j (List.mem_range.2 hj)
  rw[List.all_eq_true]at this
  have:=this i (List.mem_range.2 hi)
  rw[hpre]at this
  simp only[Bool.not_true,Bool.false_or]at this
  rw[Option.any_eq_true]at this
  obtain⟨o,ho,h6⟩:=this
  rw[Array.any_eq_true']at h6
  obtain⟨e,he,h7⟩:=h6
  simp only[Bool.and_eq_true,decide_eq_true_eq,Bool.or_eq_true,beq_iff_eq]at h7
  refine⟨e,?_,h7.1.1,h7.2⟩
  have:opI all j=o:=by simp[opI,Array.getD_eq_getD_getElem?,ho]
  rw[this]
  exact he
 ·exact(hpair i j hij hj).1.1.1.1.1.1
 ·have:=(hpair i j hij hj).1.1.1.2
  have:(jR Z (opP all pl i)=true∨oS Z (opP all pl j)=true)∨kw (Region.before all) (ixP pl i) (ixP pl j)=true:=by simpa[opP,opI,ixP]using this
  exact this.elim (fun h=>h.imp id .inl) fun h=> .inr (.inr (.inl h))
 ·have:=(hpair i j hij hj).1.1.2
  simp only[Bool.or_eq_true,Bool.not_eq_true',List.contains_eq_mem,decide_eq_true_eq]at this
  unfold opP opI ixP ckP
  rcases this with((h | h) | h) | h
  ·exact .inl h
  ·exact .inr (.inl h)
  ·exact .inr (.inr (.inl (.inl h)))
  ·exact .inr (.inr (.inr h))
 ·have:=(hpair i j hij hj).1.2
  unfold opP opI ixP at hd ⊢
  rw[hd]at this
  simpa[List.contains_eq_mem]using this
 ·have:=(hpair i j hij hj).2
  unfold opP opI ixP at hd hin
  rw[hd]at this
  simp only[Array.getD_eq_getD_getElem?,List.getD_eq_getElem?_getD]at hin this
  exact .inl (by simpa[List.contains_eq_mem,hin,ixP]using this)
open Go Go.RowKit
theorem xc {l m:List Nat} (h:l.Nodup) (hs:∀ x∈l,x∈m):l.length≤m.length:=by
 induction l generalizing m with
 | nil=>simp
 | cons x l ih=>
   have hx:=hs x (by simp)
   rw[List.nodup_cons]at h
   have h2:∀ y∈l,y∈m.erase x:=fun y hy=>by
    have hy':=hs y (by simp[hy])
    refine(List.mem_erase_of_ne ?_).2 hy'
    rintro rfl
    exact h.1 hy
   have:=ih h.2 h2
   rw[List.length_erase_of_mem hx]at this
   have:0<m.length:=List.length_pos_of_mem hx
   simp only[List.length_cons]
   omega
theorem pu.len {Z:TypeId→Bool} {E:Nat→Nat→Prop} {all:Array Oper} {pl:List (Nat×List Nat)} (pp:pu all pl Z E):pl.length=all.size:=by
 have n1:((List.range pl.length).map (ixP pl)).Nodup:=by
  rw[List.Nodup,List.pairwise_map]
  refine List.Pairwise.imp_of_mem ?_ List.pairwise_lt_range
  intro a b _ hb hab
  exact pp.ne a b hab (List.mem_range.1 hb)
 have h1:=xc n1 (m:=List.range all.size) fun x hx=>by
  obtain⟨k,hk,rfl⟩:=List.mem_map.1 hx
  exact List.mem_range.2 (pp.lt k (List.mem_range.1 hk))
 have h2:=xc (l:=List.range all.size) List.nodup_range (m:=(List.range pl.length).map (ixP pl)) fun x hx=>by
  obtain⟨k,hk,e⟩:=pp.cover x (List.mem_range.1 hx)
  exact List.mem_map.2 ⟨k,List.mem_range.2 hk,e⟩
 simp at h1 h2
 omega
theorem pu.toQ {Z:TypeId→Bool} {E:Nat→Nat→Prop} {all:Array Oper} {pl:List (Nat×List Nat)} (pp:pu all pl Z E):pY all pl Z E:=by
 have hl:=pp.len
 exact⟨by omega,fun i hi=>pp.cover i (by omega),fun k hk=>by have:=pp.lt k hk;omega,pp.self,pp.edges,pp.mask,pp.ne,pp.still,pp.load,pp.dst,pp.data⟩
theorem MI {Z:TypeId→Bool} {all:Array Oper} {pl:List (Nat×List Nat)} (hp:Gs Z all pl=true):pu all pl Z fun _ _=>False:=by
 unfold Gs at hp
 simp only[Bool.and_eq_true]at hp
 obtain⟨⟨⟨⟨h1,h2⟩,h3⟩,h4⟩,h5⟩:=hp
 rw[List.all_eq_true]at h1 h2 h3
 have hmem:∀ k,k<pl.length→pl.getD k default∈pl:=fun k hk=>by
  simp only[List.getD,List.getElem?_eq_getElem hk,Option.getD_some]
  exact List.getElem_mem hk
 have hpair:∀ i j,i<j→j<pl.length→_:=fun i j hij hj=>tF Z all (Region.before all) pl h5 i j hij hj
 unfold Dv at hpair
 simp only[Bool.and_eq_true,bne_iff_ne,ne_eq]at hpair
 refine⟨fun i hi=> ?_,fun k hk=> ?_,fun k d hk hd hin=> ?_,fun j hj e he hb=> ?_,fun j i hj hi hpre=> ?_,fun i j hij hj=> ?_,fun i j hij hj=> ?_,fun i j hij hj=> ?_,fun i j d hij hj hd=> ?_,fun i j d hij hj hd hin=> ?_⟩
 ·have:=h1 i (List.mem_range.2 hi)
  rw[List.any_eq_true]at this
  obtain⟨q,hq,h⟩:=this
  obtain⟨k,hk,rfl⟩:=List.getElem_of_mem hq
  exact⟨k,hk,by simpa[ixP,List.getD,hk]using h⟩
 ·have:=h2 _ (hmem k hk)
  simp only[Bool.and_eq_true,decide_eq_true_eq]at this
  exact this.1
 ·have:=h2 _ (hmem k hk)
  simp only[Bool.and_eq_true,decide_eq_true_eq]at this
  have:=this.2
  unfold opP opI ixP at hd hin
  rw[hd]at this
  simp only[Array.getD_eq_getD_getElem?,List.getD_eq_getElem?_getD]at hin this
  simp[List.contains_eq_mem,hin]at this
 ·have:=h3 j (List.mem_range.2 hj)
  rw[Array.all_eq_true']at this
  have:=this e he
  simpa[hb]using this
 ·unfold tx at h4
  rw[List.all_eq_true]at h4
  have:=h4 j (List.mem_range.2 hj)
  rw[List.all_eq_true]at this
  have:=this i (List.mem_range.2 hi)
  rw[hpre]at this
  simp only[Bool.not_true,Bool.false_or]at this
  rw[Option.any_eq_true]at this
  obtain⟨o,ho,h6⟩:=this
  rw[Array.any_eq_true']at h6
  obtain⟨e,he,h7⟩:=h6
  simp only[Bool.and_eq_true,decide_eq_true_eq,Bool.or_eq_true,beq_iff_eq]at h7
  refine⟨e,?_,h7.1.1,h7.2⟩
  have:opI all j=o:=by simp[opI,Array.getD_eq_getD_getElem?,ho]
  rw[this]
  exact he
 ·exact(hpair i j hij hj).1.1.1.1.1.1
 ·have:=(hpair i j hij hj).1.1.1.2
  have:(jR Z (opP all pl i)=true∨oS Z (opP all pl j)=true)∨kw (Region.before all) (ixP pl i) (ixP pl j)=true:=by simpa[opP,opI,ixP]using this
  exact this.elim (fun h=>h.imp id .inl) fun h=> .inr (.inr (.inl h))
 ·have:=(hpair i j hij hj).1.1.2
  simp only[Bool.or_eq_true,Bool.not_eq_true',List.contains_eq_mem,decide_eq_true_eq]at this
  unfold opP opI ixP ckP
  rcases this with((h | h) | h) | h
  ·exact .inl h
  ·exact .inr (.inl h)
  ·exact .inr (.inr (.inl (.inl h)))
  ·exact .inr (.inr (.inr h))
 ·have:=(hpair i j hij hj).1.2
  unfold opP opI ixP at hd ⊢
  rw[hd]at this
  simpa[List.contains_eq_mem]using this
 ·have:=(hpair i j hij hj).2
  unfold opP opI ixP at hd hin
  rw[hd]at this
  simp only[Array.getD_eq_getD_getElem?,List.getD_eq_getElem?_getD]at hin this
  exact .inl (by simpa[List.contains_eq_mem,hin,ixP]using this)
open Go Go.RowKit
def Bt (τ:List AV) (o:Oper) (v:AV):Prop:=∀ d,o.dst=some d→d<τ.length→τ.getD d .junk=v
def uD (P:Program) (po:Pol) (f:FuncId) (all:Array Oper) (τ:List AV) (o:Oper) (h:AH):Prop:=
 stQ (po.mu f) o=true∧((bB all τ o=some false∧Bt τ o (.tup []))∨(bB all τ o=some true∧∃ v,be P (po.mu f) τ h o=some (v,h)∧Bt τ o v))
theorem xh {t:List AV} {d:Option Tmp} {v:AV}:(cz t d v).length=t.length:=by cases d<;>simp[cz]
theorem pH {t:List AV} {d:Option Tmp} {v:AV} {j:Nat} (h:d≠some j):(cz t d v).getD j .junk=t.getD j .junk:=by
 cases d with
 | none=>rfl
 | some d=>
   have:d≠j:=fun e=>h (by rw[e])
   simp[cz,List.getD,List.getElem?_set_ne this]
theorem vt {t:List AV} {d:Option Tmp} {v:AV} {j:Nat} (h:d=some j) (hj:j<t.length):(cz t d v).getD j .junk=v:=by
 subst h
 simp[cz,List.getD,hj]
section
variable {P:Program} {po:Pol} {f:FuncId} {all:Array Oper} {pl:List (Nat×List Nat)} {Z:TypeId→Bool} {E:Nat→Nat→Prop} {N:Nat} {ts:Nat→List AV} {hs:Nat→AH}
structure Tra (P:Program) (po:Pol) (f:FuncId) (all:Array Oper) (pl:List (Nat×List Nat)) (Z:TypeId→Bool) (E:Nat→Nat→Prop) (N:Nat) (ts:Nat→List AV) (hs:Nat→AH):Prop where
 plan:pY all pl Z E
 le:N≤pl.length
 zb:∀ ty,Z (ty+2000000)=true→po.mu f ty=false∧po.mu f (ty+1000000)=true
 step:∀ k,k<N→rq P po f all (opP all pl k,(ckP pl k).map (opI all)) (ts k) (hs k) (ts (k+1)) (hs (k+1))
theorem rq.put {q:Oper×List Oper} {t t':List AV} {h h':AH} (hs:rq P po f all q t h t' h'):∃ v,t'=cz t q.1.dst v:=by
 rcases hs with⟨_,h1,_⟩ | ⟨_,v,_,h1,_⟩
 ·exact⟨_,h1⟩
 ·exact⟨_,h1⟩
theorem Tra.len (T:Tra P po f all pl Z E N ts hs):∀ k,k≤N→(ts k).length=(ts N).length:=by
 have:∀ d k,k+d=N→(ts k).length=(ts N).length:=by
  intro d
  induction d with
  | zero=>intro k hk;rw[←hk];rfl
  | succ d ih=>
    intro k hk
    rw[←ih (k+1) (by omega)]
    obtain⟨v,hv⟩:=(T.step k (by omega)).put
    rw[hv,xh]
 exact fun k hk=>this (N - k) k (by omega)
theorem Tra.keep (T:Tra P po f all pl Z E N ts hs) (d:Nat):∀ k1 n,k1+n≤N→(∀ j,k1≤j→j<k1+n→(opP all pl j).dst≠some d)→(ts (k1+n)).getD d .junk=(ts k1).getD d .junk:=by
 intro k1 n
 induction n with
 | zero=>intro _ _;rfl
 | succ n ih=>
   intro hle hno
   rw[←ih (by omega) (fun j h1 h2=>hno j h1 (by omega))]
   obtain⟨v,hv⟩:=(T.step (k1+n) (by omega)).put
   rw[←Nat.add_assoc,hv]
   exact pH (hno (k1+n) (by omega) (by omega))
theorem pY.after (pp:pY all pl Z E) {k d:Nat} (hk:k<pl.length) (hd:d∈(opP all pl k).looksAt all) {j:Nat} (h1:k≤j) (h2:j<pl.length):(opP all pl j).dst≠some d:=by
 intro he
 rcases Nat.lt_or_ge k j with h | h
 ·exact(pp.dst k j d h h2 he).1 hd
 ·obtain rfl:k=j:=by omega
  exact pp.self k d hk he hd
theorem Tra.look (T:Tra P po f all pl Z E N ts hs) {k:Nat} (hk:k≤N) (hkl:k<pl.length) {i:Nat} (hki:k≤i) (hi:i≤N):∀ d∈(opP all pl k).looksAt all,(ts i).getD d .junk=(ts N).getD d .junk:=by
 intro d hd
 have:=T.keep d i (N - i) (by omega) (fun j h1 h2=>T.plan.after hkl hd (by omega) (by have:=T.le;omega))
 rw[show i+(N - i)=N by omega]at this
 exact this.symm
theorem Tra.res (T:Tra P po f all pl Z E N ts hs) {k:Nat} (hk:k<N) {v:AV} (hv:ts (k+1)=cz (ts k) (opP all pl k).dst v):Bt (ts N) (opP all pl k) v:=by
 intro d hd hlt
 have hl:=T.le
 have:=T.keep d (k+1) (N - (k+1)) (by omega) (fun j h1 h2 he=>(T.plan.dst k j d (by omega) (by omega) he).2 hd)
 rw[show k+1+(N - (k+1))=N by omega]at this
 rw[this,hv]
 exact vt hd (by rw[T.len k (by omega)];exact hlt)
theorem Tra.at (T:Tra P po f all pl Z E N ts hs) {k:Nat} (hk:k<N):
  (bB all (ts N) (opP all pl k)=some false∧Bt (ts N) (opP all pl k) (.tup [])∧hs (k+1)=hs k)∨
  (bB all (ts N) (opP all pl k)=some true∧∃ v,OpF P po f (ts N) (hs k) (opP all pl k) v (hs (k+1))∧Bt (ts N) (opP all pl k) v∧pQ P all (ts (k+1)) (hs (k+1)) ((ckP pl k).map (opI all))):=by
 have hl:=T.le
 have hlook:=T.look (k:=k) (by omega) (by omega) (Nat.le_refl k) (by omega)
 rcases T.step k hk with⟨h1,h2,h3⟩ | ⟨h1,v,h2,h3,h4⟩
 ·exact .inl ⟨by rw[←jr hlook];exact h1,T.res hk h2,h3⟩
 ·refine .inr ⟨by rw[←jr hlook];exact h1,v,?_,T.res hk h3,h4⟩
  rcases h2 with⟨c1,c2⟩ | ⟨g,args,fn,c1,c2⟩
  ·exact .inl ⟨by rw[←l8 hlook];exact c1,by rw[←sj (po.mu f) hlook];exact c2⟩
  ·exact .inr ⟨g,args,fn,by rw[←l8 hlook];exact c1,c2⟩
theorem Cr {t:List AV} {o:Oper} (hs:eP o=true):aT t o=none:=by
 unfold aT
 split
 ·rename_i ho
  simp[eP,ho]at hs
 ·rfl
theorem ww {mu:TypeId→Bool} {t:List AV} {o:Oper} (hs:stQ mu o=true):aT t o=none:=by
 rcases Jl hs with hs | ⟨ty,len,parts,ho,_⟩
 ·exact Cr hs
 ·simp[aT,ho]
theorem OpF.still {t:List AV} {h h':AH} {o:Oper} {v:AV} (ho:OpF P po f t h o v h') (hs:stQ (po.mu f) o=true):be P (po.mu f) t h o=some (v,h)∧h'=h:=by
 rcases ho with⟨_,h2⟩ | ⟨g,args,fn,h1,_⟩
 ·have:=QD (po.mu f) hs h2
  subst this
  exact⟨h2,rfl⟩
 ·rw[ww hs]at h1
  cases h1
theorem Tra.same (T:Tra P po f all pl Z E N ts hs) {k:Nat} (hk:k<N) (hst:stQ (po.mu f) (opP all pl k)=true):hs (k+1)=hs k:=by
 rcases T.at hk with⟨_,_,h⟩ | ⟨_,v,h,_⟩
 ·exact h
 ·exact(h.still hst).2
theorem Tra.late (T:Tra P po f all pl Z E N ts hs) {k:Nat} (hk:k<N) (hst:stQ (po.mu f) (opP all pl k)=true):uD P po f all (ts N) (opP all pl k) (hs k):=by
 refine⟨hst,?_⟩
 rcases T.at hk with⟨h1,h2,_⟩ | ⟨h1,v,h2,h3,_⟩
 ·exact .inl ⟨h1,h2⟩
 ·exact .inr ⟨h1,v,(h2.still hst).1,h3⟩
theorem Em {mu:TypeId→Bool} {t:List AV} {h:AH} {o:Oper}:∀ {l:List Oper},stQ mu o=true→pQ P all t h l→o∈l→bB all t o=some true→∃ ty a d,o.op= .load ty a∧o.dst=some d∧aR (iK P ty) (szA P ty) h (evA t a)=some (t.getD d .junk)
 | x::l,hst,hc,hm,hw=>by
   unfold pQ at hc
   rcases List.mem_cons.1 hm with rfl | hm
   ·have:=hc.1
    rw[hw]at this
    simp only at this
    split at this
    ·rename_i ty a d h1 h2
     exact⟨ty,a,d,h1,h2,this⟩
    ·rename_i h1 _
     simp[stQ,eP,h1]at hst
    ·exact this.elim
   ·exact Em hst hc.2 hm hw
theorem Tra.turn (T:Tra P po f all pl Z E N ts hs) {i k:Nat} (hik:i<k) (hk:k<N) (hp:¬ xo all E (ixP pl i) (ixP pl k)) (hl:uD P po f all (ts N) (opP all pl i) (hs k)):uD P po f all (ts N) (opP all pl i) (hs (k+1)):=by
 have hle:=T.le
 by_cases hst:stQ (po.mu f) (opP all pl k)=true
 ·rw[T.same hk hst];exact hl
 obtain⟨l1,l2⟩:=hl
 refine⟨l1,?_⟩
 rcases l2 with l2 | ⟨l2,v,l3,l4⟩
 ·exact .inl l2
 refine .inr ⟨l2,?_⟩
 rcases T.plan.load i k hik (by omega)with h | h | h | h
 ·exact absurd (uc T.zb h) hst
 ·exact⟨v,UR (po.mu f) l1 h l3 _,l4⟩
 ·exact absurd h hp
 ·rcases T.at hk with⟨_,_,h3⟩ | ⟨_,v',_,_,hck⟩
  ·rw[h3];exact⟨v,l3,l4⟩
  ·have hlook:=T.look (k:=i) (i:=k+1) (by omega) (by omega) (by omega) (by omega)
   obtain⟨ty,a,d,e1,e2,e3⟩:=Em l1 hck (o:=opP all pl i) (List.mem_map.2 ⟨_,h,rfl⟩) (by rw[jr hlook];exact l2)
   have hda:evA (ts (k+1)) a=evA (ts N) a:=se hlook a (by simp[e1,Op.operands])
   have hdd:(ts (k+1)).getD d .junk=(ts N).getD d .junk:=by
    have:=T.keep d (k+1) (N - (k+1)) (by omega) (fun j h1 h2 he=>(T.plan.dst i j d (by omega) (by omega) he).2 e2)
    rw[show k+1+(N - (k+1))=N by omega]at this
    exact this.symm
   refine⟨(ts N).getD d .junk,?_,fun d' hd' _=> ?_⟩
   ·unfold be at l3 ⊢
    simp only[e1]at l3 ⊢
    split at l3
    ·cases l3
    ·rename_i hn
     rw[if_neg hn,←hda,e3,hdd]
     rfl
   ·rw[e2]at hd'
    injection hd' with hd'
    rw[hd']
end
open Go Go.RowKit
section
variable {P:Program} {po:Pol} {f:FuncId} {all:Array Oper} {pl:List (Nat×List Nat)} {Z:TypeId→Bool} {E:Nat→Nat→Prop} {N:Nat} {ts:Nat→List AV} {hs:Nat→AH}
 {m m':Mm} {h h':AH} {w w':World} {t τ:List AV} {a:Act} {b:Frame} {cs:List Frame} {K:List Item} {r:AEx×List AV×AH}
def iJ (all:Array Oper) (pl:List (Nat×List Nat)) (li:Array Bool) (p:Nat) (d:Nat):Prop:=∀ k,k<pl.length→(opP all pl k).dst=some d→li.getD (ixP pl k) false=true∧k<p
open Classical in
noncomputable def pr (all:Array Oper) (pl:List (Nat×List Nat)) (li:Array Bool) (p:Nat) (τ:List AV):List AV:=(List.range τ.length).map fun d=>if iJ all pl li p d then τ.getD d .junk else .junk
theorem cr {li:Array Bool} {p:Nat}:(pr all pl li p τ).length=τ.length:=by simp[pr]
theorem fF {li:Array Bool} {p d:Nat} (hr:iJ all pl li p d):(pr all pl li p τ).getD d .junk=τ.getD d .junk:=by
 by_cases hd:d<τ.length
 ·simp[pr,List.getD,hd,hr]
 ·simp[pr,List.getD,hd]
theorem mG {li:Array Bool} {p d:Nat} (hr:¬ iJ all pl li p d):(pr all pl li p τ).getD d .junk= .junk:=by
 by_cases hd:d<τ.length
 ·simp[pr,List.getD,hd,hr]
 ·simp[pr,List.getD,hd]
theorem UV {li li':Array Bool} {p p':Nat} (h:∀ d,iJ all pl li p d↔iJ all pl li' p' d):pr all pl li p τ=pr all pl li' p' τ:=by
 unfold pr
 congr 1
 funext d
 by_cases hr:iJ all pl li p d
 ·rw[if_pos hr,if_pos ((h d).1 hr)]
 ·rw[if_neg hr,if_neg fun x=>hr ((h d).2 x)]
theorem TR.of {m':Mm} {h':AH} {t':List AV} {aS:Array Value} (hl:aS.size=t'.length) (hv:∀ d,d<t'.length→VR P m' h' (t'.getD d .junk) (aS.getD d undef)):TR P m' h' t' aS:=by
 refine⟨hl,fun i hi=> ?_⟩
 have:=hv i hi
 simpa[List.getD,hi]using this
theorem TR.slot {m':Mm} {h':AH} {t':List AV} {aS:Array Value} (ht:TR P m' h' t' aS) {d:Nat} (hd:d<t'.length):VR P m' h' (t'.getD d .junk) (aS.getD d undef):=by
 have:=ht.2 d hd
 simpa[List.getD,hd]using this
theorem Act.put_ne {a:Act} {d:Option Tmp} {u:Value} {j:Nat} (h:d≠some j):(a.put d u).tmps.getD j undef=a.tmps.getD j undef:=by
 cases d with
 | none=>rfl
 | some d=>
   have:d≠j:=fun e=>h (by rw[e])
   simp[Act.put,Array.getD_eq_getD_getElem?,Array.getElem?_setIfInBounds_ne this]
theorem bZ {li:Array Bool} {i j:Nat} (hi:i<li.size):(li.setIfInBounds i true).getD j false=if j=i then true else li.getD j false:=by
 by_cases hj:j=i
 ·subst hj
  simp[Array.getD_eq_getD_getElem?,hi]
 ·simp[Array.getD_eq_getD_getElem?,hj,Array.getElem?_setIfInBounds_ne (Ne.symm hj)]
theorem Vr (pp:pY all pl Z E) {li:Array Bool} {p p' k:Nat} (hk:k<pl.length) (hli:ixP pl k<li.size) (hpp:p≤p') (hno:∀ j,p≤j→j<p'→j≠k→li.getD (ixP pl j) false=false) (x:Ext m h m' h') (ht:TR P m h (pr all pl li p τ) a.tmps)
  {v:AV} {u:Value} (hv:VR P m' h' v u) (hres:Bt τ (opP all pl k) v):
  TR P m' h' (pr all pl (li.setIfInBounds (ixP pl k) true) p' τ) (a.put (opP all pl k).dst u).tmps:=by
 have h1:=(ht.ext x).put (a:=a) hv (opP all pl k).dst
 have hlen:(a.put (opP all pl k).dst u).tmps.size=τ.length:=by rw[h1.1,xh,cr]
 refine TR.of (by rw[hlen,cr]) fun d hd=> ?_
 have hd':d<τ.length:=by rw[cr]at hd;exact hd
 have h2:=h1.slot (d:=d) (by rw[xh,cr];exact hd')
 by_cases hr:iJ all pl (li.setIfInBounds (ixP pl k) true) p' d
 ·rw[fF hr]
  by_cases he:(opP all pl k).dst=some d
  ·rw[vt he (by rw[cr];exact hd')]at h2
   rw[hres d he hd']
   exact h2
  ·rw[pH he,fF (fun j hj hdj=> ?_)]at h2
   ·exact h2
   ·obtain⟨r1,r2⟩:=hr j hj hdj
    rw[bZ hli]at r1
    have hjk:j≠k:=fun e=>he (by rw[←e];exact hdj)
    have hne:ixP pl j≠ixP pl k:=by
     intro e
     rcases Nat.lt_trichotomy j k with h | h | h
     ·exact pp.ne j k h hk e
     ·exact hjk h
     ·exact pp.ne k j h hj e.symm
    rw[if_neg hne]at r1
    refine⟨r1,?_⟩
    rcases Nat.lt_or_ge j p with h | h
    ·exact h
    ·rw[hno j h r2 hjk]at r1
     cases r1
 ·rw[mG hr]
  exact .junk _
theorem qn (pp:pY all pl Z E) {li:Array Bool} (hcl:∀ j,j<pl.length→li.getD j false=true→∀ e∈(opI all j).after,Region.binds .any e=true→li.getD e.on false=true):
  ∀ j,j<pl.length→(∀ e∈(opI all j).after,Region.binds .any e=true→li.getD e.on false=true)→∀ i,i<pl.length→kw (Region.before all) i j=true→li.getD i false=true:=by
 intro j
 induction j using Nat.strongRecOn with
 | ind j ih=>
   intro hj he i hi hp
   obtain⟨e,e1,e2,e3⟩:=pp.mask j i (by have:=pp.size;omega) (by have:=pp.size;omega) hp
   have hlt:=pp.edges j (by have:=pp.size;omega) e e1 e2
   rcases e3 with e3 | e3
   ·rw[←e3];exact he e e1 e2
   ·exact ih e.on hlt (by omega) (hcl e.on (by omega) (he e e1 e2)) i hi e3
theorem jw {i:Nat} (hi:i<all.size):all[i]? =some (opI all i):=by
 simp[opI,hi]
theorem Act.put_defers' (a:Act) (x:Option Tmp) (v:Value):(a.put x v).defers=a.defers:=by cases x<;>rfl
theorem Sz (pp:pY all pl Z E) {li:Array Bool} {p k:Nat} (hk:k<pl.length) (hkp:k≤p) (hpre:∀ j,j<pl.length→xo all E (ixP pl j) (ixP pl k)→li.getD (ixP pl j) false=true):
  ∀ d∈(opP all pl k).looksAt all,(pr all pl li p τ).getD d .junk=τ.getD d .junk:=by
 intro d hd
 refine fF fun j hj hdj=> ?_
 rcases Nat.lt_or_ge j k with h | h
 ·exact⟨hpre j hj (pp.data j k d h hk hdj hd),by omega⟩
 ·exact absurd hdj (pp.after hk hd h hj)
def Mm.jkd (m:Mm) (J:Nat→Option Obj):Mm:={m with jk:=J}
theorem VR.jkd {J:Nat→Option Obj} {v:AV} {u:Value} (r:VR P m h v u):VR P (m.jkd J) h v u:=by
 induction r with
 | junk v=>exact .junk v
 | bool b=>exact .bool b
 | int k n=>exact .int k n
 | str l=>exact .str l
 | nilp=>exact .nilp
 | ptr b i off hb=>exact VR.ptr (m:=m.jkd J) b i off hb
 | tptr t b hb ht=>exact VR.tptr (m:=m.jkd J) t b hb ht
 | ip e off g o F hi hv ih=>exact VR.ip (m:=m.jkd J) e off g o F hi ih
 | nils=>exact .nils
 | isl id e es g o cap F hl hi hv hc ht ih=>exact VR.isl (m:=m.jkd J) id e es g o cap F hl hi ih hc ht
 | isl0 e a cap=>exact .isl0 e a cap
 | msl b o n e cap hb he hcap hn hmx=>exact VR.msl (m:=m.jkd J) b o n e cap hb he hcap hn hmx
 | fn g l c l' c' h1 h2 h3 h4 ih1 ih2=>exact .fn g l c l' c' h1 h2 ih1 ih2
 | nilf=>exact .nilf
 | nili=>exact .nili
 | iface t v v' h1 ih=>exact .iface t v v' ih
 | agg l l' h1 h3 ih=>exact .agg l l' h1 ih
 | tup l l' h1 h3 ih=>exact .tup l l' h1 ih
theorem TR.jkd {J:Nat→Option Obj} {tm:Array Value} (r:TR P m h t tm):TR P (m.jkd J) h t tm:=⟨r.1,fun i hi=>(r.2 i hi).jkd⟩
theorem Ext.jkd (x:Ext m h m' h') (J:Nat→Option Obj):Ext (m.jkd J) h (m'.jkd J) h':=⟨x.base,x.n,x.ids,x.blk,x.imm,x.te,fun _ _ h=>h⟩
theorem VR.by {J:Nat→Option Obj} (x:Ext (m.jkd J) h (m'.jkd J) h') {v:AV} {u:Value} (r:VR P m h v u):VR P m' h' v u:=((r.jkd (J:=J)).ext x).jkd (J:=m'.jk)
theorem WR.jkd (hw:WR P m h w) {J:Nat→Option Obj} (hJ:∀ g x,J g=some x→m.jk g=some x):WR P (m.jkd J) h w where
 size:=hw.size
 lt:=hw.lt
 live:=fun b es hb=>by
  obtain⟨cs,h1,h2,h3,h4,h5⟩:=hw.live b es hb
  exact⟨cs,h1,h2,h3,h4,fun i hi j hj=>by
   obtain⟨v,a,b⟩:=h5 i hi j hj
   exact⟨v,a,b.jkd⟩⟩
 inj:=hw.inj
 imm:=hw.imm
 sep:=hw.sep
 tip:=hw.tip
 tfree:=hw.tfree
 tblk:=hw.tblk
 tinj:=hw.tinj
 good:=hw.good
 jk:=fun g x hx=>hw.jk g x (hJ g x hx)
theorem WR.junk (hw:WR P m h w) (o:Obj):WR P (m.jkd fun g=>if g=w.heap.size then some o else m.jk g) h (w.alloc o):=by
 have hw1:=hw.new ((eN.refl _ w).alloc o)
 refine{hw1 with live:=fun b es hb=> ?_,jk:=fun g x hx=> ?_}
 ·obtain⟨cs,h1,h2,h3,h4,h5⟩:=hw1.live b es hb
  exact⟨cs,h1,h2,h3,h4,fun i hi j hj=>by
   obtain⟨v,a,b⟩:=h5 i hi j hj
   exact⟨v,a,b.jkd⟩⟩
 ·have hx:(if g=w.heap.size then some o else m.jk g)=some x:=hx
  by_cases e:g=w.heap.size
  ·rw[if_pos e]at hx
   injection hx with hx
   subst hx;subst e
   refine⟨hw.size,(by show(w.heap.push o)[w.heap.size]? =some o;simp),fun b es hb e=> ?_,fun k hk e=> ?_,fun o'=> ?_⟩
   ·have:=hw.below hb
    have e:m.blk b=w.heap.size:=e
    omega
   ·have:=(hw.tip_lt hk).2
    have e:m.tg k=w.heap.size:=e
    omega
   ·show m.imm w.heap.size o'=none
    rcases hi:m.imm w.heap.size o' with _ | v
    ·rfl
    ·have:=hw.imm_lt hi
     omega
  ·rw[if_neg e]at hx
   exact hw1.jk g x hx
theorem WR.adopt (hw:WR P m h w) {z:Nat} {e:TypeId} {zl:List AV} {u:Array Value} (hz:m.jk z=some (.cells u e)) (hu:u.size=zl.length) (hl:zl.length=P.cellsOf e) (hr:VRs P m h zl u.toList):
  ∃ m',(∀ J,Ext (m.jkd J) h (m'.jkd J) (h.push [zl]))∧WR P m' (h.push [zl]) w∧m'.blk h.n=z∧m'.bt h.n=e∧m'.jk=fun g=>if g=z then none else m.jk g:=by
 obtain⟨z1,z2,z3,z4,z5⟩:=hw.jk z _ hz
 refine⟨{m with blk:=fun b=>if b=h.n then z else m.blk b,bt:=fun b=>if b=h.n then e else m.bt b,bsz:=fun b=>if b=h.n then u.size else m.bsz b,jk:=fun g=>if g=z then none else m.jk g},?_,?_,by simp,by simp,rfl⟩
 ·exact fun J=>⟨rfl,by simp[AH.push],by simp[AH.push],fun b hb=>by simp[Mm.jkd,show b≠h.n by omega],fun _ _ _ h=>h,fun k hk=>⟨rfl,Nat.le_refl _,fun _=>⟨rfl,rfl⟩⟩,fun _ _ h=>h⟩
 ·have hx:∀ J,Ext (m.jkd J) h (Mm.jkd {m with blk:=fun b=>if b=h.n then z else m.blk b,bt:=fun b=>if b=h.n then e else m.bt b,bsz:=fun b=>if b=h.n then u.size else m.bsz b,jk:=fun g=>if g=z then none else m.jk g} J) (h.push [zl]):=
   fun J=>⟨rfl,by simp[AH.push],by simp[AH.push],fun b hb=>by simp[Mm.jkd,show b≠h.n by omega],fun _ _ _ h=>h,fun k hk=>⟨rfl,Nat.le_refl _,fun _=>⟨rfl,rfl⟩⟩,fun _ _ h=>h⟩
  have old:∀ b x,(h.push [zl]).cell b=some x→b≠h.n→h.cell b=some x:=by
   intro b x hb hne
   simpa[AH.push,hne]using hb
  have new:∀ b x,(h.push [zl]).cell b=some x→b=h.n→x=[zl]:=by
   intro b x hb he
   subst he
   simp[AH.push]at hb
   exact hb.symm
  refine⟨hw.size,fun b x hb=> ?_,fun b x hb=> ?_,fun b b' x x' hb hb' he=> ?_,hw.imm,fun b x hb o=> ?_,hw.tip,hw.tfree,fun k hk b x hb=> ?_,hw.tinj,hw.good,fun g x hj=> ?_⟩
  ·by_cases hbn:b=h.n
   ·subst hbn
    exact⟨by simp[AH.push],by simpa using z1⟩
   ·have:=hw.lt b x (old b x hb hbn)
    exact⟨by simp[AH.push];omega,by simpa[hbn]using this.2⟩
  ·by_cases hbn:b=h.n
   ·subst hbn
    have:=new _ _ hb rfl
    subst this
    refine⟨u,by simpa[Blk]using z2,by simp,by simpa using hl,by simp;omega,fun i hi j hj=> ?_⟩
    have hi0:i=0:=by simpa using hi
    subst hi0
    have hj':j<zl.length:=by simpa using hj
    refine⟨u[j]'(by omega),by simp,?_⟩
    have:=hr.2 j hj' (by simp;omega)
    exact VR.by (hx fun _=>none) (by simpa using this)
   ·obtain⟨cs',h1,h2,h3,h4,h5⟩:=hw.live b x (old b x hb hbn)
    refine⟨cs',by simpa[hbn]using h1,by simpa[hbn]using h2,by simpa[hbn]using h3,by simpa[hbn]using h4,fun i hi j hj=> ?_⟩
    obtain⟨v,h6,h7⟩:=h5 i hi j hj
    exact⟨v,by simpa[hbn]using h6,VR.by (hx fun _=>none) h7⟩
  ·by_cases h1:b=h.n<;>by_cases h2:b'=h.n
   ·omega
   ·simp[h1,h2]at he
    exact absurd he.symm (z3 _ _ (old _ _ hb' h2))
   ·simp[h1,h2]at he
    exact absurd he (z3 _ _ (old _ _ hb h1))
   ·simp[h1,h2]at he
    exact hw.inj b b' x x' (old _ _ hb h1) (old _ _ hb' h2) he
  ·by_cases h1:b=h.n
   ·simp only[h1,if_true]
    exact z5 o
   ·simp only[h1,if_false]
    exact hw.sep b x (old _ _ hb h1) o
  ·by_cases h1:b=h.n
   ·simp only[h1,if_true]
    exact fun e=>z4 k hk e.symm
   ·simp only[h1,if_false]
    exact hw.tblk k hk b x (old _ _ hb h1)
  ·have hj:(if g=z then none else m.jk g)=some x:=hj
   by_cases e1:g=z
   ·rw[if_pos e1]at hj
    cases hj
   ·rw[if_neg e1]at hj
    obtain⟨a1,a2,a3,a4,a5⟩:=hw.jk g x hj
    refine⟨a1,a2,fun b y hb=> ?_,a4,a5⟩
    by_cases h1:b=h.n
    ·simp only[h1,if_true]
     exact fun e=>e1 e.symm
    ·simp only[h1,if_false]
     exact a3 b y (old _ _ hb h1)
def Ys (P:Program) (all:Array Oper) (pl:List (Nat×List Nat)) (J0:Nat→Option Obj) (a:Act) (m:Mm) (z k:Nat):Prop:=
 ∃ e d zl u,(opP all pl k).op= .alloc e∧(opP all pl k).guard=none∧(opP all pl k).dst=some d∧eH P e=some zl∧u.size=zl.length∧zl.length=P.cellsOf e∧(∀ m h,VRs P m h zl u.toList)∧J0 z=none∧m.jk z=some (.cells u e)∧
   (d<a.tmps.size→a.tmps.getD d undef= .pointer (some ⟨z,0,none⟩))
theorem qz {Z:TypeId→Bool} {o:Oper} (hn:oS Z o=true):∃ e d,o.op= .alloc e∧o.guard=none∧o.dst=some d∧Z e=true∧e<2000000:=by
 unfold oS at hn
 split at hn
 ·rename_i e d h1 h2 h3
  rw[Bool.and_eq_true,decide_eq_true_eq]at hn
  exact⟨e,d,h1,h2,h3,hn⟩
 ·cases hn
theorem LP {Z:TypeId→Bool} {mu:TypeId→Bool} {o:Oper} (hn:oS Z o=true):stQ mu o=false:=by
 obtain⟨e,d,h1,_⟩:=qz hn
 simp[stQ,eP,h1]
theorem MY (hT:pO P) (o:Oper) (e:TypeId) (ho:o.op= .alloc e) {z:List AV} (hz:eH P e=some z) (a:Act) (w:World):
  ∃ u:Array Value,(execOp a.eval o).run P w= .ok (.value (.pointer (some ⟨w.heap.size,0,none⟩))) (w.alloc (.cells u e))∧u.size=z.length∧z.length=P.cellsOf e∧∀ m h,VRs P m h z u.toList:=by
 obtain⟨i,v,hi,hv,hl,hs,hr,hrun⟩:=eZ (m:=⟨0,fun _=>0,fun _=>0,fun _=>0,fun _ _=>none,fun _=>0,fun _=>0,fun _=>0,fun _=>none⟩) (h:=⟨0,fun _=>none,0,fun _=>0⟩) (w:=w) hT hz
 refine⟨v.cells,by simp[execOp,ho,Instr.alloc,hrun,newVar,newRow],by omega,hl,fun m h=> ?_⟩
 obtain⟨i2,v2,hi2,hv2,_,_,hr2,_⟩:=eZ (m:=m) (h:=h) (w:=w) hT hz
 rw[hi]at hi2
 injection hi2 with hi2
 subst hi2
 rw[hv]at hv2
 injection hv2 with hv2
 rw[hv2]
 exact hr2
inductive IH (n:Nat) (all:Array Oper) (E:Nat→Nat→Prop):Array Bool→List Nat→Prop
 | nil (li:Array Bool):(∀ i,i<n→li.getD i false=true)→IH n all E li []
 | cons (li:Array Bool) (i:Nat) (L:List Nat):i<n→li.getD i false=false→(∀ e∈(opI all i).after,Region.binds .any e=true→li.getD e.on false=true)→(∀ j,E j i→li.getD j false=true)→
   IH n all E (li.setIfInBounds i true) L→IH n all E li (i::L)
abbrev kG (all:Array Oper) (E:Nat→Nat→Prop):Array Bool→List Nat→Prop:=IH all.size all E
theorem C3 (hedge:∀ j,j<all.size→∀ e∈(opI all j).after,Region.binds .any e=true→e.on<j):∀ (fuel u:Nat) (li:Array Bool),li.size=all.size→li.toList.countP (fun x=> !x)≤fuel→
  kG all (fun _ _=>False) li (Region.linearise.go .any all fuel u li []):=by
 intro fuel
 induction fuel with
 | zero=>
   intro u li hsz hf
   simp only[Region.linearise.go,List.reverse_nil]
   refine .nil _ fun i hi=> ?_
   have:=List.countP_eq_zero.1 (Nat.le_zero.1 hf) (li[i]'(by omega)) (by simp)
   have hil:i<li.size:=by omega
   simpa[Array.getD_eq_getD_getElem?,hil]using this
 | succ fuel ih=>
   intro u li hsz hf
   simp only[Region.linearise.go]
   change kG all _ li (match(Region.ready .any all li)[u % (Region.ready .any all li).length]? with
    | some i=>Region.linearise.go .any all fuel (u / (Region.ready .any all li).length) (li.setIfInBounds i true) [i]
    | none=>[].reverse)
   cases hi:(Region.ready .any all li)[u % (Region.ready .any all li).length]? with
   | none=>
     have hnil:Region.ready .any all li=[]:=by
      cases hr:Region.ready .any all li with
      | nil=>rfl
      | cons x xs=>
        rw[hr]at hi
        have hlt:u % (x::xs).length<(x::xs).length:=Nat.mod_lt _ (by simp)
        simp at hi
        simp at hlt
        omega
     simp only[List.reverse_nil]
     refine .nil _ ?_
     intro i
     induction i using Nat.strongRecOn with
     | ind i ihi=>
       intro hi'
       rcases hx:li.getD i false with _ | _
       ·have hin:i∈Region.ready .any all li:=by
         rw[mem_ready]
         have hil:i<li.size:=by omega
         exact⟨by simpa[Array.getD_eq_getD_getElem?,hil]using hx,opI all i,jw hi',fun e he hb=>ihi e.on (hedge i hi' e he hb) (by have:=hedge i hi' e he hb;omega)⟩
        rw[hnil]at hin
        cases hin
       ·rfl
   | some i=>
     simp only[]
     rw[linearise_go_acc,List.reverse_singleton,List.singleton_append]
     have hin:=List.mem_of_getElem? hi
     rw[mem_ready]at hin
     obtain⟨hnl,o,ho,hed⟩:=hin
     have hi':i<all.size:=(Array.getElem?_eq_some_iff.1 ho).1
     have ho':opI all i=o:=by simp[opI,Array.getD_eq_getD_getElem?,ho]
     have hil:i<li.size:=by omega
     have hnf:li.getD i false=false:=by simpa[Array.getD_eq_getD_getElem?,hil]using hnl
     refine .cons _ _ _ hi' hnf (by rw[ho'];exact hed) (fun _ h=>h.elim) (ih _ _ (by simpa using hsz) ?_)
     have hz:(li.toList)[i]'(by simpa using hil)=false:=by
      simpa[Array.getD_eq_getD_getElem?,hil]using hnf
     have:=List.countP_set (p:=fun x=> !x) (l:=li.toList) (i:=i) (a:=true) (by simpa using hil)
     simp only[hz,Bool.not_false,Bool.not_true,if_true,Bool.false_eq_true,if_false,Nat.add_zero]at this
     simp only[Array.toList_setIfInBounds]
     omega
structure FF (P:Program) (po:Pol) (f:FuncId) (all:Array Oper) (pl:List (Nat×List Nat)) (Z:TypeId→Bool) (E:Nat→Nat→Prop) (N:Nat) (ts:Nat→List AV) (hs:Nat→AH) (b:Frame) (J0:Nat→Option Obj) (li:Array Bool) (p:Nat) (ζ:Nat→Nat) (m:Mm) (a:Act) (w:World):Prop where
 le:p≤N
 sz:li.size=all.size
 cl:∀ j,j<pl.length→li.getD j false=true→∀ e∈(opI all j).after,Region.binds .any e=true→li.getD e.on false=true
 clE:∀ j,j<pl.length→li.getD j false=true→∀ i,E i j→li.getD i false=true
 l1:∀ k,k<pl.length→li.getD (ixP pl k) false=true→k<p∨oS Z (opP all pl k)=true
 l2:∀ k,k<p→li.getD (ixP pl k) false=false→uD P po f all (ts N) (opP all pl k) (hs p)
 l3:∀ k,p≤k→k<pl.length→li.getD (ixP pl k) false=true→Ys P all pl J0 a m (ζ k) k
 inj:∀ k k',p≤k→p≤k'→k<pl.length→k'<pl.length→li.getD (ixP pl k) false=true→li.getD (ixP pl k') false=true→ζ k=ζ k'→k=k'
 w:WR P m (hs p) w
 t:TR P m (hs p) (pr all pl li p (ts N)) a.tmps
 d:a.defers=b.defers
 j:∀ g x,J0 g=some x→m.jk g=some x
theorem FF.pre {J0:Nat→Option Obj} {li:Array Bool} {p:Nat} {ζ:Nat→Nat} (T:Tra P po f all pl Z E N ts hs) (I:FF P po f all pl Z E N ts hs b J0 li p ζ m a w) {i j:Nat} (hi:i<pl.length) (hj:j<pl.length) (hl:li.getD (ixP pl j) false=true) (hp:xo all E (ixP pl i) (ixP pl j)):li.getD (ixP pl i) false=true:=
 hp.elim (qn T.plan I.cl _ (T.plan.lt j hj) (I.cl _ (T.plan.lt j hj) hl) _ (T.plan.lt i hi)) (I.clE _ (T.plan.lt j hj) hl _)
theorem FF.adv {J0:Nat→Option Obj} {li:Array Bool} {p:Nat} {ζ:Nat→Nat} (T:Tra P po f all pl Z E N ts hs) (I:FF P po f all pl Z E N ts hs b J0 li p ζ m a w):
  ∀ n,p+n≤N→(∀ j,p≤j→j<p+n→li.getD (ixP pl j) false=false→stQ (po.mu f) (opP all pl j)=true)→∃ m1,Ext (m.jkd J0) (hs p) (m1.jkd J0) (hs (p+n))∧FF P po f all pl Z E N ts hs b J0 li (p+n) ζ m1 a w:=by
 intro n
 induction n with
 | zero=>exact fun _ _=>⟨m,Ext.refl _ _,I⟩
 | succ n ih=>
   intro hle hst
   obtain⟨m1,x1,I1⟩:=ih (by omega) fun j h1 h2=>hst j h1 (by omega)
   have hle':=T.le
   have hq:p+n<N:=by omega
   rcases hx:li.getD (ixP pl (p+n)) false with _ | _
   ·have hs1:=hst (p+n) (by omega) (by omega) hx
    have hsame:=T.same hq hs1
    rw[←Nat.add_assoc,hsame]
    refine⟨m1,x1,⟨by omega,I1.sz,I1.cl,I1.clE,fun k hk hl=>(I1.l1 k hk hl).imp (fun h=>by omega) id,fun k hk hn=> ?_,fun k hk=>I1.l3 k (by omega),fun k k' hk hk'=>I1.inj k k' (by omega) (by omega),by rw[hsame];exact I1.w,?_,I1.d,I1.j⟩⟩
    ·rw[hsame]
     rcases Nat.lt_or_ge k (p+n)with h | h
     ·exact I1.l2 k h hn
     ·obtain rfl:k=p+n:=by omega
      exact T.late hq hs1
    ·rw[hsame,UV (li':=li) (p':=p+n) fun d=>⟨fun hr k hk hd=> ?_,fun hr k hk hd=>⟨(hr k hk hd).1,by have:=(hr k hk hd).2;omega⟩⟩]
     ·exact I1.t
     ·obtain⟨r1,r2⟩:=hr k hk hd
      refine⟨r1,?_⟩
      have:k≠p+n:=fun e=>by rw[e,hx]at r1;cases r1
      omega
   ·obtain⟨e,d,zl,u,o1,o2,o3,o4,o5,o6,o7,o8,o9,o10⟩:=I1.l3 (p+n) (Nat.le_refl _) (by omega) hx
    rcases T.at hq with⟨a1,_⟩ | ⟨_,v,a2,a3,_⟩
    ·simp[bB,o2]at a1
    rcases a2 with⟨_,a2⟩ | ⟨g,args,fn,c1,_⟩
    ·unfold be at a2
     rw[o1]at a2
     simp only[o4,Option.map_some,Option.some.injEq,Prod.mk.injEq]at a2
     obtain⟨v1,v2⟩:=a2
     obtain⟨m2,y1,y2,y3,y4,y5⟩:=I1.w.adopt o9 o5 o6 (o7 m1 _)
     rw[v2]at y1 y2
     have hnn:(hs (p+n)).n<(hs (p+n+1)).n:=by rw[←v2];simp[AH.push]
     rw[←Nat.add_assoc]
     refine⟨m2,x1.trans (y1 J0),⟨by omega,I1.sz,I1.cl,I1.clE,fun k hk hl=>(I1.l1 k hk hl).imp (fun h=>by omega) id,fun k hk hn=> ?_,fun k hk hkl hl=> ?_,fun k k' hk hk'=>I1.inj k k' (by omega) (by omega),y2,?_,I1.d,fun g x hg=> ?_⟩⟩
     ·have hkq:k≠p+n:=fun e=>by rw[e,hx]at hn;cases hn
      exact T.turn (by omega) hq (fun hp=>by
       have:=I1.pre T (by omega) (by omega) hx hp
       rw[hn]at this
       cases this) (I1.l2 k (by omega) hn)
     ·obtain⟨e',d',zl',u',p1,p2,p3,p4,p5,p6,p7,p8,p9,p10⟩:=I1.l3 k (by omega) hkl hl
      refine⟨e',d',zl',u',p1,p2,p3,p4,p5,p6,p7,p8,?_,p10⟩
      rw[y5]
      simp only
      rw[if_neg fun e=>by
       have:=I1.inj k (p+n) (by omega) (Nat.le_refl _) hkl (by omega) hl hx e
       omega]
      exact p9
     ·refine TR.of (by rw[I1.t.1,cr,cr]) fun q hq'=> ?_
      have hql:q<(ts N).length:=by rw[cr]at hq';exact hq'
      by_cases hr:iJ all pl li (p+n+1) q
      ·rw[fF hr]
       by_cases hqd:q=d
       ·subst hqd
        rw[a3 q o3 hql,o10 (by rw[I1.t.1,cr];exact hql),←v1]
        split
        ·have:=VR.tptr (P:=P) (m:=m2) (h:=hs (p+n+1)) e (hs (p+n)).n hnn y4
         rwa [y3]at this
        ·have:=VR.ptr (P:=P) (m:=m2) (h:=hs (p+n+1)) (hs (p+n)).n 0 0 hnn
         rw[y3]at this
         simpa using this
       ·have hr1:iJ all pl li (p+n) q:=fun k hk hd=>by
         obtain⟨r1,r2⟩:=hr k hk hd
         refine⟨r1,?_⟩
         have:k≠p+n:=fun e=>by
          rw[e,o3]at hd
          injection hd with hd
          exact hqd hd.symm
         omega
        have:=I1.t.slot (d:=q) (by rw[cr];exact hql)
        rw[fF hr1]at this
        exact VR.by (y1 J0) this
      ·rw[mG hr]
       exact .junk _
     ·rw[y5]
      simp only
      rw[if_neg fun e=>by rw[e,o8]at hg;cases hg]
      exact I1.j g x hg
    ·simp[aT,o1]at c1
theorem E4 {o:Oper} {t:List AV} {h h':AH} {v:AV} (hn:oS Z o=true) (hs:ug P all o t h v h'):False:=by
 obtain⟨e,d,h1,_⟩:=qz hn
 obtain⟨_,⟨h2,_⟩ | ⟨g,args,fn,h2,_⟩⟩:=hs
 ·simp[mz,h1]at h2
 ·simp[aT,h1]at h2
theorem zJ {S:Nat→Bool} {J0:Nat→Option Obj} {Y:List Nat} (hS:∀ d,S d=true→∀ k,k<pl.length→(opP all pl k).dst≠some d) (pok:POK P po) (hZ:∀ e,e<2000000→Z e=true→(eH P e).isSome=true) (T:Tra P po f all pl Z E N ts hs)
  (hall:N=pl.length∨∃ v h',N<pl.length∧ug P all (opP all pl N) (ts N) (hs N) v h'∧r=(.panic v,ts N,h'))
  (hdone:N=pl.length→∀ m1 w1 a1,WR P m1 (hs N) w1→TR P m1 (hs N) (ts N) a1.tmps→a1.defers=b.defers→bV P S m1 (hs N) w1 b cs (lone (b.at a1 (.inRegion all Y::K)) cs w1) r):
  ∀ (L:List Nat) (li:Array Bool) (p:Nat) (ζ:Nat→Nat) (m:Mm) (a:Act) (w:World),IH pl.length all E li L→FF P po f all pl Z E N ts hs b J0 li p ζ m a w→
    bV P S (m.jkd J0) (hs p) w b cs (lone (b.at a (.inRegion all (L++Y)::K)) cs w) r:=by
 have pp:=T.plan
 have hle:=T.le
 intro L
 induction L with
 | nil=>
   intro li p ζ m a w hord I
   have hall':∀ i,i<pl.length→li.getD i false=true:=by
    cases hord with
    | nil _ h=>exact h
   have hN:N=pl.length:=by
    rcases hall with h | ⟨v,h',h3,h4,_⟩
    ·exact h
    ·rcases I.l1 N h3 (hall' _ (pp.lt N h3))with h | h
     ·have:=I.le;omega
     ·exact(E4 h h4).elim
   have hp:=I.le
   obtain⟨m1,x1,I1⟩:=I.adv T (N - p) (by omega) fun j h1 h2 hn=>by
    rw[hall' _ (pp.lt j (by omega))]at hn
    cases hn
   rw[show p+(N - p)=N by omega]at x1 I1
   have hmx:pr all pl li N (ts N)=ts N:=by
    apply List.ext_getElem (by rw[cr])
    intro d h3 h4
    have:=fF (all:=all) (pl:=pl) (li:=li) (p:=N) (τ:=ts N) (d:=d) (fun k hk _=>⟨hall' _ (pp.lt k hk),by omega⟩)
    simpa[List.getD,h3,h4]using this
   have ht:=I1.t
   rw[hmx]at ht
   exact bV.after x1 (Below.refl _ _) (hdone hN _ w a (I1.w.jkd I1.j) ht.jkd I1.d)
 | cons i L ih=>
   intro li p ζ m a w hord I
   show bV P S (m.jkd J0) (hs p) w b cs (lone (b.at a (.inRegion all (i::(L++Y))::K)) cs w) r
   cases hord with
   | cons _ _ _ hi' hnf hed hE hrest=>
   obtain⟨o,ho'⟩:∃ o,opI all i=o:=⟨_,rfl⟩
   have ho:all[i]? =some o:=by rw[←ho'];exact jw (Nat.lt_of_lt_of_le hi' pp.size)
   rw[ho']at hed
   obtain⟨k,hk,rfl⟩:=pp.cover i hi'
   have hok:opP all pl k=o:=ho'
   have hil:ixP pl k<li.size:=by rw[I.sz];exact Nat.lt_of_lt_of_le hi' pp.size
   have hpre:=qn pp I.cl (ixP pl k) hi' (by rw[ho'];exact hed)
   have hpre':∀ j,j<pl.length→xo all E (ixP pl j) (ixP pl k)→li.getD (ixP pl j) false=true:=fun j hj h=>h.elim (hpre _ (pp.lt j hj)) (hE _)
   have hne:∀ j,j<pl.length→j≠k→ixP pl j≠ixP pl k:=by
    intro j hj hjk e
    rcases Nat.lt_or_ge j k with h | h
    ·exact pp.ne j k h hk e
    ·exact pp.ne k j (by omega) hj e.symm
   have cl':∀ j,j<pl.length→(li.setIfInBounds (ixP pl k) true).getD j false=true→∀ e∈(opI all j).after,Region.binds .any e=true→(li.setIfInBounds (ixP pl k) true).getD e.on false=true:=by
    intro j hj hjl e he hb
    rw[bZ hil]at hjl
    by_cases hji:j=ixP pl k
    ·subst hji
     exact getD_set_true (hed e (by rw[←ho'];exact he) hb)
    ·rw[if_neg hji]at hjl
     exact getD_set_true (I.cl j hj hjl e he hb)
   have clE':∀ j,j<pl.length→(li.setIfInBounds (ixP pl k) true).getD j false=true→∀ i,E i j→(li.setIfInBounds (ixP pl k) true).getD i false=true:=by
    intro j hj hjl i he
    rw[bZ hil]at hjl
    by_cases hji:j=ixP pl k
    ·subst hji
     exact getD_set_true (hE i he)
    ·rw[if_neg hji]at hjl
     exact getD_set_true (I.clE j hj hjl i he)
   by_cases hnews:oS Z (opP all pl k)=true
   ·-- a variable is laid
    obtain⟨e,d,o1,o2,o3,o4,o5⟩:=qz hnews
    have hkp:p≤k:=by
     rcases Nat.lt_or_ge k p with h | h
     ·have:=(I.l2 k h hnf).1
      rw[LP hnews]at this
      cases this
     ·exact h
    obtain⟨zl,hz⟩:=Option.isSome_iff_exists.1 (hZ e o5 o4)
    obtain⟨u,u1,u2,u3,u4⟩:=MY pok.ty (opP all pl k) e o1 hz a w
    have hwa:Region.wanted o (yielded all a.tmps)=true:=by
     have:=ez I.t all (opP all pl k) (x:=true) (by simp[bB,o2])
     rwa [hok]at this
    rw[hok]at u1
    refine bV.steps (qQ ho hwa (.inl u1)) ?_
    refine bV.after (w1:=w.alloc (.cells u e)) (m1:=(m.jkd fun g=>if g=w.heap.size then some (.cells u e)else m.jk g).jkd J0) (h1:=hs p) (Ext.refl (m.jkd J0) _) ((Below.refl _ _).alloc I.w.size (.cells u e)) ?_
    have hjn:∀ g x,J0 g=some x→g≠w.heap.size:=fun g x hg e=>by
     have:=I.w.jk_lt (I.j g x hg)
     omega
    have hdd:∀ j d',j<pl.length→j≠k→(opP all pl j).dst=some d'→d'≠d:=by
     intro j d' hj hjk hd e
     subst e
     rcases Nat.lt_or_ge j k with h | h
     ·exact(pp.dst j k d' h hk o3).2 hd
     ·exact(pp.dst k j d' (by omega) hj hd).2 o3
    rw[←hok,o3]
    refine ih _ p (fun j=>if j=k then w.heap.size else ζ j) _ _ _ hrest ⟨I.le,by simpa using I.sz,cl',clE',fun j hj hl=> ?_,fun j hj hl=> ?_,fun j hj hjl hl=> ?_,fun j j' hj hj' hjl hjl' hl hl' he=> ?_,I.w.junk _,?_,by rw[Act.put_defers'];exact I.d,fun g x hg=> ?_⟩
    ·by_cases hjk:j=k
     ·subst hjk
      exact .inr hnews
     ·rw[bZ hil,if_neg (hne j hj hjk)]at hl
      exact I.l1 j hj hl
    ·have hjk:j≠k:=by omega
     rw[bZ hil,if_neg (hne j (by have:=I.le;omega) hjk)]at hl
     exact I.l2 j hj hl
    ·by_cases hjk:j=k
     ·subst hjk
      refine⟨e,d,zl,u,o1,o2,o3,hz,u2,u3,u4,?_,?_,fun hd=> ?_⟩
      ·rw[if_pos rfl]
       rcases hx:J0 w.heap.size with _ | x
       ·rfl
       ·exact absurd rfl (hjn _ x hx)
      ·simp[Mm.jkd]
      ·simp[Act.put]at hd
       simp[Act.put,Array.getD_eq_getD_getElem?,hd]
     ·rw[bZ hil,if_neg (hne j hjl hjk)]at hl
      obtain⟨e',d',zl',u',p1,p2,p3,p4,p5,p6,p7,p8,p9,p10⟩:=I.l3 j hj hjl hl
      have hlt:=I.w.jk_lt p9
      refine⟨e',d',zl',u',p1,p2,p3,p4,p5,p6,p7,by rw[if_neg hjk];exact p8,?_,fun hd=> ?_⟩
      ·rw[if_neg hjk]
       show(if ζ j=w.heap.size then _ else m.jk (ζ j))=_
       rw[if_neg (by omega)]
       exact p9
      ·rw[if_neg hjk,Act.put_ne fun e=>hdd j d' hjl hjk p3 (by injection e with e;exact e.symm)]
       exact p10 (by simpa[Act.put]using hd)
    ·have hz':∀ q,p≤q→q<pl.length→q≠k→(li.setIfInBounds (ixP pl k) true).getD (ixP pl q) false=true→ζ q<w.heap.size:=fun q h1 h2 h3 h4=>by
      rw[bZ hil,if_neg (hne q h2 h3)]at h4
      obtain⟨_,_,_,_,_,_,_,_,_,_,_,_,p9,_⟩:=I.l3 q h1 h2 h4
      exact I.w.jk_lt p9
     by_cases h1:j=k<;>by_cases h2:j'=k
     ·omega
     ·simp only[h1,h2,if_true,if_false]at he
      have:=hz' j' hj' hjl' h2 hl'
      omega
     ·simp only[h1,h2,if_true,if_false]at he
      have:=hz' j hj hjl h1 hl
      omega
     ·simp only[h1,h2,if_false]at he
      rw[bZ hil,if_neg (hne j hjl h1)]at hl
      rw[bZ hil,if_neg (hne j' hjl' h2)]at hl'
      exact I.inj j j' hj hj' hjl hjl' hl hl' he
    ·refine TR.of (by simp[Act.put];rw[I.t.1,cr,cr]) fun q hq=> ?_
     have hql:q<(ts N).length:=by rw[cr]at hq;exact hq
     by_cases hr:iJ all pl (li.setIfInBounds (ixP pl k) true) p q
     ·rw[fF hr]
      have hqd:q≠d:=fun e=>by
       have:=(hr k hk (by rw[o3,e])).2
       omega
      have hr1:iJ all pl li p q:=fun j hj hd=>by
       obtain⟨r1,r2⟩:=hr j hj hd
       have hjk:j≠k:=by omega
       rw[bZ hil,if_neg (hne j hj hjk)]at r1
       exact⟨r1,r2⟩
      have:=I.t.slot (d:=q) (by rw[cr];exact hql)
      rw[fF hr1]at this
      rw[Act.put_ne fun e=>hqd (by injection e with e;exact e.symm)]
      exact this.jkd
     ·rw[mG hr]
      exact .junk _
    ·show(if g=w.heap.size then _ else m.jk g)=_
     rw[if_neg (hjn g x hg)]
     exact I.j g x hg
   ·-- all else:the plan comes up to it first
    have hkN:k≤N:=by
     rcases hall with h | ⟨v,h',h3,h4,h5⟩
     ·omega
     ·rcases Nat.lt_or_ge N k with hlt | hge
      ·have hns:stQ (po.mu f) (opP all pl N)≠true:=by
        intro hst
        obtain⟨_,⟨hc,_⟩ | ⟨g,args,fn,hc,_⟩⟩:=h4
        ·unfold mz at hc
         split at hc
         ·rename_i x ho2
          simp[stQ,eP,ho2]at hst
         ·cases hc
        ·rw[ww hst]at hc
         cases hc
       rcases I.l1 N h3 (hpre' N h3 (((pp.still N k hlt hk).resolve_left fun h=>hns (uc T.zb h)).resolve_left hnews))with h | h
       ·have:=I.le;omega
       ·exact(E4 h h4).elim
      ·exact hge
    have main:∀ (p:Nat) (m:Mm),FF P po f all pl Z E N ts hs b J0 li p ζ m a w→k≤p→bV P S (m.jkd J0) (hs p) w b cs (lone (b.at a (.inRegion all (ixP pl k::(L++Y))::K)) cs w) r:=by
     intro p m I hkp
     have hw:=I.w
     have ht:=I.t
     have hd:=I.d
     have hp:=I.le
     have hlook:=Sz (τ:=ts N) pp hk hkp hpre'
     -- on it goes
     have hfin:∀ (p':Nat) (m':Mm) (w':World) (v:AV) (u':Value),k<p'→p≤p'→p'≤N→(∀ j,p≤j→j<p'→j=k)→Ext m (hs p) m' (hs p')→WR P m' (hs p') w'→Below m.base w w'→VR P m' (hs p') v u'→Bt (ts N) (opP all pl k) v→
       (∀ j,j<p'→j≠k→li.getD (ixP pl j) false=false→uD P po f all (ts N) (opP all pl j) (hs p'))→
       Steps P (lone (b.at a (.inRegion all (ixP pl k::(L++Y))::K)) cs w)
        (lone (b.at (a.put o.dst u') (.inRegion all (L++Y)::K)) cs w')→
       bV P S (m.jkd J0) (hs p) w b cs (lone (b.at a (.inRegion all (ixP pl k::(L++Y))::K)) cs w) r:=by
      intro p' m' w' v u' hkp' hpp hpN hno hx hw' hbl hv hres hlate hst
      refine bV.steps hst (bV.after (hx.jkd J0) hbl ?_)
      refine ih _ p' ζ m' _ w' hrest ⟨hpN,by simpa using I.sz,cl',clE',fun j hj hjl=> ?_,fun j hj hjl=> ?_,fun j hj hjl hl=> ?_,fun j j' hj hj' hjl hjl' hl hl'=> ?_,hw',?_,by rw[Act.put_defers'];exact hd,fun g x hg=>hx.jk g x (I.j g x hg)⟩
      ·by_cases hjk:j=k
       ·exact .inl (by omega)
       ·rw[bZ hil,if_neg (hne j hj hjk)]at hjl
        exact(I.l1 j hj hjl).imp (fun h=>by omega) id
      ·rw[bZ hil]at hjl
       by_cases hjk:j=k
       ·subst hjk
        simp at hjl
       ·rw[if_neg (hne j (by omega) hjk)]at hjl
        exact hlate j hj hjk hjl
      ·have hjk:j≠k:=by omega
       rw[bZ hil,if_neg (hne j hjl hjk)]at hl
       obtain⟨e',d',zl',u',p1,p2,p3,p4,p5,p6,p7,p8,p9,p10⟩:=I.l3 j (by omega) hjl hl
       refine⟨e',d',zl',u',p1,p2,p3,p4,p5,p6,p7,p8,hx.jk _ _ p9,fun hd'=> ?_⟩
       have hdk:o.dst≠some d':=fun e=>by
        rw[←hok]at e
        exact(pp.dst k j d' (by omega) hjl p3).2 e
       rw[Act.put_ne hdk]
       refine p10 ?_
       cases hod:o.dst with
       | none=>rw[hod]at hd';exact hd'
       | some x=>rw[hod]at hd';simpa[Act.put]using hd'
      ·have h1:j≠k:=by omega
       have h2:j'≠k:=by omega
       rw[bZ hil,if_neg (hne j hjl h1)]at hl
       rw[bZ hil,if_neg (hne j' hjl' h2)]at hl'
       exact I.inj j j' (by omega) (by omega) hjl hjl' hl hl'
      ·rw[←hok]
       exact Vr pp hk hil hpp (fun j h1 h2 h3=>absurd (hno j h1 h2) h3) hx ht hv hres
     have hread:∀ {x:Bool},bB all (ts N) (opP all pl k)=some x→Region.wanted o (yielded all a.tmps)=x:=fun hwa=>by
      have:=ez ht all (opP all pl k) (by rw[jr hlook];exact hwa)
      rwa [hok]at this
     -- an operation that only computes
     have hdo:∀ {h':AH} {v:AV},bB all (ts N) (opP all pl k)=some true→be P (po.mu f) (ts N) (hs p) (opP all pl k)=some (v,h')→
       ∀ (p':Nat),hs p'=h'→k<p'→p≤p'→p'≤N→(∀ j,p≤j→j<p'→j=k)→Bt (ts N) (opP all pl k) v→(∀ j,j<p'→j≠k→li.getD (ixP pl j) false=false→uD P po f all (ts N) (opP all pl j) (hs p'))→
       bV P S (m.jkd J0) (hs p) w b cs (lone (b.at a (.inRegion all (ixP pl k::(L++Y))::K)) cs w) r:=by
      intro h' v hwa hev p' hp' q1 q2 q3 q6 q4 q5
      subst hp'
      have hev':=hev
      rw[←sj (po.mu f) hlook]at hev'
      rw[hok]at hev'
      obtain⟨m',w',u',d1,d2,d3,d4,d5⟩:=su pok.ty hw ht (po.mu f) hev'
      exact hfin p' m' w' v u' q1 q2 q3 q6 d2 d3 d5 d4 q4 q5 (qQ ho (hread hwa) d1)
     have hskip:∀ (p':Nat),hs p'=hs p→bB all (ts N) (opP all pl k)=some false→k<p'→p≤p'→p'≤N→(∀ j,p≤j→j<p'→j=k)→Bt (ts N) (opP all pl k) (.tup [])→(∀ j,j<p'→j≠k→li.getD (ixP pl j) false=false→uD P po f all (ts N) (opP all pl j) (hs p'))→
       bV P S (m.jkd J0) (hs p) w b cs (lone (b.at a (.inRegion all (ixP pl k::(L++Y))::K)) cs w) r:=by
      intro p' hp' hwa q1 q2 q3 q6 q4 q5
      exact hfin p' m w (.tup []) undef q1 q2 q3 q6 (by rw[hp'];exact Ext.refl _ _) (by rw[hp'];exact hw) (Below.refl _ _) VR.und q4 q5 (nC ho (hread hwa))
     rcases Nat.lt_or_ge k p with hkp2 | hkp2
     ·obtain⟨_,l2⟩:=I.l2 k hkp2 hnf
      rcases l2 with⟨l2,l3⟩ | ⟨l2,v,l3,l4⟩
      ·exact hskip p rfl l2 hkp2 (Nat.le_refl _) hp (fun j h1 h2=>by omega) l3 (fun j hj _ hn=>I.l2 j hj hn)
      ·exact hdo l2 l3 p rfl hkp2 (Nat.le_refl _) hp (fun j h1 h2=>by omega) l4 (fun j hj _ hn=>I.l2 j hj hn)
     ·obtain rfl:p=k:=by omega
      have hcall:∀ {g args fn x h'},aT (ts N) (opP all pl p)=some (g,args)→P.funcs[g]? =some fn→(fn.body.isNone=false∧(fn.name== "runtime.NumGoroutine")=false)→AC P g args (hs p) (x,h')→bB all (ts N) (opP all pl p)=some true→
        ∃ vs:List Value,VRs P m (hs p) args vs∧(execOp a.eval o).run P w= .ok (.enter g vs.toArray) w:=by
       intro g args fn x h' c1 c2 c3 c4 c5
       have c1':=c1
       rw[←l8 hlook,hok]at c1'
       exact jZ ht c1' c2 c3.2 c3.1
      rcases Nat.lt_or_ge p N with hkN2 | hkN2
      ·have hlt:∀ j,j<p+1→j≠p→li.getD (ixP pl j) false=false→uD P po f all (ts N) (opP all pl j) (hs (p+1)):=by
        intro j hj hjk hn
        refine T.turn (by omega) hkN2 ?_ (I.l2 j (by omega) hn)
        intro hx
        have:=hpre' j (by omega) hx
        rw[hn]at this
        cases this
       have honly:∀ j,p≤j→j<p+1→j=p:=fun j h1 h2=>by omega
       rcases T.at hkN2 with⟨a1,a2,a3⟩ | ⟨a1,v,a2,a3,a4⟩
       ·exact hskip (p+1) a3 a1 (by omega) (by omega) hkN2 honly a2 hlt
       ·rcases a2 with⟨_,a2⟩ | ⟨g,args,fn,c1,c2,c3,c4⟩
        ·exact hdo a1 a2 (p+1) rfl (by omega) (by omega) hkN2 honly a3 hlt
        ·obtain⟨vs,v1,v2⟩:=hcall c1 c2 c3 c4 a1
         have hac:=c4 m w vs hw v1
         obtain⟨e,w',hR,hst⟩:=mE (b:=b) (cs:=cs) (k:=K) (rest:=L++Y) ho (hread a1) v2 hac (by rintro w' ⟨m',_,_,_,u',h,_⟩;cases h)
         obtain⟨m',x1,x2,x3,u',x4,x5⟩:=hR
         subst x4
         rcases hst with⟨v',h3,h4⟩ | ⟨ch,h3,_⟩
         ·injection h3 with h3
          subst h3
          exact hfin (p+1) m' w' v u' (by omega) (by omega) hkN2 honly x1 x2 x3 x5 a3 hlt h4
         ·cases h3
      ·obtain rfl:p=N:=by omega
       have hkeep:∀ d,S d=true→(pr all pl li p (ts p)).getD d .junk=(ts p).getD d .junk:=fun d hd=>fF fun j hj hdj=>absurd hdj (hS d hd j hj)
       rcases hall with h | ⟨v,h',h3,⟨h4,⟨c1,c2⟩ | ⟨g,args,fn,c1,c2,c3,c4⟩⟩,h5⟩
       ·omega
       ·rw[←Hr hlook,hok]at c1
        obtain⟨u',x1,x2⟩:=zY (w:=w) ht c1
        rw[h5,c2]
        exact⟨m.jkd J0,w,Ext.refl _ _,hw.jkd I.j,Below.refl _ _,a,_,u',⟨_,ht.jkd,hkeep⟩,hd,x1.jkd,EV ho (hread h4) x2⟩
       ·obtain⟨vs,v1,v2⟩:=hcall c1 c2 c3 c4 h4
        have hac:=c4 m w vs hw v1
        obtain⟨e,w',hR,hst⟩:=mE (b:=b) (cs:=cs) (k:=K) (rest:=L++Y) ho (hread h4) v2 hac (by rintro w' ⟨m',_,_,_,u',h,_⟩;cases h)
        obtain⟨m',x1,x2,x3,u',x4,x5⟩:=hR
        subst x4
        rcases hst with⟨v',h6,_⟩ | ⟨ch,h6,todo,h7⟩
        ·cases h6
        ·injection h6 with h6
         subst h6
         rw[h5]
         exact⟨m'.jkd J0,w',x1.jkd J0,x2.jkd fun g x hg=>x1.jk g x (I.j g x hg),x3,a,todo,u',⟨_,(ht.ext x1).jkd,hkeep⟩,hd,x5.jkd,h7⟩
    rcases Nat.lt_or_ge k p with h | h
    ·exact main p m I (by omega)
    ·obtain⟨m1,x1,I1⟩:=I.adv T (k - p) (by omega) fun j h1 h2 hn=>by
      rcases pp.still j k (by omega) hk with h | h | h
      ·exact uc T.zb h
      ·exact absurd h hnews
      ·rw[hpre' j (by omega) h]at hn
       cases hn
     rw[show p+(k - p)=k by omega]at x1 I1
     exact bV.after x1 (Below.refl _ _) (main k m1 I1 (Nat.le_refl _))
theorem EX {S:Nat→Bool} {J0:Nat→Option Obj} (hlen:pl.length=all.size) (hS:∀ d,S d=true→∀ k,k<pl.length→(opP all pl k).dst≠some d) (pok:POK P po) (hZ:∀ e,e<2000000→Z e=true→(eH P e).isSome=true) (T:Tra P po f all pl Z E N ts hs)
  (hall:N=pl.length∨∃ v h',N<pl.length∧ug P all (opP all pl N) (ts N) (hs N) v h'∧r=(.panic v,ts N,h'))
  (hdone:N=pl.length→∀ m1 w1 a1,WR P m1 (hs N) w1→TR P m1 (hs N) (ts N) a1.tmps→a1.defers=b.defers→bV P S m1 (hs N) w1 b cs (lone (b.at a1 K) cs w1) r):
  ∀ (L:List Nat) (li:Array Bool) (p:Nat) (ζ:Nat→Nat) (m:Mm) (a:Act) (w:World),kG all E li L→FF P po f all pl Z E N ts hs b J0 li p ζ m a w→
    bV P S (m.jkd J0) (hs p) w b cs (lone (b.at a (.inRegion all L::K)) cs w) r:=by
 intro L li p ζ m a w hL I
 have:=zJ (Y:=[]) hS pok hZ T hall (fun hN m1 w1 a1 q1 q2 q3=>bV.steps (.one step_region_end) (hdone hN m1 w1 a1 q1 q2 q3)) L li p ζ m a w (by rw[hlen];exact hL) I
 rwa [List.append_nil]at this
end
open Go Go.RowKit
theorem j9 (e cs:List AV) (off j:Nat) (hle:off+cs.length≤e.length):(stA e off cs)[j]? =if off≤j∧j<off+cs.length then cs[j - off]? else e[j]? :=by
 unfold stA
 have h1:(e.take off).length=off:=by simp;omega
 by_cases hj:j<off
 ·rw[if_neg (by omega),List.append_assoc,List.getElem?_append_left (by omega),List.getElem?_take_of_lt hj]
 ·rw[List.append_assoc,List.getElem?_append_right (by omega),h1]
  by_cases hj2:j<off+cs.length
  ·rw[if_pos (by omega),List.getElem?_append_left (by omega)]
  ·rw[if_neg (by omega),List.getElem?_append_right (by omega),List.getElem?_drop]
   congr 1
   omega
theorem mN (e cs:List AV) (off:Nat) (hle:off+cs.length≤e.length):(stA e off cs).length=e.length:=by
 unfold stA
 simp
 omega
theorem Q9 {agg:Bool} {n off off':Nat} {e ys:List AV} {x:AV} (h1:x.cells.all AV.one=true) (h2:x.cells.length=n) (hn:n≠0) (hle:off+n≤e.length) (hy:ys.all AV.one=true) (hle':off'+ys.length≤e.length)
  (hl:ldA agg n (stA (stA e off x.cells) off' ys) off=some x):∀ j,j<n→(stA (stA e off x.cells) off' ys)[off+j]? =x.cells[j]? :=by
 have l1:=mN e x.cells off (by omega)
 have l2:=mN (stA e off x.cells) ys off' (by omega)
 unfold ldA at hl
 split at hl
 ·rename_i hag
  rw[if_pos (by omega)]at hl
  injection hl with hl
  intro j hj
  have hc:=congrArg AV.cells hl
  generalize stA (stA e off x.cells) off' ys=R at hc ⊢
  rw[←hc]
  simp only[AV.cells]
  rw[List.getElem?_take_of_lt hj,List.getElem?_drop]
 ·intro j hj
  have hone:x.one=true:=by
   have g:(stA (stA e off x.cells) off' ys)[off]? =some x:=hl
   rw[j9 _ _ _ _ (by omega)]at g
   split at g
   ·exact List.all_eq_true.1 hy x (List.mem_of_getElem? g)
   ·rw[j9 _ _ _ _ (by omega),if_pos (by omega),Nat.sub_self]at g
    exact List.all_eq_true.1 h1 x (List.mem_of_getElem? g)
  have hc:x.cells=[x]:=by cases x<;>first | rfl | (simp[AV.one]at hone)
  rw[hc]at h2
  have hj0:j=0:=by simp at h2;omega
  subst hj0
  rw[Nat.add_zero,hl,hc]
  rfl
theorem PD {n off off':Nat} {e xs ys:List AV} (h2:xs.length=n) (hle:off+n≤e.length) (hle':off'+ys.length≤e.length) (hl:∀ j,j<n→(stA (stA e off xs) off' ys)[off+j]? =xs[j]?):
  stA (stA e off' ys) off xs=stA (stA e off xs) off' ys:=by
 have l1:=mN e xs off (by omega)
 have l2:=mN e ys off' (by omega)
 refine List.ext_getElem? fun j=> ?_
 by_cases hj:off≤j∧j<off+xs.length
 ·have:=hl (j - off) (by omega)
  rw[show off+(j - off)=j by omega]at this
  rw[this,j9 _ _ _ _ (by omega),if_pos hj]
 ·rw[j9 _ _ _ _ (by omega),if_neg hj,j9 _ _ _ _ (by omega),j9 _ _ _ _ (by omega)]
  split
  ·rfl
  ·rw[j9 _ _ _ _ (by omega),if_neg hj]
theorem z9 {n:Nat} {h:AH} {a x:AV} {h1:AH} (hs:aZ n h a x=some h1):∃ b i off es e,(∀ agg k h,aR agg k h a=aR agg k h (.ptr b i off))∧(∀ k h y,aZ k h a y=aZ k h (.ptr b i off) y)∧
  h.cell b=some es∧es[i]? =some e∧x.cells.all AV.one=true∧x.cells.length=n∧off+n≤e.length∧h1=h.set b (some (es.set i (stA e off x.cells))):=by
 have key:∀ b i off,aZ n h (.ptr b i off) x=some h1→∃ es e,h.cell b=some es∧es[i]? =some e∧x.cells.all AV.one=true∧x.cells.length=n∧off+n≤e.length∧h1=h.set b (some (es.set i (stA e off x.cells))):=by
  intro b i off hs
  unfold aZ at hs
  simp only[Option.bind_eq_some_iff]at hs
  obtain⟨es,h2,e,h3,h4⟩:=hs
  split at h4
  ·rename_i hc
   injection h4 with h4
   exact⟨es,e,h2,h3,hc.1,hc.2.1,hc.2.2,h4.symm⟩
  ·cases h4
 cases a with
 | ptr b i off=>
   obtain⟨es,e,q⟩:=key b i off hs
   exact⟨b,i,off,es,e,fun _ _ _=>rfl,fun _ _ _=>rfl,q⟩
 | tptr t b=>
   obtain⟨es,e,q⟩:=key b 0 0 hs
   exact⟨b,0,0,es,e,fun _ _ _=>rfl,fun _ _ _=>rfl,q⟩
 | _=>cases hs
theorem bJ {n:Nat} {h:AH} {b i off:Nat} {x:AV} {es:List (List AV)} {e:List AV} (h1:h.cell b=some es) (h2:es[i]? =some e) (h3:x.cells.all AV.one=true) (h4:x.cells.length=n) (h5:off+n≤e.length):
  aZ n h (.ptr b i off) x=some (h.set b (some (es.set i (stA e off x.cells)))):=by
 unfold aZ
 simp only[h1,Option.bind_some,h2]
 rw[if_pos ⟨h3,h4,h5⟩]
theorem AH.set_at {h:AH} {b:Nat} {es:Option (List (List AV))}:(h.set b es).cell b=es:=by simp[AH.set]
theorem AH.set_off {h:AH} {b j:Nat} {es:Option (List (List AV))} (hj:j≠b):(h.set b es).cell j=h.cell j:=by simp[AH.set,hj]
theorem AH.set_twice {h:AH} {b:Nat} {x y:Option (List (List AV))}:(h.set b x).set b y=h.set b y:=by
 simp only[AH.set,AH.mk.injEq,and_true,true_and]
 funext k
 split<;>simp_all
theorem AH.set_apart {h:AH} {a b:Nat} (hne:a≠b) (x y:Option (List (List AV))):(h.set a x).set b y=(h.set b y).set a x:=by
 simp only[AH.set,AH.mk.injEq,and_true,true_and]
 funext k
 by_cases h1:k=a
 ·subst h1
  simp[hne]
 ·simp[h1]
theorem He {n n':Nat} {h h1 h2:AH} {a x a' y:AV} {agg:Bool} (hn:n≠0) (s1:aZ n h a x=some h1) (s2:aZ n' h1 a' y=some h2) (hl:aR agg n h2 a=some x):
  ∃ h1',aZ n' h a' y=some h1'∧aZ n h1' a x=some h2:=by
 obtain⟨b,i,off,es,e,al,as_,c1,c2,c3,c4,c5,rfl⟩:=z9 s1
 obtain⟨b',i',off',es',e',_,aS',d1,d2,d3,d4,d5,rfl⟩:=z9 s2
 rw[al]at hl
 simp only[as_,aS']
 have hi:i<es.length:=(List.getElem?_eq_some_iff.1 c2).1
 by_cases hb:b'=b
 ·subst hb
  rw[AH.set_at]at d1
  injection d1 with d1
  subst d1
  by_cases hii:i'=i
  ·subst hii
   rw[List.getElem?_set_self hi]at d2
   injection d2 with d2
   subst d2
   have l1:=mN e x.cells off (by omega)
   have hld:ldA agg n (stA (stA e off x.cells) off' y.cells) off=some x:=by
    have:aR agg n _ (.ptr b' i' off)=some x:=hl
    simp only[aR,AH.row,AH.set_at,Option.bind_some]at this
    rw[List.set_set,List.getElem?_set_self hi]at this
    exact this
   have hcells:=Q9 c3 c4 hn c5 d3 (by omega) hld
   have hsw:=PD c4 c5 (by omega) hcells
   refine⟨_,bJ c1 c2 d3 d4 (by omega),?_⟩
   rw[bJ (es:=es.set i' (stA e off' y.cells)) (e:=stA e off' y.cells) AH.set_at (List.getElem?_set_self hi) c3 c4 (by rw[mN _ _ _ (by omega)];exact c5)]
   rw[AH.set_twice,AH.set_twice,List.set_set,List.set_set,hsw]
  ·rw[List.getElem?_set_ne (Ne.symm hii)]at d2
   refine⟨_,bJ c1 d2 d3 d4 d5,?_⟩
   rw[bJ (es:=es.set i' (stA e' off' y.cells)) (e:=e) AH.set_at (by rw[List.getElem?_set_ne hii];exact c2) c3 c4 c5]
   rw[AH.set_twice,AH.set_twice,List.set_comm _ _ hii]
 ·rw[AH.set_off hb]at d1
  refine⟨_,bJ d1 d2 d3 d4 d5,?_⟩
  rw[bJ (es:=es) (e:=e) (by rw[AH.set_off (Ne.symm hb)];exact c1) c2 c3 c4 c5]
  rw[AH.set_apart hb]
section
variable {P:Program} {po:Pol} {f:FuncId} {n nv:Nat} {vm:List Nat} {h h':AH} {t V V':List AV} {all:Array Oper} {pl:List (Nat×List Nat)} {E:Nat→Nat→Prop}
abbrev mD (all:Array Oper):Array Bool:=Array.replicate all.size false
theorem tH (pok:POK P po) (pp:pu all pl (fun _=>false) E) (hkp:tG (po.kp f) all=true) {e:Option AV} {t':List AV} (hp:nU P po f all (dO true all pl) t h e t' h') {b:Frame} {cs:List Frame} {K:List Item} {r:AEx×List AV×AH}
  (he1:e=none→∀ (m1:Mm) (w1:World) (a1:Act),WR P m1 h' w1→TR P m1 h' t' a1.tmps→a1.defers=b.defers→bV P (po.kp f) m1 h' w1 b cs (lone (b.at a1 K) cs w1) r) (he2:∀ v,e=some v→r=(.panic v,t',h'))
  {L:List Nat} (hL:kG all E (mD all) L) {m:Mm} {w:World} {a:Act} (hw:WR P m h w) (ht:TR P m h t a.tmps) (hd:a.defers=b.defers):
  bV P (po.kp f) m h w b cs (lone (b.at a (.inRegion all L::K)) cs w) r:=by
 have hS:∀ d,po.kp f d=true→∀ k,k<pl.length→(opP all pl k).dst≠some d:=fun d hd k hk e=>by
  have hlt:=pp.lt k hk
  have hm:=List.all_eq_true.1 hkp (opP all pl k) (Array.mem_toList_iff.2 (Array.mem_of_getElem? (jw hlt)))
  rw[e]at hm
  simp[hd]at hm
 obtain⟨N,ts,hs,h1,h2,h3,h4,h5,h6⟩:=hp.trace
 have hlen:(dO true all pl).length=pl.length:=by simp[dO]
 have hget:∀ i,i<pl.length→(dO true all pl)[i]? =some (opP all pl i,(ckP pl i).map (opI all)):=by
  intro i hi
  simp only[dO,if_true,List.getElem?_map,List.getElem?_eq_getElem hi,Option.map_some,Option.some.injEq]
  have e1:pl.getD i default=pl[i]:=by simp[List.getD,hi]
  simp only[opP,opI,ixP,ckP,e1]
  rfl
 have T:Tra P po f all pl (fun _=>false) E N ts hs:=⟨pp.toQ,by omega,(fun _ h=>by cases h),fun i hi=>h5 i _ hi (hget i (by omega))⟩
 subst h2;subst h3;subst h4
 have hm0:m=m.jkd m.jk:=rfl
 rw[hm0]
 refine EX (S:=po.kp f) (J0:=m.jk) pp.len hS (r:=r) (K:=K) (b:=b) (cs:=cs) pok (fun e _ he=>by cases he) T ?_ ?_ _ (mD all) 0 (fun _=>0) m a _ hL ⟨Nat.zero_le _,by simp,fun j hj hjl=> ?_,fun j hj hjl=> ?_,fun j hj hjl=> ?_,fun j hj=>by omega,fun j _ hj hjl=> ?_,fun j j' _ _ hj hj' hjl=> ?_,hw,?_,hd,fun _ _ h=>h⟩
 ·cases e with
  | none=>exact .inl (by omega)
  | some v=>
    obtain⟨q,hq,hst⟩:=h6
    have hN:N<pl.length:=by
     have:=(List.getElem?_eq_some_iff.1 hq).1
     omega
    rw[hget N hN]at hq
    injection hq with hq
    subst hq
    exact .inr ⟨v,h',hN,hst,he2 v rfl⟩
 ·intro hN m1 w1 a1 q1 q2 q3
  cases e with
  | none=>
    obtain⟨_,h6⟩:=h6
    subst h6
    exact he1 rfl m1 w1 a1 q1 q2 q3
  | some v=>
    obtain⟨q,hq,hst⟩:=h6
    have:=(List.getElem?_eq_some_iff.1 hq).1
    omega
 ·rw[pp.len]at hj
  simp[Array.getD_eq_getD_getElem?,hj]at hjl
 ·rw[pp.len]at hj
  simp[Array.getD_eq_getD_getElem?,hj]at hjl
 ·have:=pp.lt j hj
  simp[Array.getD_eq_getD_getElem?,this]at hjl
 ·have:=pp.lt j hj
  simp[Array.getD_eq_getD_getElem?,this]at hjl
 ·have:=pp.lt j hj
  simp[Array.getD_eq_getD_getElem?,this]at hjl
 ·have hl:=T.len 0 (Nat.zero_le _)
  refine TR.of (by rw[cr,←hl];exact ht.1) fun d hdl=> ?_
  have hdl':d<(ts 0).length:=by rw[cr]at hdl;omega
  by_cases hrd:iJ all pl (mD all) 0 d
  ·rw[fF hrd]
   have e3:=T.keep d 0 N (by omega) (fun j _ hj he=>by
    have hjl:j<pl.length:=by omega
    have:=(hrd j hjl he).2
    omega)
   rw[Nat.zero_add]at e3
   rw[e3]
   exact ht.slot hdl'
  ·rw[mG hrd]
   exact .junk _
theorem zf (pok:POK P po) {Y:List Nat} (pp:pY all pl (zOf (po.kp f)) fun _ _=>False) (hkp:tG (po.kp f) all=true) {e:Option AV} {t':List AV} (hp:nU P po f all (dO true all pl) t h e t' h') {b:Frame} {cs:List Frame} {K:List Item} {r:AEx×List AV×AH}
  (he1:e=none→∀ (m1:Mm) (w1:World) (a1:Act),WR P m1 h' w1→TR P m1 h' t' a1.tmps→a1.defers=b.defers→bV P (po.kp f) m1 h' w1 b cs (lone (b.at a1 (.inRegion all Y::K)) cs w1) r) (he2:∀ v,e=some v→r=(.panic v,t',h'))
  {L:List Nat} (hL:IH pl.length all (fun _ _=>False) (mD all) L) {m:Mm} {w:World} {a:Act} (hw:WR P m h w) (ht:TR P m h t a.tmps) (hd:a.defers=b.defers):
  bV P (po.kp f) m h w b cs (lone (b.at a (.inRegion all (L++Y)::K)) cs w) r:=by
 have hS:∀ d,po.kp f d=true→∀ k,k<pl.length→(opP all pl k).dst≠some d:=fun d hd k hk e=>by
  have hlt:=Nat.lt_of_lt_of_le (pp.lt k hk) pp.size
  have hm:=List.all_eq_true.1 hkp (opP all pl k) (Array.mem_toList_iff.2 (Array.mem_of_getElem? (jw hlt)))
  rw[e]at hm
  simp[hd]at hm
 obtain⟨N,ts,hs,h1,h2,h3,h4,h5,h6⟩:=hp.trace
 have hlen:(dO true all pl).length=pl.length:=by simp[dO]
 have hget:∀ i,i<pl.length→(dO true all pl)[i]? =some (opP all pl i,(ckP pl i).map (opI all)):=by
  intro i hi
  simp only[dO,if_true,List.getElem?_map,List.getElem?_eq_getElem hi,Option.map_some,Option.some.injEq]
  have e1:pl.getD i default=pl[i]:=by simp[List.getD,hi]
  simp only[opP,opI,ixP,ckP,e1]
  rfl
 have T:Tra P po f all pl (zOf (po.kp f)) (fun _ _=>False) N ts hs:=⟨pp,by omega,(fun ty h=>pok.kpb f ty h),fun i hi=>h5 i _ hi (hget i (by omega))⟩
 subst h2;subst h3;subst h4
 have hm0:m=m.jkd m.jk:=rfl
 rw[hm0]
 refine zJ (Y:=Y) (S:=po.kp f) (J0:=m.jk) hS (r:=r) (K:=K) (b:=b) (cs:=cs) pok (fun e h1 he=>pok.kpz f e h1 he) T ?_ ?_ _ (mD all) 0 (fun _=>0) m a _ hL ⟨Nat.zero_le _,by simp,fun j hj hjl=> ?_,fun j hj hjl=> ?_,fun j hj hjl=> ?_,fun j hj=>by omega,fun j _ hj hjl=> ?_,fun j j' _ _ hj hj' hjl=> ?_,hw,?_,hd,fun _ _ h=>h⟩
 ·cases e with
  | none=>exact .inl (by omega)
  | some v=>
    obtain⟨q,hq,hst⟩:=h6
    have hN:N<pl.length:=by
     have:=(List.getElem?_eq_some_iff.1 hq).1
     omega
    rw[hget N hN]at hq
    injection hq with hq
    subst hq
    exact .inr ⟨v,h',hN,hst,he2 v rfl⟩
 ·intro hN m1 w1 a1 q1 q2 q3
  cases e with
  | none=>
    obtain⟨_,h6⟩:=h6
    subst h6
    exact he1 rfl m1 w1 a1 q1 q2 q3
  | some v=>
    obtain⟨q,hq,hst⟩:=h6
    have:=(List.getElem?_eq_some_iff.1 hq).1
    omega
 ·have hj:=Nat.lt_of_lt_of_le hj pp.size
  simp[Array.getD_eq_getD_getElem?,hj]at hjl
 ·have hj:=Nat.lt_of_lt_of_le hj pp.size
  simp[Array.getD_eq_getD_getElem?,hj]at hjl
 ·have:=Nat.lt_of_lt_of_le (pp.lt j hj) pp.size
  simp[Array.getD_eq_getD_getElem?,this]at hjl
 ·have:=Nat.lt_of_lt_of_le (pp.lt j hj) pp.size
  simp[Array.getD_eq_getD_getElem?,this]at hjl
 ·have:=Nat.lt_of_lt_of_le (pp.lt j hj) pp.size
  simp[Array.getD_eq_getD_getElem?,this]at hjl
 ·have hl:=T.len 0 (Nat.zero_le _)
  refine TR.of (by rw[cr,←hl];exact ht.1) fun d hdl=> ?_
  have hdl':d<(ts 0).length:=by rw[cr]at hdl;omega
  by_cases hrd:iJ all pl (mD all) 0 d
  ·rw[fF hrd]
   have e3:=T.keep d 0 N (by omega) (fun j _ hj he=>by
    have hjl:j<pl.length:=by omega
    have:=(hrd j hjl he).2
    omega)
   rw[Nat.zero_add]at e3
   rw[e3]
   exact ht.slot hdl'
  ·rw[mG hrd]
   exact .junk _
theorem DV {P:Program} {po:Pol} {f:FuncId} {all:Array Oper} {e:Option AV} {t':List AV} {h':AH}:∀ {l1 l2:List (Oper×List Oper)} {t:List AV} {h:AH},nU P po f all (l1++l2) t h e t' h'→
  (∃ t1 h1,nU P po f all l1 t h none t1 h1∧nU P po f all l2 t1 h1 e t' h')∨∃ v,e=some v∧nU P po f all l1 t h (some v) t' h'
 | [],l2,t,h,hp=> .inl ⟨t,h,.nil _ _,hp⟩
 | q::l1,l2,t,h,hp=>by
   have hp:nU P po f all (q::(l1++l2)) t h e t' h':=hp
   cases hp with
   | step _ _ _ _ t1 h1 _ _ _ hs hr=>
     rcases DV hr with⟨t2,h2,a,b⟩ | ⟨v,a,b⟩
     ·exact .inl ⟨t2,h2,.step _ _ _ _ _ _ _ _ _ hs a,b⟩
     ·exact .inr ⟨v,a,.step _ _ _ _ _ _ _ _ _ hs b⟩
   | stop _ _ _ _ v _ hs=>exact .inr ⟨v,rfl,.stop _ _ _ _ _ _ hs⟩
theorem NS {y:Nat} {Z:TypeId→Bool} (pq:pY all pl Z fun _ _=>False) (hpl:pl.length=y) (hy:y+1=all.size) (hpre:∀ i,i<y→kw (Region.before all) i y=true):∀ {li:Array Bool} {L:List Nat},kG all (fun _ _=>False) li L→li.size=all.size→li.getD y false=false→(∀ j,j<pl.length→li.getD j false=true→∀ e∈(opI all j).after,Region.binds .any e=true→li.getD e.on false=true)→
  ∃ L',L=L'++[y]∧IH pl.length all (fun _ _=>False) li L':=by
 intro li L ho
 induction ho with
 | nil li h=>
   intro _ hn
   rw[h y (by omega)]at hn
   cases hn
 | cons li i L g1 g2 g3 g4 g5 ih=>
   intro hs hn hcl
   have hil:i<li.size:=by omega
   by_cases hi:i=y
   ·have hall:∀ j,j<y→li.getD j false=true:=fun j hj=>by
     obtain⟨e,e1,e2,e3⟩:=pq.mask y j (by omega) (by omega) (hpre j hj)
     have hlt:=pq.edges y (by omega) e e1 e2
     have hle:=g3 e (by rw[hi];exact e1) e2
     rcases e3 with e3 | e3
     ·rw[←e3];exact hle
     ·exact qn pq hcl e.on (by omega) (hcl e.on (by omega) hle) j (by omega) e3
    cases g5 with
    | nil _ _=>exact⟨[],by rw[hi];rfl,.nil _ fun j hj=>hall j (by omega)⟩
    | cons _ k _ k1 k2=>
      exfalso
      rw[bZ hil]at k2
      split at k2
      ·cases k2
      ·rename_i hk
       rw[hall k (by omega)]at k2
       cases k2
   ·obtain⟨L',e,o⟩:=ih (by simpa using hs) (by rw[bZ hil,if_neg (fun h=>hi h.symm)];exact hn) fun j hj hjl e he hb=>by
     rw[bZ hil]at hjl
     by_cases hji:j=i
     ·subst hji
      exact getD_set_true (g3 e he hb)
     ·rw[if_neg hji]at hjl
      exact getD_set_true (hcl j hj hjl e he hb)
    exact⟨i::L',by rw[e];rfl,.cons _ _ _ (by omega) g2 g3 g4 o⟩
abbrev Im (E:Nat→Nat→Prop) (x y:Nat):Nat→Nat→Prop:=fun i j=>E i j∨(i=x∧j=y)
theorem Nq {x y:Nat} {li:Array Bool} {L:List Nat} (ho:kG all E li L) (hs:li.size=all.size) (hx:li.getD x false=true):kG all (Im E x y) li L:=by
 induction ho with
 | nil li h=>exact .nil _ h
 | cons li i L h1 h2 h3 h4 _ ih=>
   refine .cons _ _ _ h1 h2 h3 (fun j hj=>hj.elim (h4 j) fun e=>by rw[e.1];exact hx) (ih (by simpa using hs) ?_)
   rw[bZ (by omega)]
   split
   ·rfl
   ·exact hx
theorem pN {x y:Nat} (hne:x≠y) (hxs:x<all.size) {li:Array Bool} {L:List Nat} (ho:kG all E li L) (hs:li.size=all.size) (hx:li.getD x false=false) (hy:li.getD y false=false):kG all (Im E x y) li L∨kG all (Im E y x) li L:=by
 induction ho with
 | nil li h=>
   have:=h x hxs
   rw[hx]at this
   cases this
 | cons li i L h1 h2 h3 h4 hr ih=>
   have hil:i<li.size:=by omega
   by_cases hix:i=x
   ·subst hix
    refine .inl (.cons _ _ _ h1 h2 h3 (fun j hj=>hj.elim (h4 j) fun e=>absurd e.2 hne) (Nq hr (by simpa using hs) ?_))
    rw[bZ hil,if_pos rfl]
   ·by_cases hiy:i=y
    ·subst hiy
     refine .inr (.cons _ _ _ h1 h2 h3 (fun j hj=>hj.elim (h4 j) fun e=>absurd e.2.symm hne) (Nq hr (by simpa using hs) ?_))
     rw[bZ hil,if_pos rfl]
    ·rcases ih (by simpa using hs) (by rw[bZ hil,if_neg (Ne.symm hix)];exact hx) (by rw[bZ hil,if_neg (Ne.symm hiy)];exact hy)with h | h
     ·exact .inl (.cons _ _ _ h1 h2 h3 (fun j hj=>hj.elim (h4 j) fun e=>absurd e.2 hiy) h)
     ·exact .inr (.cons _ _ _ h1 h2 h3 (fun j hj=>hj.elim (h4 j) fun e=>absurd e.2 hix) h)
theorem ee (i:Nat):(mD all).getD i false=false:=by
 simp only[Array.getD_eq_getD_getElem?,mD]
 by_cases hi:i<all.size
 ·simp[hi]
 ·simp[hi]
theorem kF {El:List (Nat×Nat)} (hp:np El all pl=true):pu all pl (fun _=>false) fun i j=>(i,j)∈El:=by
 unfold np at hp
 simp only[Bool.and_eq_true]at hp
 obtain⟨⟨⟨⟨⟨h1,h2⟩,h2'⟩,h3⟩,h4⟩,h5⟩:=hp
 rw[List.all_eq_true]at h1 h2 h2' h3 h5
 have hmem:∀ k,k<pl.length→pl.getD k default∈pl:=fun k hk=>by
  simp only[List.getD,List.getElem?_eq_getElem hk,Option.getD_some]
  exact List.getElem_mem hk
 have hpair:∀ i j,i<j→j<pl.length→BD El all (Region.before all) (pl.getD i default) (pl.getD j default)=true:=fun i j hij hj=>by
  have:=h5 j (List.mem_range.2 hj)
  rw[List.all_eq_true]at this
  exact this i (List.mem_range.2 hij)
 have hpre:∀ i j,(kw (Region.before all) i j || El.contains (i,j))=true→xo all (fun i j=>(i,j)∈El) i j:=fun i j h=>by
  rw[Bool.or_eq_true]at h
  exact h.imp id fun h=>by simpa using h
 unfold BD at hpair
 simp only[Bool.and_eq_true,bne_iff_ne,ne_eq]at hpair
 refine⟨fun i hi=> ?_,fun k hk=> ?_,fun k d hk hd hin=> ?_,fun j hj e he hb=> ?_,fun j i hj hi hpre=> ?_,fun i j hij hj=> ?_,fun i j hij hj=> ?_,fun i j hij hj=> ?_,fun i j d hij hj hd=> ?_,fun i j d hij hj hd hin=> ?_⟩
 ·have:=h1 i (List.mem_range.2 hi)
  rw[List.any_eq_true]at this
  obtain⟨q,hq,h⟩:=this
  obtain⟨k,hk,rfl⟩:=List.getElem_of_mem hq
  exact⟨k,hk,by simpa[ixP,List.getD,hk]using h⟩
 ·have:=h2 _ (hmem k hk)
  exact of_decide_eq_true this
 ·have:=h2' _ (hmem k hk)
  unfold opP opI ixP at hd hin
  rw[hd]at this
  simp only[Array.getD_eq_getD_getElem?,List.getD_eq_getElem?_getD]at hin this
  simp[List.contains_eq_mem,hin]at this
 ·have:=h3 j (List.mem_range.2 hj)
  rw[Array.all_eq_true']at this
  have:=this e he
  simpa[hb]using this
 ·unfold tx at h4
  rw[List.all_eq_true]at h4
  have:=h4 j (List.mem_range.2 hj)
  rw[List.all_eq_true]at this
  have:=this i (List.mem_range.2 hi)
  rw[hpre]at this
  simp only[Bool.not_true,Bool.false_or]at this
  rw[Option.any_eq_true]at this
  obtain⟨o,ho,h6⟩:=this
  rw[Array.any_eq_true']at h6
  obtain⟨e,he,h7⟩:=h6
  simp only[Bool.and_eq_true,decide_eq_true_eq,Bool.or_eq_true,beq_iff_eq]at h7
  refine⟨e,?_,h7.1.1,h7.2⟩
  have:opI all j=o:=by simp[opI,Array.getD_eq_getD_getElem?,ho]
  rw[this]
  exact he
 ·exact(hpair i j hij hj).1.1.1.1
 ·have:=(hpair i j hij hj).1.1.1.2
  rw[Bool.or_eq_true]at this
  exact this.imp uQ fun h=> .inr (hpre _ _ h)
 ·have:=(hpair i j hij hj).1.1.2
  rw[Bool.or_eq_true,Bool.or_eq_true,Bool.or_eq_true]at this
  rcases this with((h | h) | h) | h
  ·exact .inl (uQ h)
  ·exact .inr (.inl (by rw[Bool.not_eq_true']at h;exact h))
  ·exact .inr (.inr (.inl (hpre _ _ h)))
  ·exact .inr (.inr (.inr (List.contains_iff_mem.1 h)))
 ·have:=(hpair i j hij hj).1.2
  unfold opP opI ixP at hd ⊢
  rw[hd]at this
  simpa[List.contains_eq_mem]using this
 ·have:=(hpair i j hij hj).2
  unfold opP opI ixP at hd hin
  rw[hd]at this
  rw[Bool.or_eq_true]at this
  rcases this with h | h
  ·simp only[Array.getD_eq_getD_getElem?,List.getD_eq_getElem?_getD]at hin h
   simp[List.contains_eq_mem,hin]at h
  ·exact hpre _ _ h
theorem kG.mono {all:Array Oper} {E E':Nat→Nat→Prop} (hE:∀ i j,E' i j→E i j) {li:Array Bool} {L:List Nat} (ho:kG all E li L):kG all E' li L:=by
 induction ho with
 | nil li h=>exact .nil _ h
 | cons li i L h1 h2 h3 h4 _ ih=>exact .cons _ _ _ h1 h2 h3 (fun j hj=>h4 j (hE _ _ hj)) ih
theorem kt {o:Oper} (h:gi o=true):∃ ty a v,o.op= .store ty a v∧o.guard=none∧o.dst=none:=by
 unfold gi at h
 split at h
 ·rename_i ty a v h1 h2 h3
  exact⟨ty,a,v,h1,h2,h3⟩
 ·cases h
theorem yL {x:Oper} {ck:List Oper} {t1:List AV} {h1:AH} (hx:gi x=true) (hs:rq P po f all (x,ck) t h t1 h1):∃ ty a v,x.op= .store ty a v∧szA P ty≠0∧aZ (szA P ty) h (evA t a) (evA t v)=some h1∧t1=t∧pQ P all t h1 ck:=by
 obtain⟨ty,a,v,o1,o2,o3⟩:=kt hx
 rcases hs with⟨s1,_⟩ | ⟨_,u,s2,s3,s4⟩
 ·simp[bB,o2]at s1
 ·have e:t1=t:=by rw[s3,o3];rfl
  subst e
  refine⟨ty,a,v,o1,?_⟩
  rcases s2 with⟨_,s2⟩ | ⟨g,args,fn,c1,_⟩
  ·simp only[be,o1]at s2
   split at s2
   ·cases s2
   ·rename_i hz
    simp only[Option.map_eq_some_iff,Prod.mk.injEq]at s2
    obtain⟨h2,s5,_,rfl⟩:=s2
    exact⟨hz,s5,rfl,s4⟩
  ·simp[aT,o1]at c1
theorem sw {x:Oper} {ty:TypeId} {a v:Operand} {h1:AH} (hx:gi x=true) (o1:x.op= .store ty a v) (hz:szA P ty≠0) (s:aZ (szA P ty) h (evA t a) (evA t v)=some h1):rq P po f all (x,[]) t h t h1:=by
 obtain⟨ty',a',v',o1',o2,o3⟩:=kt hx
 refine .inr ⟨by simp[bB,o2],.junk,.inl ⟨by simp[aT,o1],?_⟩,by rw[o3];rfl,trivial⟩
 simp only[be,o1]
 rw[if_neg hz,s]
 rfl
theorem wS {x:Oper} {v:AV} (hx:gi x=true) (hs:ug P all x t h v h'):False:=by
 obtain⟨ty,a,u,o1,o2,o3⟩:=kt hx
 obtain⟨_,⟨c,_⟩ | ⟨g,args,fn,c,_⟩⟩:=hs
 ·simp[mz,o1]at c
 ·simp[aT,o1]at c
theorem Ab {x y:Oper} (hx:gi x=true) (hy:gi y=true):∀ {pre:List (Oper×List Oper)} {t:List AV} {h:AH} {e:Option AV} {t':List AV} {h':AH},nU P po f all (pre++[(x,[]),(y,[x])]) t h e t' h'→
  nU P po f all (pre++[(x,[]),(y,[])]) t h e t' h'∧nU P po f all (pre++[(y,[]),(x,[])]) t h e t' h'
 | [],t,h,e,t',h',hp=>by
   cases hp with
   | stop _ _ _ _ _ _ hs=>exact(wS hx hs).elim
   | step _ _ _ _ t1 h1 _ _ _ hs hp=>
     obtain⟨ty,a,v,o1,z1,s1,rfl,_⟩:=yL hx hs
     cases hp with
     | stop _ _ _ _ _ _ hs=>exact(wS hy hs).elim
     | step _ _ _ _ t2 h2 _ _ _ hs2 hp=>
       obtain⟨ty',a',v',o1',z1',s2,rfl,ck⟩:=yL hy hs2
       cases hp with
       | nil=>
         obtain⟨_,_,_,_,g2,g3⟩:=kt hx
         have hck:=ck.1
         simp only[bB,g2,o1,g3]at hck
         obtain⟨h1',w1,w2⟩:=He z1 s1 s2 hck
         exact⟨.step _ _ _ _ _ _ _ _ _ (sw hx o1 z1 s1) (.step _ _ _ _ _ _ _ _ _ (sw hy o1' z1' s2) (.nil _ _)),.step _ _ _ _ _ _ _ _ _ (sw hy o1' z1' w1) (.step _ _ _ _ _ _ _ _ _ (sw hx o1 z1 w2) (.nil _ _))⟩
 | q::pre,t,h,e,t',h',hp=>by
   cases hp with
   | stop _ _ _ _ _ _ hs=>exact⟨.stop _ _ _ _ _ _ hs,.stop _ _ _ _ _ _ hs⟩
   | step _ _ _ _ t1 h1 _ _ _ hs hp=>
     obtain⟨a,b⟩:=Ab hx hy hp
     exact⟨.step _ _ _ _ _ _ _ _ _ hs a,.step _ _ _ _ _ _ _ _ _ hs b⟩
theorem Bq {Z:TypeId→Bool} {pl:List (Nat×List Nat)} (hp:CH Z all pl=true):∃ r y,pl=r++[(y,[])]∧y+1=all.size∧(∀ i,i<y→kw (Region.before all) i y=true)∧vG y Z all r=true:=by
 unfold CH at hp
 split at hp
 ·rename_i y r e
  simp only[Bool.and_eq_true,beq_iff_eq]at hp
  obtain⟨⟨h1,h2⟩,h3⟩:=hp
  rw[List.all_eq_true]at h2
  refine⟨r.reverse,y,?_,h1,fun i hi=>h2 i (List.mem_range.2 hi),h3⟩
  have:=congrArg List.reverse e
  simpa using this
 ·cases hp
theorem CT {pl:List (Nat×List Nat)} (hp:CQ all pl=true):∃ r x y,pl=r++[(x,[]),(y,[x])]∧x≠y∧gi (opI all x)=true∧gi (opI all y)=true∧
  pu all (r++[(x,[]),(y,[])]) (fun _=>false) (fun i j=>(i,j)∈[(x,y)])∧pu all (r++[(y,[]),(x,[])]) (fun _=>false) (fun i j=>(i,j)∈[(y,x)]):=by
 unfold CQ at hp
 split at hp
 ·rename_i y x' x r hr
  simp only[Bool.and_eq_true,beq_iff_eq,bne_iff_ne,ne_eq]at hp
  obtain⟨⟨⟨⟨⟨rfl,h2⟩,h3⟩,h4⟩,h5⟩,h6⟩:=hp
  refine⟨r.reverse,x',y,?_,h2,h3,h4,kF h5,kF h6⟩
  have:=congrArg List.reverse hr
  rw[List.reverse_reverse]at this
  rw[this]
  simp
 ·cases hp
end
section
variable {P:Program} {m m':Mm} {h h':AH} {w w':World}
theorem ab.refl (h:AH):ab h h:=⟨Nat.le_refl _,Nat.le_refl _,fun _ _=>rfl,fun _ _=>rfl⟩
theorem ab.trans {h1 h2 h3:AH} (a:ab h1 h2) (b:ab h2 h3):ab h1 h3:=
 ⟨Nat.le_trans a.n b.n,Nat.le_trans a.ids b.ids,fun k hk=>(b.cell k (Nat.lt_of_lt_of_le hk a.n)).trans (a.cell k hk),fun k hk=>(b.hw k (Nat.lt_of_lt_of_le hk a.ids)).trans (a.hw k hk)⟩
theorem ab.push (h:AH) (es:List (List AV)):ab h (h.push es):=⟨by simp[AH.push],by simp[AH.push],fun b hb=>by simp[AH.push,show b≠h.n by omega],fun _ _=>rfl⟩
theorem ab.fresh (h:AH) (n:Nat):ab h (h.fresh n):=⟨by simp[AH.fresh],by simp[AH.fresh],fun b hb=>rfl,fun k hk=>by simp[AH.fresh,show k≠h.ids by omega]⟩
theorem ab.grow {h0 h:AH} (g:ab h0 h) {id n:Nat} (hi:h0.ids≤id):ab h0 (h.grow id n):=⟨g.n,g.ids,g.cell,fun k hk=>by simpa[AH.grow,show k≠id by omega]using g.hw k hk⟩
theorem ab.set {h0 h:AH} (g:ab h0 h) {b:Nat} {es:Option (List (List AV))} (hb:h0.n≤b):ab h0 (h.set b es):=⟨g.n,g.ids,fun k hk=>by simpa[AH.set,show k≠b by omega]using g.cell k hk,g.hw⟩
theorem VR.back (x:Ext m h m' h') (g:ab h h') {v:AV} {u:Value} (r:VR P m' h' v u):∀ {u0:Value},VR P m h v u0→VR P m' h v u:=by
 induction r with
 | junk v=>intro _ _;exact .junk v
 | bool b=>intro _ _;exact .bool b
 | int k n=>intro _ _;exact .int k n
 | str l=>intro _ _;exact .str l
 | nilp=>intro _ _;exact .nilp
 | ptr b i off hb=>
   intro u0 r0
   cases r0 with
   | ptr _ _ _ hb0=>exact .ptr b i off hb0
 | tptr t b hb ht=>
   intro u0 r0
   cases r0 with
   | tptr _ _ hb0 _=>exact .tptr t b hb0 ht
 | ip e off g o F hi hv ih=>
   intro u0 r0
   cases r0 with
   | ip _ _ g0 o0 F0 hi0 hv0=>exact .ip e off g o F hi (fun j hj=>ih j hj (hv0 j hj))
 | nils=>intro _ _;exact .nils
 | isl id e es gg o cap F hl hi hv hc ht ih=>
   intro u0 r0
   cases r0 with
   | isl _ _ _ g0 o0 cap0 F0 hl0 hi0 hv0 hc0 ht0=>
     refine .isl id e es gg o cap F hl hi (fun i hi' j hj=>ih i hi' j hj (hv0 i hi' j hj)) hc (fun k hk=> ?_)
     obtain⟨a1,a2,a3,a4⟩:=ht k hk
     obtain⟨b1,b2,b3,b4⟩:=ht0 k hk
     have:=g.hw k b1
     exact⟨b1,a2,b3,fun e'=>a4 (by omega)⟩
   | isl0 _ _ _=>exact .isl none e [] gg o cap F (by simp) (fun i hi=>absurd hi (Nat.not_lt_zero _)) (fun i hi=>absurd hi (Nat.not_lt_zero _)) hc (fun k hk=>by cases hk)
 | isl0 e a cap=>intro _ _;exact .isl0 e a cap
 | msl b o n e cap hb he hcap hn hmx=>
   intro u0 r0
   cases r0 with
   | msl _ _ _ _ _ hb0 _ _ _ _=>exact .msl b o n e cap hb0 he hcap hn hmx
 | fn g l c l' c' h1 h2 h3 h4 ih1 ih2=>
   intro u0 r0
   cases r0 with
   | fn _ _ _ l0 c0 a1 a2 a3 a4=>exact .fn g l c l' c' h1 h2 (fun j hj hj'=>ih1 j hj hj' (a3 j hj (by omega))) (fun j hj hj'=>ih2 j hj hj' (a4 j hj (by omega)))
 | nilf=>intro _ _;exact .nilf
 | nili=>intro _ _;exact .nili
 | iface t v v' h1 ih=>
   intro u0 r0
   cases r0 with
   | iface _ _ _ a1=>exact .iface t v v' (ih a1)
 | agg l l' h1 h3 ih=>
   intro u0 r0
   cases r0 with
   | agg _ l0 a1 a3=>exact .agg l l' h1 (fun j hj hj'=>ih j hj hj' (a3 j hj (by omega)))
 | tup l l' h1 h3 ih=>
   intro u0 r0
   cases r0 with
   | tup _ l0 a1 a3=>exact .tup l l' h1 (fun j hj hj'=>ih j hj hj' (a3 j hj (by omega)))
theorem WR.back (hw:WR P m h w) (x:Ext m h m' h') (g:ab h h') (hw':WR P m' h' w'):Ext m h m' h∧WR P m' h w':=by
 refine⟨⟨x.base,Nat.le_refl _,Nat.le_refl _,x.blk,x.imm,fun k hk=> ?_,x.jk⟩,?_⟩
 ·obtain⟨a1,a2,a3⟩:=x.te k hk
  exact⟨a1,Nat.le_refl _,fun _=>a3 (g.hw k hk)⟩
 have up:∀ b es,h.cell b=some es→h'.cell b=some es:=fun b es hb=>by rw[g.cell b (hw.lt b es hb).1];exact hb
 refine⟨hw'.size,fun b es hb=>⟨(hw.lt b es hb).1,(hw'.lt b es (up b es hb)).2⟩,fun b es hb=> ?_,fun b b' es es' hb hb'=>hw'.inj b b' es es' (up _ _ hb) (up _ _ hb'),hw'.imm,fun b es hb=>hw'.sep b es (up _ _ hb),fun k hk=> ?_,fun k hk=> ?_,fun k hk b es hb=> ?_,fun k k' hk hk'=> ?_,hw'.good,fun g' y hj=> ?_⟩
 ·obtain⟨cs,h1,h2,h3,h4,h5⟩:=hw'.live b es (up _ _ hb)
  obtain⟨cs0,_,_,_,_,k5⟩:=hw.live b es hb
  refine⟨cs,h1,h2,h3,h4,fun i hi j hj=> ?_⟩
  obtain⟨v,h6,h7⟩:=h5 i hi j hj
  obtain⟨v0,_,k7⟩:=k5 i hi j hj
  exact⟨v,h6,h7.back x g k7⟩
 ·have:=hw'.tip k (Nat.lt_of_lt_of_le hk g.ids)
  rwa [g.hw k hk]at this
 ·have:=hw'.tfree k (Nat.lt_of_lt_of_le hk g.ids)
  rwa [g.hw k hk]at this
 ·exact hw'.tblk k (Nat.lt_of_lt_of_le hk g.ids) b es (up _ _ hb)
 ·exact hw'.tinj k k' (Nat.lt_of_lt_of_le hk g.ids) (Nat.lt_of_lt_of_le hk' g.ids)
 ·obtain⟨a1,a2,a3,a4,a5⟩:=hw'.jk g' y hj
  exact⟨a1,a2,fun b es hb=>a3 b es (up _ _ hb),fun k hk=>a4 k (Nat.lt_of_lt_of_le hk g.ids),a5⟩
theorem nW:∀ {l l2:List AV},wkL l=some l2→l2.length=l.length∧∀ j (hj:j<l.length) (hj2:j<l2.length),wkA l[j]=some l2[j]
 | [],l2,he=>by simp[wkL]at he;subst he;exact⟨rfl,fun j hj=>by simp at hj⟩
 | v::l,l2,he=>by
   simp only[wkL]at he
   split at he
   ·rename_i v' l' h1 h2
    injection he with he
    subst he
    obtain⟨a1,a2⟩:=nW h2
    refine⟨by simp[a1],fun j hj hj2=> ?_⟩
    cases j with
    | zero=>exact h1
    | succ j=>exact a2 j (by simpa using hj) (by simpa using hj2)
   ·cases he
theorem DP:∀ {l l2:List (List AV)},wkR l=some l2→l2.length=l.length∧∀ j (hj:j<l.length) (hj2:j<l2.length),wkL l[j]=some l2[j]
 | [],l2,he=>by simp[wkR]at he;subst he;exact⟨rfl,fun j hj=>by simp at hj⟩
 | v::l,l2,he=>by
   simp only[wkR]at he
   split at he
   ·rename_i v' l' h1 h2
    injection he with he
    subst he
    obtain⟨a1,a2⟩:=DP h2
    refine⟨by simp[a1],fun j hj hj2=> ?_⟩
    cases j with
    | zero=>exact h1
    | succ j=>exact a2 j (by simpa using hj) (by simpa using hj2)
   ·cases he
theorem VR.weak {h0:AH} {v:AV} {u:Value} (r:VR P m h v u):∀ {v2:AV},wkA v=some v2→VR P m h0 v2 u:=by
 induction r with
 | junk v=>intro v2 he;simp[wkA]at he;subst he;exact .junk v
 | bool b=>intro v2 he;simp[wkA]at he;subst he;exact .bool b
 | int k n=>intro v2 he;simp[wkA]at he;subst he;exact .int k n
 | str l=>intro v2 he;simp[wkA]at he;subst he;exact .str l
 | nilp=>intro v2 he;simp[wkA]at he;subst he;exact .nilp
 | ptr b i off hb=>intro v2 he;simp[wkA]at he
 | tptr t b hb ht=>intro v2 he;simp[wkA]at he
 | ip e off g o F hi hv ih=>intro v2 he;simp[wkA]at he
 | nils=>intro v2 he;simp[wkA]at he;subst he;exact .nils
 | isl id e es gg o cap F hl hi hv hc ht ih=>
   intro v2 he
   simp only[wkA]at he
   obtain⟨es2,h1,rfl⟩:=Option.map_eq_some_iff.1 he
   obtain⟨a1,a2⟩:=DP h1
   have hrow:∀ i (hi:i<es.length) (hi2:i<es2.length),es2[i].length=es[i].length:=fun i hi hi2=>(nW (a2 i hi hi2)).1
   have:es2.length=es.length:=a1
   rw[←this]
   refine .isl none e es2 gg o cap F (fun r hr=> ?_) (fun i hi' j hj=>hi i (by omega) j hj) (fun i hi' j hj=> ?_) (by omega) (fun k hk=>by cases hk)
   ·obtain⟨i,hi2,rfl⟩:=List.getElem_of_mem hr
    rw[hrow i (by omega) hi2]
    exact hl _ (List.getElem_mem _)
   ·have hi0:i<es.length:=by omega
    have hj0:j<es[i].length:=by rw[←hrow i hi0 hi'];exact hj
    exact ih i hi0 j hj0 ((nW (a2 i hi0 hi')).2 j hj0 hj)
 | isl0 e a cap=>intro v2 he;simp[wkA,wkR]at he;subst he;exact .isl0 e a cap
 | msl b o n e cap hb he hcap hn hmx=>intro v2 he;simp[wkA]at he
 | fn g l c l' c' h1 h2 h3 h4 ih1 ih2=>intro v2 he;simp[wkA]at he
 | nilf=>intro v2 he;simp[wkA]at he;subst he;exact .nilf
 | nili=>intro v2 he;simp[wkA]at he;subst he;exact .nili
 | iface t v v' h1 ih=>
   intro v2 he
   simp only[wkA]at he
   obtain⟨v3,h1,rfl⟩:=Option.map_eq_some_iff.1 he
   exact .iface t v3 v' (ih h1)
 | agg l l' h1 h3 ih=>
   intro v2 he
   simp only[wkA]at he
   obtain⟨l2,h2,rfl⟩:=Option.map_eq_some_iff.1 he
   obtain⟨a1,a2⟩:=nW h2
   exact .agg l2 l' (by omega) (fun j hj hj'=>ih j (by omega) hj' (a2 j (by omega) hj))
 | tup l l' h1 h3 ih=>
   intro v2 he
   simp only[wkA]at he
   obtain⟨l2,h2,rfl⟩:=Option.map_eq_some_iff.1 he
   obtain⟨a1,a2⟩:=nW h2
   exact .tup l2 l' (by omega) (fun j hj hj'=>ih j (by omega) hj' (a2 j (by omega) hj))
theorem AC.forget {g:FuncId} {args:List AV} {p:Bool} {q q':(AV ⊕ AV)×AH} (hac:AC P g args h q) (hq:fgA p h q=some q'):AC P g args h q':=by
 unfold fgA at hq
 split at hq
 ·split at hq
  ·rename_i hg
   obtain⟨x,h2⟩:=q
   intro m w vs hw hv
   refine(hac m w vs hw hv).mono fun e w' ⟨m',x1,x2,x3,x4⟩=> ?_
   obtain⟨y1,y2⟩:=hw.back x1 hg x2
   cases x with
   | inl v=>
     obtain⟨v2,e1,rfl⟩:=Option.map_eq_some_iff.1 hq
     obtain⟨u,e2,e3⟩:=x4
     exact⟨m',y1,y2,x3,u,e2,e3.weak e1⟩
   | inr v=>
     obtain⟨v2,e1,rfl⟩:=Option.map_eq_some_iff.1 hq
     obtain⟨u,e2,e3⟩:=x4
     exact⟨m',y1,y2,x3,u,e2,e3.weak e1⟩
  ·cases hq
 ·injection hq with hq
  subst hq
  exact hac
end
open Go Go.RowKit
inductive KR (pl:Nat→List (Nat×List Nat)) (S:Nat→Bool):List cX→List Item→Prop
 | nil:KR pl S [] []
 | code (c:Code) (k:List cX) (K:List Item):dP pl S c=true→KR pl S k K→KR pl S (.code c::k) (.code c::K)
 | inBlock (id:Nat) (k:List cX) (K:List Item):KR pl S k K→KR pl S (.inBlock id::k) (.inBlock id::K)
 | inLoop (c:Code) (k:List cX) (K:List Item):dP pl S c=true→KR pl S k K→KR pl S (.inLoop c::k) (.inLoop c::K)
 | halt (K:List Item) (k:List cX):KR pl S (.halt K::k) K
def Ez (P:Program) (po:Pol) (f:FuncId) (k:List cX) (t:List AV) (h:AH) (r:AEx×List AV×AH):Prop:=
 ∀ K,KR (po.plan f) (po.kp f) k K→∀ (b:Frame) (cs:List Frame) (m:Mm) (w:World) (a:Act),WR P m h w→TR P m h t a.tmps→a.defers=b.defers→bV P (po.kp f) m h w b cs (lone (b.at a K) cs w) r
def mC (P:Program) (po:Pol) (f:FuncId):List cX→List AV→AH→AEx×List AV×AH→Prop
 | .ops true all l::k,t,h,r=>∃ e t' h',nU P po f all l t h e t' h'∧(match e with | none=>Ez P po f k t' h' r | some v=>r=(.panic v,t',h'))
 | .ops false all l::k,t,h,r=>∀ is:List Nat,l=is.map (fun i=>(opI all i,[]))→(∀ i∈is,i<all.size)→∀ K,KR (po.plan f) (po.kp f) k K→
   ∀ (b:Frame) (cs:List Frame) (m:Mm) (w:World) (a:Act),WR P m h w→TR P m h t a.tmps→a.defers=b.defers→bV P (po.kp f) m h w b cs (lone (b.at a (.inRegion all is::K)) cs w) r
 | k,t,h,r=>Ez P po f k t h r
section
variable {P:Program} {po:Pol} {f:FuncId} {k:List cX} {t:List AV} {h h':AH} {r:AEx×List AV×AH}
theorem mC.good (hm:mC P po f k t h r):Ez P po f k t h r:=by
 rcases k with _ | ⟨x,k⟩
 ·exact hm
 ·cases x with
  | ops d all l=>intro K hK;cases hK
  | _=>exact hm
theorem IK {pl:Nat→List (Nat×List Nat)} {S:Nat→Bool} {id:Nat}:∀ {k k':List cX} {K:List Item},KR pl S k K→iU id k=some k'→∃ K',exitTo id K=some K'∧KR pl S k' K':=by
 intro k k' K hk
 induction hk with
 | nil=>intro he;simp[iU]at he
 | code c k K _ _ ih=>intro he;simp only[iU]at he;simpa[exitTo]using ih he
 | inBlock i k K hk ih=>
   intro he
   simp only[iU]at he
   by_cases hi:i=id
   ·rw[if_pos hi]at he
    injection he with he
    subst he
    exact⟨K,by simp[exitTo,hi],hk⟩
   ·rw[if_neg hi]at he
    simpa[exitTo,hi]using ih he
 | inLoop c k K _ _ ih=>intro he;simp only[iU]at he;simpa[exitTo]using ih he
 | halt K k=>intro he;simp[iU]at he
theorem pC (pok:POK P po) {o:Oper} {v:AV} {m:Mm} {w:World} {a:Act} {b:Frame} {cs:List Frame} {K:List Item} {all:Array Oper} {i:Nat} {rest:List Nat} (ho:all[i]? =some o) (hwa:bB all t o=some true)
  (hw:WR P m h w) (ht:TR P m h t a.tmps) (hf:OpF P po f t h o v h'):
  ∃ m' w' u,Ext m h m' h'∧WR P m' h' w'∧VR P m' h' v u∧Below m.base w w'∧Steps P (lone (b.at a (.inRegion all (i::rest)::K)) cs w) (lone (b.at (a.put o.dst u) (.inRegion all rest::K)) cs w'):=by
 have hwt:=ez ht all o hwa
 rcases hf with⟨_,h2⟩ | ⟨g,args,fn,c1,c2,c3,c4⟩
 ·obtain⟨m',w',u,d1,d2,d3,d4,d5⟩:=su pok.ty hw ht (po.mu f) h2
  exact⟨m',w',u,d2,d3,d4,d5,qQ ho hwt d1⟩
 ·obtain⟨vs,v1,v2⟩:=jZ (w:=w) ht c1 c2 c3.2 c3.1
  obtain⟨e,w',hR,hst⟩:=mE (b:=b) (cs:=cs) (k:=K) (rest:=rest) ho hwt v2 (c4 m w vs hw v1) (by rintro w' ⟨m',_,_,_,u',h,_⟩;cases h)
  obtain⟨m',x1,x2,x3,u',x4,x5⟩:=hR
  subst x4
  rcases hst with⟨v',h3,h4⟩ | ⟨ch,h3,_⟩
  ·injection h3 with h3
   subst h3
   exact⟨m',w',u',x1,x2,x5,x3,h4⟩
  ·cases h3
theorem uo {S:Nat→Bool} (pok:POK P po) {o:Oper} {v:AV} {m:Mm} {w:World} {a:Act} {b:Frame} {cs:List Frame} {K:List Item} {all:Array Oper} {i:Nat} {rest:List Nat} (ho:all[i]? =some o)
  (hw:WR P m h w) (ht:TR P m h t a.tmps) (hd:a.defers=b.defers) (hf:ug P all o t h v h'):bV P S m h w b cs (lone (b.at a (.inRegion all (i::rest)::K)) cs w) (.panic v,t,h'):=by
 obtain⟨hwa,⟨c1,c2⟩ | ⟨g,args,fn,c1,c2,c3,c4⟩⟩:=hf
 ·have hwt:=ez ht all o hwa
  obtain⟨u',x1,x2⟩:=zY (w:=w) ht c1
  subst c2
  exact⟨m,w,Ext.refl _ _,hw,Below.refl _ _,a,_,u',⟨t,ht,fun _ _=>rfl⟩,hd,x1,EV ho hwt x2⟩
 have hwt:=ez ht all o hwa
 obtain⟨vs,v1,v2⟩:=jZ (w:=w) ht c1 c2 c3.2 c3.1
 obtain⟨e,w',hR,hst⟩:=mE (b:=b) (cs:=cs) (k:=K) (rest:=rest) ho hwt v2 (c4 m w vs hw v1) (by rintro w' ⟨m',_,_,_,u',h,_⟩;cases h)
 obtain⟨m',x1,x2,x3,u',x4,x5⟩:=hR
 subst x4
 rcases hst with⟨v',h3,_⟩ | ⟨ch,h3,todo,h4⟩
 ·cases h3
 ·injection h3 with h3
  subst h3
  exact⟨m',w',x1,x2,x3,a,todo,u',⟨t,ht.ext x1,fun _ _=>rfl⟩,hd,x5,h4⟩
theorem tJ (pok:POK P po) {g:FuncId} {fn:Func} {c:Code} {args:List AV} (hf:P.funcs[g]? =some fn) (hb:fn.body=some c) (huse:po.use g=true) (hg:Ez P po g [.code c] (args++η (fn.ntmps - args.length) .junk) h r):
  ∀ q,Ma P fn r=some q→AC P g args h q:=by
 have key:∀ (m:Mm) (w:World) (vs:List Value),WR P m h w→VRs P m h args vs→∀ cs,∃ b:Frame,b.fn=g∧b.kind= .normal∧b.defers=[]∧bV P (po.kp g) m h w b cs (lone (Frame.enter P g vs.toArray .normal) cs w) r:=by
  intro m w vs hw hv cs
  refine⟨Frame.enter P g vs.toArray .normal,rfl,rfl,rfl,?_⟩
  have:=hg [.code c] (.code c _ _ (pok.plan g fn c hf hb huse) .nil) (Frame.enter P g vs.toArray .normal) cs m w {tmps:=(vs++η (fn.ntmps - vs.length) undef).toArray,defers:=[]} hw ?_ rfl
  ·have e:(Frame.enter P g vs.toArray .normal).at {tmps:=(vs++η (fn.ntmps - vs.length) undef).toArray,defers:=[]} [.code c]=Frame.enter P g vs.toArray .normal:=by
    simp[Frame.enter,Frame.at,hf,hb]
   rwa [e]at this
  ·have hl:=hv.1
   have h2:VRs P m h (args++η (fn.ntmps - args.length) .junk) (vs++η (fn.ntmps - vs.length) undef):=by
    rw[hl]
    exact VRs.append hv ⟨by simp,fun j hj hj'=>by simp only[List.getElem_replicate];exact .junk _⟩
   refine⟨by simpa using h2.1,fun i hi=> ?_⟩
   have hi2:i<(vs++η (fn.ntmps - vs.length) undef).length:=by rw[h2.1];exact hi
   have:=h2.2 i hi hi2
   simp only[Array.getD_eq_getD_getElem?,List.getElem?_toArray,List.getElem?_eq_getElem hi2,Option.getD_some]
   exact this
 obtain⟨x,t',h'⟩:=r
 cases x with
 | ret=>
   intro q hq
   obtain⟨v,hv,rfl⟩:=Option.map_eq_some_iff.1 hq
   intro m w vs hw hvs cs
   obtain⟨b,hb1,hb2,hb3,m',w',h1,h2,h3,a',todo,h4,h5,h6⟩:=key m w vs hw hvs cs
   rw[hb3]at h5
   obtain⟨u,h7,h8⟩:=ja h2 h4 hv
   exact⟨.returned u,w',_,⟨m',h1,h2,h3,u,rfl,h8⟩,h6,hb1,rfl,h5,hb2,fn,by simpa[Frame.at,hb1]using hf,h7⟩
 | halt K=>intro q hq;cases hq
 | panic v=>
   intro q hq
   injection hq with hq
   subst hq
   intro m w vs hw hvs cs
   obtain⟨b,hb1,hb2,hb3,m',w',h1,h2,h3,a',todo,u,_,h4,h5,h6⟩:=key m w vs hw hvs cs
   rw[hb3]at h4
   exact⟨.panicked _,w',_,⟨m',h1,h2,h3,u,rfl,h5⟩,h6,hb1,rfl,h4,fn,by simpa[Frame.at,hb1]using hf⟩
theorem mC.ops_nil {dr:Bool} {all:Array Oper} (hm:mC P po f k t h r):mC P po f (.ops dr all []::k) t h r:=by
 cases dr with
 | true=>exact⟨none,t,h,.nil t h,hm.good⟩
 | false=>
   intro is his hlt K hK b cs m w a hw ht hd
   cases is with
   | cons i is=>simp at his
   | nil=>exact bV.steps (.one step_region_end) (hm.good K hK b cs m w a hw ht hd)
theorem mC.ops_step (pok:POK P po) {dr:Bool} {all:Array Oper} {q:Oper×List Oper} {l:List (Oper×List Oper)} {t1:List AV} {h1:AH} (hs:rq P po f all q t h t1 h1) (hm:mC P po f (.ops dr all l::k) t1 h1 r):mC P po f (.ops dr all (q::l)::k) t h r:=by
 cases dr with
 | true=>
   obtain⟨e,t',h',h2,h3⟩:=hm
   exact⟨e,t',h',.step _ _ _ _ _ _ _ _ _ hs h2,h3⟩
 | false=>
   intro is his hlt K hK b cs m w a hw ht hd
   cases is with
   | nil=>simp at his
   | cons i is=>
     simp only[List.map_cons,List.cons.injEq]at his
     obtain⟨rfl,his⟩:=his
     have ho:=jw (all:=all) (hlt i (by simp))
     rcases hs with⟨s1,rfl,rfl⟩ | ⟨s1,v,s2,rfl,_⟩
     ·exact bV.steps (nC ho (ez ht all _ s1)) (hm is his (fun j hj=>hlt j (by simp[hj])) K hK b cs m w _ hw (ht.put VR.und _) (by rw[Act.put_defers'];exact hd))
     ·obtain⟨m',w',u,d1,d2,d3,d4,d5⟩:=pC (b:=b) (cs:=cs) (K:=K) (rest:=is) pok ho s1 hw ht s2
      exact bV.steps d5 (bV.after d1 d4 (hm is his (fun j hj=>hlt j (by simp[hj])) K hK b cs m' w' _ d2 ((ht.ext d1).put d3 _) (by rw[Act.put_defers'];exact hd)))
theorem mC.ops_stop (pok:POK P po) {dr:Bool} {all:Array Oper} {q:Oper×List Oper} {l:List (Oper×List Oper)} {v:AV} (hs:ug P all q.1 t h v h'):mC P po f (.ops dr all (q::l)::k) t h (.panic v,t,h'):=by
 cases dr with
 | true=>exact⟨some v,t,h',.stop _ _ _ _ _ _ hs,rfl⟩
 | false=>
   intro is his hlt K hK b cs m w a hw ht hd
   cases is with
   | nil=>simp at his
   | cons i is=>
     simp only[List.map_cons,List.cons.injEq]at his
     obtain⟨rfl,his⟩:=his
     exact uo pok (jw (hlt i (by simp))) hw ht hd hs
theorem Fh (pok:POK P po) {id:Nat} {all:Array Oper} {d:Bool} (hm:mC P po f (.ops d all (dO d all (po.plan f id))::k) t h r):Ez P po f (.code (.region id all d)::k) t h r:=by
 intro K hK b cs m w a hw ht hd
 cases hK with
 | code _ _ K hr hK=>
 cases d with
 | false=>
   refine bV.steps (.one step_region) (hm (List.range all.size) ?_ (fun i hi=>List.mem_range.1 hi) K hK b cs m w a hw ht hd)
   simp only[dO,Bool.false_eq_true,if_false]
   apply List.ext_getElem (by simp)
   intro i h1 h2
   have hi:i<all.size:=by simpa using h1
   simp[opI,hi]
 | true=>
   simp only[dP,Bool.not_true,Bool.false_or]at hr
   rw[Bool.and_eq_true]at hr
   obtain⟨hr,hkp⟩:=hr
   rw[Bool.or_eq_true]at hr
   rcases hr with hr | hr
   case inr=>
    obtain⟨r0,y,e0,hy,hpre,p1⟩:=Bq hr
    obtain⟨hpl,pq⟩:=GG (by omega) p1
    obtain⟨e,t',h',hp,he⟩:=hm
    rw[e0]at hp
    have hpa:dO true all (r0++[(y,[])])=dO true all r0++[(opI all y,[])]:=by simp[dO,opI]
    rw[hpa]at hp
    have hylt:y<all.size:=by omega
    have hlast:∀ {t1:List AV} {h1:AH},nU P po f all [(opI all y,[])] t1 h1 e t' h'→∀ (m1:Mm) (w1:World) (a1:Act),WR P m1 h1 w1→TR P m1 h1 t1 a1.tmps→a1.defers=b.defers→bV P (po.kp f) m1 h1 w1 b cs (lone (b.at a1 (.inRegion all [y]::K)) cs w1) r:=by
     intro t1 h1 hp1 m1 w1 a1 q1 q2 q3
     cases hp1 with
     | step _ _ _ _ t2 h2 _ _ _ hs hr2=>
       cases hr2
       have fin:∀ (m2:Mm) (w2:World) (a2:Act),WR P m2 h' w2→TR P m2 h' t' a2.tmps→a2.defers=b.defers→bV P (po.kp f) m2 h' w2 b cs (lone (b.at a2 (.inRegion all []::K)) cs w2) r:=fun m2 w2 a2 z1 z2 z3=>bV.steps (.one step_region_end) (he K hK b cs m2 w2 a2 z1 z2 z3)
       rcases hs with⟨s1,rfl,rfl⟩ | ⟨s1,v,s2,rfl,_⟩
       ·exact bV.steps (nC (jw hylt) (ez q2 all _ s1)) (fin m1 w1 _ q1 (q2.put VR.und _) (by rw[Act.put_defers'];exact q3))
       ·obtain⟨m2,w2,u,d1,d2,d3,d4,d5⟩:=pC (b:=b) (cs:=cs) (K:=K) (rest:=[]) pok (jw hylt) s1 q1 q2 s2
        exact bV.steps d5 (bV.after d1 d4 (fin m2 w2 _ d2 ((q2.ext d1).put d3 _) (by rw[Act.put_defers'];exact q3)))
     | stop _ _ _ _ v _ hs=>
       have he:r=(.panic v,t',h'):=he
       rw[he]
       exact uo pok (jw hylt) q1 q2 q3 hs
    refine bV.steps (.one step_region_draw) (bV.after (Ext.refl _ _) (Below.refl _ _).drew ?_)
    simp only[Region.schedule,pok.mixed,Bool.true_or,if_true,Region.linearise]
    obtain⟨L',eL,oL⟩:=NS pq hpl hy hpre (C3 pq.edges _ _ (mD all) (by simp) (by simp[List.countP_replicate];exact Nat.le_refl _)) (by simp) (ee y) (fun j _ hjl=>by rw[ee]at hjl;cases hjl)
    rw[eL]
    rcases DV hp with⟨t1,h1,x1,x2⟩ | ⟨v,ev,x1⟩
    ·exact zf pok pq hkp x1 (fun _=>hlast x2) (fun v hv=>by cases hv) oL hw.drew ht hd
    ·subst ev
     exact zf pok pq hkp x1 (fun hv=>by cases hv) (fun v2 hv=>by injection hv with hv;rw[←hv];exact he) oL hw.drew ht hd
   rw[Bool.or_eq_true]at hr
   rcases hr with hr | hr
   case inr=>
    obtain⟨pre,x,y,e0,hne,ix,iy,p1,p2⟩:=CT hr
    obtain⟨e,t',h',hp,he⟩:=hm
    rw[e0]at hp
    have hx:x<all.size:=by
     obtain⟨q1,q2⟩:pre.length<(pre++[(x,[]),(y,[])]:List (Nat×List Nat)).length∧ixP (pre++[(x,[]),(y,[])]) pre.length=x:=by simp[ixP]
     rw[←q2]
     exact p1.lt _ q1
    have hpl:∀ a b:Nat×List Nat,dO true all (pre++[a,b])=dO true all pre++[(opI all a.1,a.2.map (opI all)),(opI all b.1,b.2.map (opI all))]:=by
     intro a b
     simp[dO,opI]
    rw[hpl]at hp
    obtain⟨s1,s2⟩:=Ab ix iy hp
    have he1:e=none→∀ (m1:Mm) (w1:World) (a1:Act),WR P m1 h' w1→TR P m1 h' t' a1.tmps→a1.defers=b.defers→bV P (po.kp f) m1 h' w1 b cs (lone (b.at a1 K) cs w1) r:=by
     intro e0
     subst e0
     exact fun m1 w1 a1 q1 q2 q3=>he K hK b cs m1 w1 a1 q1 q2 q3
    have he2:∀ v,e=some v→r=(.panic v,t',h'):=by
     intro v e0
     subst e0
     exact he
    have hall:∀ L,kG all (fun _ _=>False) (mD all) L→bV P (po.kp f) m h w.drew b cs (lone (b.at a (.inRegion all L::K)) cs w.drew) r:=by
     intro L ho
     rcases pN hne hx ho (by simp) (ee x) (ee y)with ho | ho
     ·refine tH pok p1 hkp (by rw[hpl];exact s1) he1 he2 (ho.mono fun i j hj=> ?_) hw.drew ht hd
      simp only[List.mem_singleton,Prod.mk.injEq]at hj
      exact .inr hj
     ·refine tH pok p2 hkp (by rw[hpl];exact s2) he1 he2 (ho.mono fun i j hj=> ?_) hw.drew ht hd
      simp only[List.mem_singleton,Prod.mk.injEq]at hj
      exact .inr hj
    refine bV.steps (.one step_region_draw) (bV.after (Ext.refl _ _) (Below.refl _ _).drew ?_)
    simp only[Region.schedule,pok.mixed,Bool.true_or,if_true,Region.linearise]
    exact hall _ (C3 p1.edges _ _ _ (by simp) (by simp[List.countP_replicate]))
   have pp:=MI hr
   have hS:∀ d,po.kp f d=true→∀ k,k<(po.plan f id).length→(opP all (po.plan f id) k).dst≠some d:=fun d hd k hk e=>by
    have hlt:=pp.lt k hk
    have hm:=List.all_eq_true.1 hkp (opP all (po.plan f id) k) (Array.mem_toList_iff.2 (Array.mem_of_getElem? (jw hlt)))
    rw[e]at hm
    simp[hd]at hm
   obtain⟨e,t',h',hp,he⟩:=hm
   obtain⟨N,ts,hs,h1,h2,h3,h4,h5,h6⟩:=hp.trace
   generalize hpl:po.plan f id=pl at*
   have hlen:(dO true all pl).length=pl.length:=by simp[dO]
   have hget:∀ i,i<pl.length→(dO true all pl)[i]? =some (opP all pl i,(ckP pl i).map (opI all)):=by
    intro i hi
    simp only[dO,if_true,List.getElem?_map,List.getElem?_eq_getElem hi,Option.map_some,Option.some.injEq]
    have e1:pl.getD i default=pl[i]:=by simp[List.getD,hi]
    simp only[opP,opI,ixP,ckP,e1]
    rfl
   have T:Tra P po f all pl (zOf (po.kp f)) (fun _ _=>False) N ts hs:=⟨pp.toQ,by omega,(fun ty h=>pok.kpb f ty h),fun i hi=>h5 i _ hi (hget i (by omega))⟩
   subst h2;subst h3;subst h4
   refine bV.steps (.one step_region_draw) (bV.after (Ext.refl _ _) (Below.refl _ _).drew ?_)
   simp only[Region.schedule,pok.mixed,Bool.true_or,if_true,Region.linearise]
   have hm0:m=m.jkd m.jk:=rfl
   rw[hm0]
   refine EX (S:=po.kp f) (J0:=m.jk) pp.len hS (r:=r) (K:=K) (b:=b) (cs:=cs) pok (fun e h1 he=>pok.kpz f e h1 he) T ?_ ?_ _ (Array.replicate all.size false) 0 (fun _=>0) m a _ (C3 pp.edges _ _ _ (by simp) ?_) ⟨Nat.zero_le _,by simp,fun j hj hjl=> ?_,fun j hj hjl=> ?_,fun j hj hjl=> ?_,fun j hj=>by omega,fun j _ hj hjl=> ?_,fun j j' _ _ hj hj' hjl=> ?_,hw.drew,?_,hd,fun _ _ h=>h⟩
   ·cases e with
    | none=>exact .inl (by omega)
    | some v=>
      obtain⟨q,hq,hst⟩:=h6
      have hN:N<pl.length:=by
       have:=(List.getElem?_eq_some_iff.1 hq).1
       omega
      rw[hget N hN]at hq
      injection hq with hq
      subst hq
      exact .inr ⟨v,h',hN,hst,he⟩
   ·intro hN m1 w1 a1 q1 q2 q3
    cases e with
    | none=>
      obtain⟨_,h6⟩:=h6
      subst h6
      exact he K hK b cs m1 w1 a1 q1 q2 q3
    | some v=>
      obtain⟨q,hq,hst⟩:=h6
      have:=(List.getElem?_eq_some_iff.1 hq).1
      omega
   ·simp[List.countP_replicate]
   ·rw[pp.len]at hj
    simp[Array.getD_eq_getD_getElem?,hj]at hjl
   ·rw[pp.len]at hj
    simp[Array.getD_eq_getD_getElem?,hj]at hjl
   ·have:=pp.lt j hj
    simp[Array.getD_eq_getD_getElem?,this]at hjl
   ·have:=pp.lt j hj
    simp[Array.getD_eq_getD_getElem?,this]at hjl
   ·have:=pp.lt j hj
    simp[Array.getD_eq_getD_getElem?,this]at hjl
   ·have hl:=T.len 0 (Nat.zero_le _)
    refine TR.of (by rw[cr,←hl];exact ht.1) fun d hdl=> ?_
    have hdl':d<(ts 0).length:=by rw[cr]at hdl;omega
    by_cases hrd:iJ all pl (Array.replicate all.size false) 0 d
    ·rw[fF hrd]
     have e3:=T.keep d 0 N (by omega) (fun j _ hj he=>by
      have hjl:j<pl.length:=by omega
      have:=(hrd j hjl he).2
      omega)
     rw[Nat.zero_add]at e3
     rw[e3]
     exact ht.slot hdl'
    ·rw[mG hrd]
     exact .junk _
end
theorem k9 {P:Program} {po:Pol} (pok:POK P po):∀ (f:FuncId) (k:List cX) (t:List AV) (h:AH) (r:AEx×List AV×AH),bC P po f k t h=some r→mC P po f k t h r:=by
 refine bC.partial_correctness P po (mC P po) fun run ih f k t h r hr=> ?_
 split at hr
 ·injection hr with hr
  subst hr
  intro K hK b cs m w a hw ht hd
  cases hK
  exact⟨m,w,Ext.refl _ _,hw,Below.refl _ _,a,[],ht,hd,.one step_end⟩
 ·rename_i id k
  intro K hK b cs m w a hw ht hd
  cases hK with
  | inBlock _ _ K hK=>exact bV.steps (.one step_inBlock) ((ih _ _ _ _ _ hr).good K hK b cs m w a hw ht hd)
 ·rename_i KH k
  injection hr with hr
  subst hr
  intro K hK b cs m w a hw ht hd
  cases hK
  exact⟨m,w,Ext.refl _ _,hw,Below.refl _ _,a,ht,hd,Steps.refl _ _⟩
 ·rename_i c k
  intro K hK b cs m w a hw ht hd
  cases hK with
  | inLoop _ _ K hc hK=>exact bV.steps (.one step_inLoop) ((ih _ _ _ _ _ hr).good _ (.code c _ _ hc (.inLoop c _ _ hc hK)) b cs m w a hw (ht.clear _) hd)
 ·exact(ih _ _ _ _ _ hr).ops_nil
 ·rename_i dr all o ck l k
  split at hr
  ·cases hr
  ·rename_i hwa
   exact mC.ops_step pok (.inl ⟨hwa,rfl,rfl⟩) (ih _ _ _ _ _ hr)
  ·rename_i hwa
   split at hr
   ·rename_i v hpa
    injection hr with hr
    subst hr
    exact mC.ops_stop (q:=(o,ck)) pok ⟨hwa,.inl ⟨hpa,rfl⟩⟩
   split at hr
   ·rename_i g args hca
    split at hr
    ·rename_i F hF
     obtain⟨⟨x,h1⟩,hx,hr⟩:=Option.bind_eq_some_iff.1 hr
     obtain⟨fn,hfn,hbn,hac⟩:=pok.ext g F hF
     cases x with
     | inl v=>
       simp only at hr
       split at hr
       ·rename_i hck
        exact mC.ops_step (q:=(o,ck)) pok (.inr ⟨hwa,v,.inr ⟨g,args,fn,hca,hfn,hbn,hac args h _ hx⟩,rfl,hck⟩) (ih _ _ _ _ _ hr)
       ·cases hr
     | inr v=>
       simp only at hr
       injection hr with hr
       subst hr
       exact mC.ops_stop pok ⟨hwa,.inr ⟨g,args,fn,hca,hfn,hbn,hac args h _ hx⟩⟩
    ·split at hr
     ·cases hr
     ·rename_i fn hfn
      split at hr
      ·cases hr
      ·rename_i c hc
       split at hr
       ·cases hr
       ·rename_i hu
        have huse:po.use g=true:=by simpa using hu
        obtain⟨r1,hx,hr⟩:=Option.bind_eq_some_iff.1 hr
        obtain⟨q1,hq1,hr⟩:=Option.bind_eq_some_iff.1 hr
        obtain⟨⟨x,h1⟩,hq2,hr⟩:=Option.bind_eq_some_iff.1 hr
        have hac:=(tJ pok hfn hc huse (ih _ _ _ _ _ hx).good q1 hq1).forget hq2
        have hok:fn.body.isNone=false∧(fn.name== "runtime.NumGoroutine")=false:=⟨by simp[hc],pok.name g fn hfn huse⟩
        cases x with
        | inl v=>
          simp only at hr
          split at hr
          ·rename_i hck
           exact mC.ops_step (q:=(o,ck)) pok (.inr ⟨hwa,v,.inr ⟨g,args,fn,hca,hfn,hok,hac⟩,rfl,hck⟩) (ih _ _ _ _ _ hr)
          ·cases hr
        | inr v=>
          simp only at hr
          injection hr with hr
          subst hr
          exact mC.ops_stop pok ⟨hwa,.inr ⟨g,args,fn,hca,hfn,hok,hac⟩⟩
   ·rename_i hca
    obtain⟨⟨v,h1⟩,hx,hr⟩:=Option.bind_eq_some_iff.1 hr
    simp only at hr
    split at hr
    ·rename_i hck
     exact mC.ops_step (q:=(o,ck)) pok (.inr ⟨hwa,v,.inl ⟨hca,hx⟩,rfl,hck⟩) (ih _ _ _ _ _ hr)
    ·cases hr
 ·rename_i c k
  split at hr
  ·intro K hK b cs m w a hw ht hd
   cases hK with
   | code _ _ K hc hK=>exact bV.steps (.one step_skip) ((ih _ _ _ _ _ hr).good K hK b cs m w a hw ht hd)
  ·intro K hK b cs m w a hw ht hd
   cases hK with
   | code _ _ K hc hK=>exact bV.steps (.one step_label) ((ih _ _ _ _ _ hr).good K hK b cs m w a hw ht hd)
  ·intro K hK b cs m w a hw ht hd
   cases hK with
   | code _ _ K hc hK=>
     simp only[dP,Bool.and_eq_true]at hc
     exact bV.steps (.one step_seq) ((ih _ _ _ _ _ hr).good _ (.code _ _ _ hc.1 (.code _ _ _ hc.2 hK)) b cs m w a hw ht hd)
  ·rename_i c x y
   split at hr
   ·rename_i bb hev
    intro K hK b cs m w a hw ht hd
    cases hK with
    | code _ _ K hc hK=>
      simp only[dP,Bool.and_eq_true]at hc
      have hv:=aM ht c
      rw[hev]at hv
      have hbool:a.eval c= .bool bb:=by
       revert hv
       generalize a.eval c=q
       intro hv
       cases hv
       rfl
      refine bV.steps (.one (step_cond hbool)) ?_
      cases bb with
      | true=>exact(ih _ _ _ _ _ (by simpa using hr)).good _ (.code _ _ _ hc.1 hK) b cs m w a hw ht hd
      | false=>exact(ih _ _ _ _ _ (by simpa using hr)).good _ (.code _ _ _ hc.2 hK) b cs m w a hw ht hd
   ·cases hr
  ·intro K hK b cs m w a hw ht hd
   cases hK with
   | code _ _ K hc hK=>
     exact bV.steps (.one step_block) ((ih _ _ _ _ _ hr).good _ (.code _ _ _ (by simpa[dP]using hc) (.inBlock _ _ _ hK)) b cs m w a hw ht hd)
  ·intro K hK b cs m w a hw ht hd
   cases hK with
   | code _ _ K hc hK=>
     have hc':=hc
     simp only[dP]at hc'
     exact bV.steps (.one step_loop) ((ih _ _ _ _ _ hr).good _ (.code _ _ _ hc' (.inLoop _ _ _ hc' hK)) b cs m w a hw (ht.clear _) hd)
  ·obtain⟨k',hk',hr⟩:=Option.bind_eq_some_iff.1 hr
   intro K hK b cs m w a hw ht hd
   cases hK with
   | code _ _ K hc hK=>
     obtain⟨K',h1,h2⟩:=IK hK hk'
     exact bV.steps (.one (step_exit h1)) ((ih _ _ _ _ _ hr).good K' h2 b cs m w a hw ht hd)
  ·injection hr with hr
   subst hr
   intro K hK b cs m w a hw ht hd
   cases hK with
   | code _ _ K hc hK=>exact⟨m,w,Ext.refl _ _,hw,Below.refl _ _,a,_,ht,hd,.one step_ret⟩
  ·exact Fh pok (ih _ _ _ _ _ hr)
  ·cases hr
theorem wx {P:Program} {po:Pol} (pok:POK P po) {g:FuncId} {args:List AV} {h:AH} {r:(AV ⊕ AV)×AH} (hr:aj P po g args h=some r):AC P g args h r:=by
 unfold aj at hr
 split at hr
 ·rename_i F hF
  obtain⟨fn,_,_,hac⟩:=pok.ext g F hF
  exact hac args h r hr
 ·split at hr
  ·cases hr
  ·rename_i fn hfn
   split at hr
   ·cases hr
   ·rename_i c hc
    split at hr
    ·cases hr
    ·rename_i hu
     have huse:po.use g=true:=by simpa using hu
     obtain⟨r1,hx,hr⟩:=Option.bind_eq_some_iff.1 hr
     obtain⟨q1,hq1,hr⟩:=Option.bind_eq_some_iff.1 hr
     exact(tJ pok hfn hc huse (k9 pok _ _ _ _ _ hx).good q1 hq1).forget hr
inductive Arg where
 | v (j:Nat)
 | l (i:Nat)
 | c (a:AV)
def arg (V L:List AV):Arg→AV
 | .v j=>V.getD j .junk
 | .l i=>L.getD i .junk
 | .c a=>a
inductive RO where
 | mv (x:Arg)
 | pick (c x y:Arg)
 | build (z:List AV) (pl:List (Nat×Nat)) (parts:List (Nat×Arg))
 | nilc (x:Arg)
 | bin (kd:Kd) (op:BinOp) (x y:Arg)
 | binG (kd:Kd) (ks:Option (List Kd)) (cy:Bool) (op:BinOp) (x y:Arg)
 | un (op:UnOp) (x:Arg)
 | conv (kd:Kd) (x:Arg)
 | mki (t:TypeId) (x:Arg)
 | mkf (g:FuncId) (first captured:List Arg)
 | slc (s:Bool) (e:Option TypeId) (x:Arg) (lo hi:Option Arg)
 | fad (off:Nat) (x:Arg)
 | fld (agg:Bool) (n off:Nat) (x:Arg)
 | ixa (e:Option TypeId) (ar:Option (Nat×Nat)) (x k:Arg)
 | ix (s:Bool) (ar:Option (Nat×Nat×Bool)) (x k:Arg)
 | tas (aS:TypeId) (ok:Bool) (x:Arg)
 | ext (x:Arg) (i:Nat)
 | len (s:Bool) (e:Option TypeId) (x:Arg)
 | alloc (z:List AV)
 | talloc (t:TypeId) (z:List AV)
 | mm (mx:Bool) (x y:Arg)
 | box (n:Nat) (x:Arg)
 | tbox (t:TypeId) (n:Nat) (x:Arg)
 | bsl (mu:Bool) (e:TypeId) (z:List AV) (n len:Nat) (parts:List (Nat×Arg))
 | bsn (e:TypeId) (z:List AV) (n len:Nat) (parts:List (Nat×Arg))
 | load (agg:Bool) (n:Nat) (x:Arg)
 | store (n:Nat) (a x:Arg)
 | mks (e:TypeId) (z:List AV) (l c:Arg)
 | app (mu:Bool) (e:TypeId) (x y:Arg)
 | apps (mu:Bool) (e:TypeId) (x y:Arg)
 | call (f:Arg) (args:List Arg)
 | pan (x:Arg)
inductive RD where
 | l
 | v (j:Nat)
 | n
structure RCk where
 guard:Option (Arg×Bool)
 agg:Bool
 n:Nat
 a:Arg
 d:Arg
inductive RI where
 | i (d:RD) (o:RO)
 | g (a:Arg) (w:Bool) (d:RD) (o:RO)
 | ck (l:List RCk)
inductive RS where
 | ops (l:List RI)
 | cond (a:Arg) (x y:List RS)
 | block (id:Nat) (b:List RS)
 | loop (b:List RS)
 | exit (id:Nat)
 | ret
inductive RK where
 | ss (l:List RS)
 | ops (l:List RI)
 | blk (id:Nat)
 | lp (b:List RS)
 | halt (K:List Item)
inductive nS where
 | v (j:Nat)
 | cell (agg:Bool) (n:Nat) (j:Nat)
def bL (e:Option TypeId) (ar:Option (Nat×Nat)) (x k:AV):Option AV:=
 match x,k with
 | .isl _ el es,.int _ k=>if e=some el∧0≤k then(es[k.toNat]?).map fun e=> .ip e 0 else none
 | .msl b o n el,.int _ k=>if e=some el∧0≤k∧k<n then some (.ptr b (o+k.toNat) 0)else none
 | .ptr b i off,.int _ k=>ar.bind fun q=>if q.2≠0∧0≤k∧k<q.1 then some (.ptr b i (off+k.toNat*q.2))else none
 | .ip e off,.int _ k=>ar.bind fun q=>if q.2≠0∧0≤k∧k<q.1 then some (.ip e (off+k.toNat*q.2))else none
 | _,_=>none
def ixR (s:Bool) (ar:Option (Nat×Nat×Bool)) (x k:AV):Option AV:=
 match x,k with
 | .str l,.int _ k=>if s=true∧0≤k then(l[k.toNat]?).map fun c=> .int .u8 c.toNat else none
 | .agg cs,.int _ k=>ar.bind fun q=>if q.2.1≠0∧0≤k∧k<q.1 then ldA q.2.2 q.2.1 cs (k.toNat*q.2.1)else none
 | _,_=>none
def ew (s:Bool) (e:Option TypeId):AV→Bool
 | .str _=>s
 | .isl _ el _=>e==some el
 | .msl _ _ _ el=>e==some el
 | .nils=>e.isSome
 | _=>false
def DE:AV→Option AV
 | .ptr b i off=>some (.ptr b i off)
 | .tptr t b=>some (.tptr t b)
 | .ip e off=>some (.ip e off)
 | .fn f a c=>some (.fn f a c)
 | .iface q v=>some (.iface q v)
 | _=>none
def XS:Kd→Bool
 | .iface=>true
 | _=>false
def ma (kd:Kd) (ks:Option (List Kd)) (cy:Bool) (op:BinOp) (x y:AV):Option AV:=
 match x,y with
 | .nili,.nili=>if XS kd && cy then(match op with | .eql=>some (.bool true) | .neq=>some (.bool false) | _=>none)else none
 | .agg xs,.agg ys=>ks.bind fun ks=>match op with
   | .eql=>(eJ ks xs ys).map fun b=> .bool b
   | .neq=>(eJ ks xs ys).map fun b=> .bool !b
   | _=>none
 | a,b=>bO kd op a b
def Ro (c x y:AV):Option AV:=match c with
 | .bool v=>some (if v then x else y)
 | _=>none
def Un (t:TypeId) (x:AV):Option AV:=if x.one then some (.iface t x)else match x with
 | .agg cs=>some (.iface t (.agg cs))
 | _=>none
def LL (aS:TypeId) (ok:Bool):AV→Option AV
 | .iface q v=>if q=aS then some (if ok then .tup [v,.bool true]else v)else none
 | _=>none
def XU (x:AV) (i:Nat):Option AV:=match x with
 | .tup vs=>vs[i]?
 | _=>none
def UG (agg:Bool) (n off:Nat):AV→Option AV
 | .agg cs=>ldA agg n cs off
 | _=>none
def Yv (e:TypeId) (z:List AV) (l c:AV) (h:AH):Option (AV×AH):=match l,c with
 | .int _ n,.int _ m=>if 0≤n∧n=m∧n≤100000 then some (.msl h.n 0 n.toNat e,h.push (η n.toNat z))else none
 | _,_=>none
def ci (V L:List AV) (h:AH):RO→Option (AV×AH)
 | .mv x=>some (arg V L x,h)
 | .pick c x y=>(Ro (arg V L c) (arg V L x) (arg V L y)).map fun v=>(v,h)
 | .build z pl parts=>(jX pl z (parts.map fun q=>(q.1,arg V L q.2))).map fun cs=>(.agg cs,h)
 | .nilc x=>(DE (arg V L x)).map fun v=>(v,h)
 | .bin kd op x y=>(bO kd op (arg V L x) (arg V L y)).map fun v=>(v,h)
 | .binG kd ks cy op x y=>(ma kd ks cy op (arg V L x) (arg V L y)).map fun v=>(v,h)
 | .un op x=>(unA op (arg V L x)).map fun v=>(v,h)
 | .conv kd x=>(cvA kd (arg V L x)).map fun v=>(v,h)
 | .mki t x=>(Un t (arg V L x)).map fun v=>(v,h)
 | .mkf g first captured=>some (.fn g (first.map (arg V L)) (captured.map (arg V L)),h)
 | .slc s e x lo hi=>if ew s e (arg V L x)then(mX (arg V L x) (lo.map (arg V L)) (hi.map (arg V L))).map fun v=>(v,h)else none
 | .fad off x=>(aP off (arg V L x)).map fun v=>(v,h)
 | .fld agg n off x=>(UG agg n off (arg V L x)).map fun v=>(v,h)
 | .ixa e ar x k=>(bL e ar (arg V L x) (arg V L k)).map fun v=>(v,h)
 | .ix s ar x k=>(ixR s ar (arg V L x) (arg V L k)).map fun v=>(v,h)
 | .tas aS ok x=>(LL aS ok (arg V L x)).map fun v=>(v,h)
 | .ext x i=>(XU (arg V L x) i).map fun v=>(v,h)
 | .len s e x=>if ew s e (arg V L x)then(eW (arg V L x)).map fun(n:Nat)=>(i64 n,h)else none
 | .alloc z=>some (.ptr h.n 0 0,h.push [z])
 | .talloc t z=>some (.tptr t h.n,h.push [z])
 | .mm mx x y=>(mmA mx (arg V L x) (arg V L y)).map fun v=>(v,h)
 | .box n x=>if(arg V L x).cells.all AV.one∧(arg V L x).cells.length=n then some (.ptr h.n 0 0,h.push [(arg V L x).cells])else none
 | .tbox t n x=>if(arg V L x).cells.all AV.one∧(arg V L x).cells.length=n then some (.tptr t h.n,h.push [(arg V L x).cells])else none
 | .bsl mu e z n len parts=>(jT n (η len z) (parts.map fun q=>(q.1,arg V L q.2))).map fun es=>
    if mu then(.msl h.n 0 len e,h.push es)else(.isl (some h.ids) e es,h.fresh len)
 | .bsn e z n len parts=>(jT n (η len z) (parts.map fun q=>(q.1,arg V L q.2))).map fun es=>(.isl none e es,h)
 | .load agg n x=>(aR agg n h (arg V L x)).map fun v=>(v,h)
 | .store n a x=>(aZ n h (arg V L a) (arg V L x)).map fun h'=>(.junk,h')
 | .mks e z l c=>Yv e z (arg V L l) (arg V L c) h
 | .app mu e x y=>aQ mu e (arg V L x) (arg V L y) h
 | .apps mu e x y=>qW mu e (arg V L x) (arg V L y) h
 | .call _ _=>none
 | .pan _=>none
def qN (V L:List AV) (a:Arg) (w:Bool):Option Bool:=match arg V L a with
 | .bool b=>some (if w then b else !b)
 | .tup _=>some false
 | _=>none
def tP (V L:List AV):Option (Arg×Bool)→Option Bool
 | none=>some true
 | some (a,w)=>qN V L a w
def zC (V L:List AV) (h:AH):List RCk→Prop
 | []=>True
 | q::r=>(match tP V L q.guard with
    | some true=>aR q.agg q.n h (arg V L q.a)=some (arg V L q.d)
    | _=>True)∧zC V L h r
def bp (V L:List AV):RO→Option (FuncId×List AV)
 | .call f args=>match arg V L f with
   | .fn g first captured=>some (g,first++args.map (arg V L)++captured)
   | _=>none
 | _=>none
def Fc (V L:List AV):RO→Option AV
 | .pan x=>match arg V L x with
   | .iface q v=>some (.iface q v)
   | _=>none
 | _=>none
def iP (V:List AV) (v:AV):RD→List AV
 | .v j=>V.set j v
 | _=>V
def jA (L:List AV) (v:AV):RD→List AV
 | .l=>v::L
 | _=>L
def gJ (id:Nat):List RK→Option (List RK)
 | []=>none
 | .blk i::k=>if i=id then some k else gJ id k
 | .halt _::_=>none
 | _::k=>gJ id k
open Classical in
noncomputable def aC (C:FuncId→List AV→AH→Option ((AV ⊕ AV)×AH)) (nv:Nat) (k:List RK) (V L:List AV) (h:AH):Option (AEx×List AV×AH):=
 match k with
 | []=>some (.ret,V,h)
 | .ss []::k=>aC C nv k V L h
 | .ss (s::l)::k=>
   match s with
   | .ops is=>aC C nv (.ops is:: .ss l::k) V [] h
   | .cond a x y=>match arg V [] a with
     | .bool b=>if b then aC C nv (.ss x:: .ss l::k) V [] h else aC C nv (.ss y:: .ss l::k) V [] h
     | _=>none
   | .block id b=>aC C nv (.ss b:: .blk id:: .ss l::k) V L h
   | .loop b=>aC C nv (.lp b:: .ss l::k) V L h
   | .exit id=>gJ id k>>= fun k'=>aC C nv k' V L h
   | .ret=>some (.ret,V,h)
 | .blk _::k=>aC C nv k V L h
 | .halt K::_=>some (.halt K,V,h)
 | .lp b::k=>aC C nv (.ss b:: .lp b::k) (aa nv V) L h
 | .ops []::k=>aC C nv k V [] h
 | .ops (.ck l::is)::k=>if zC V L h l then aC C nv (.ops is::k) V L h else none
 | .ops (.i d o::is)::k=>
  match Fc V L o with
  | some v=>some (.panic v,V,h)
  | none=>
   match bp V L o with
   | some (g,args)=>C g args h>>= fun r=>match r.1 with
     | .inl v=>aC C nv (.ops is::k) (iP V v d) (jA L v d) r.2
     | .inr v=>some (.panic v,V,r.2)
   | none=>ci V L h o>>= fun r=>aC C nv (.ops is::k) (iP V r.1 d) (jA L r.1 d) r.2
 | .ops (.g a w d o::is)::k=>
   match qN V L a w with
   | none=>none
   | some false=>aC C nv (.ops is::k) (iP V (.tup []) d) (jA L (.tup []) d) h
   | some true=>
    match Fc V L o with
    | some v=>some (.panic v,V,h)
    | none=>
     match bp V L o with
     | some (g,args)=>C g args h>>= fun r=>match r.1 with
       | .inl v=>aC C nv (.ops is::k) (iP V v d) (jA L v d) r.2
       | .inr v=>some (.panic v,V,r.2)
     | none=>ci V L h o>>= fun r=>aC C nv (.ops is::k) (iP V r.1 d) (jA L r.1 d) r.2
partial_fixpoint
section
variable (P:Program)
def nQ (l:List Nat) (i:Nat):Option Nat:=go l 0
where go:List Nat→Nat→Option Nat
 | [],_=>none
 | x::l,n=>if x=i then some n else go l (n+1)
def jD (vm lm:List Nat):Operand→Option Arg
 | .tmp i=>match nQ lm i with
   | some k=>some (.l k)
   | none=>(nQ vm i).map .v
 | .const v=>some (.c (qr v))
 | .func f=>some (.c (.fn f [] []))
 | .global _=>none
def qA (vm lm:List Nat):List Operand→Option (List Arg)
 | []=>some []
 | x::l=>(jD vm lm x).bind fun a=>(qA vm lm l).map (a::·)
def Jo (a b:Bool) (e:TypeId) (z:List AV) (n len:Nat) (ps:List (Nat×Arg)):RO:=if a then .bsl true e z n len ps else if b then .bsn e z n len ps else .bsl false e z n len ps
def pJ (vm lm:List Nat):List (Nat×Operand)→Option (List (Nat×Arg))
 | []=>some []
 | x::l=>(jD vm lm x.2).bind fun a=>(pJ vm lm l).map ((x.1,a)::·)
def E7 (vm lm:List Nat):Option Operand→Option (Option Arg)
 | none=>some none
 | some x=>(jD vm lm x).map some
def nw:Kd→Bool
 | .iface | .agg | .other=>false
 | _=>true
def isC:Operand→Bool
 | .const _=>true
 | _=>false
def CE (mu:TypeId→Bool) (vm lm:List Nat) (o:Oper):Option RO:=
 let A:=jD vm lm
 match o.op with
 | .move x=>(A x).map .mv
 | .assign x=>(A x).map .mv
 | .pick c x y=>(A c).bind fun c=>(A x).bind fun x=>(A y).map fun y=> .pick c x y
 | .build ty parts=>(eH P ty).bind fun z=>(pJ vm lm parts.toList).bind fun ps=>match gS P ty with
   | some pl=>if pl.all (fun q=>szA P q.2 != 0)then some (.build z (pl.map fun q=>(q.1,szA P q.2)) ps)else none
   | none=>(ri P ty).bind fun q=>if szA P q.2=0 then none else some (.build z ((List.range q.1).map fun i=>(i*szA P q.2,szA P q.2)) ps)
 | .nilCheck x=>(A x).map .nilc
 | .binOp op ty x y _=>(A x).bind fun x'=>(A y).map fun y'=>if nw (cB P ty)then .bin (cB P ty) op x' y' else .binG (cB P ty) (pS P ty) (isC y) op x' y'
 | .unOp op _ x=>(A x).map (.un op)
 | .convert src dst x=>if(P.underlying src).isNone then none else(A x).map (.conv (cB P dst))
 | .makeInterface ty x=>if nE P ty=false then none else(A x).map (.mki ty)
 | .makeFunc f first captured=>match f with
   | .func g=>(qA vm lm first.toList).bind fun a=>(qA vm lm captured.toList).map fun c=> .mkf g a c
   | _=>none
 | .slice ty x lo hi mx=>if mx.isSome then none else(A x).bind fun x=>(E7 vm lm lo).bind fun lo=>(E7 vm lm hi).map fun hi=> .slc (fZ P ty) (d8 P ty) x lo hi
 | .fieldAddr s x f=>((gS P s).bind (·[f]?)).bind fun q=>if szA P q.2=0 then none else(A x).map (.fad q.1)
 | .field s x f=>((gS P s).bind (·[f]?)).bind fun q=>if szA P q.2=0∨(P.underlying q.2).isNone then none else(A x).map (.fld (iK P q.2) (szA P q.2) q.1)
 | .indexAddr ty x ix=>(A x).bind fun x=>(A ix).map fun k=> .ixa (d8 P ty) ((ri P ty).map fun q=>(q.1,szA P q.2)) x k
 | .index ty x ix=>(A x).bind fun x=>(A ix).map fun k=> .ix (fZ P ty) ((ri P ty).bind fun q=>if(P.underlying q.2).isSome then some (q.1,szA P q.2,iK P q.2)else none) x k
 | .typeAssert x _ aS ok=>if nE P aS=true then(A x).map (.tas aS ok)else none
 | .extract x i=>(A x).map fun x=> .ext x i
 | .call {callee:= .builtin .len,args,argTypes}=>match args.toList,argTypes.toList with
   | [x],ty::_=>(A x).map (.len (fZ P ty) (d8 P ty))
   | _,_=>none
 | .alloc e=>(eH P e).map fun z=>if mu e then .talloc e z else .alloc z
 | .box e x=>(A x).map fun x=>if mu e then .tbox e (szA P e) x else .box (szA P e) x
 | .buildSlice ty len parts=>(d8 P ty).bind fun e=>(eH P e).bind fun z=>if len*szA P e≤16777216 then(pJ vm lm parts.toList).map (Jo (mu ty) (mu (ty+1000000)) e z (szA P e) len)else none
 | .load ty a=>if(P.underlying ty).isNone then none else(A a).map (.load (iK P ty) (szA P ty))
 | .store ty a x=>if szA P ty=0 then none else(A a).bind fun a=>(A x).map (.store (szA P ty) a)
 | .makeSlice ty l c=>(d8 P ty).bind fun e=>(eH P e).bind fun z=>(A l).bind fun l=>(A c).map fun c=> .mks e z l c
 | .call {callee:= .builtin .append,args,argTypes}=>match args.toList,argTypes.toList with
   | [x,y],[ty,ty']=>if ty=ty' then(d8 P ty).bind fun e=>if(eH P e).isSome then(A x).bind fun x=>(A y).map fun y=> .app (mu ty) e x y else none
     else if fZ P ty' then(d8 P ty).bind fun e=>if Pl P e then(A x).bind fun x=>(A y).map fun y=> .apps (mu ty) e x y else none else none
   | _,_=>none
 | .call {callee:= .value f,args,..}=>(A f).bind fun f=>(qA vm lm args.toList).map (.call f)
 | .panic x=>(A x).map .pan
 | .call {callee:= .builtin .min,args,..}=>match args.toList with
   | [x,y]=>(A x).bind fun x=>(A y).map (.mm false x)
   | _=>none
 | .call {callee:= .builtin .max,args,..}=>match args.toList with
   | [x,y]=>(A x).bind fun x=>(A y).map (.mm true x)
   | _=>none
 | _=>none
def pA (vm lm:List Nat) (all:Array Oper) (o:Oper):Option (Option (Arg×Bool)):=
 match o.guard with
 | none=>some none
 | some (j,want)=>((all[j]?).bind (·.dst)).bind fun d=>(jD vm lm (.tmp d)).map fun a=>some (a,want)
def Z2 (vm lm:List Nat) (all:Array Oper) (o:Oper):Option RCk:=
 match o.op,o.dst with
 | .load ty a,some d=>(pA vm lm all o).bind fun g=>(jD vm lm a).bind fun a=>(jD vm lm (.tmp d)).map fun d=>⟨g,iK P ty,szA P ty,a,d⟩
 | .store ty a x,none=>(pA vm lm all o).bind fun g=>(jD vm lm a).bind fun a=>(jD vm lm x).map fun d=>⟨g,iK P ty,szA P ty,a,d⟩
 | _,_=>none
def uj (vm lm:List Nat) (all:Array Oper):List Oper→Option (List RCk)
 | []=>some []
 | o::l=>(Z2 P vm lm all o).bind fun q=>(uj vm lm all l).map (q::·)
def ya (n:Nat) (vm lm:List Nat):Option Tmp→Option (RD×List Nat)
 | none=>some (.n,lm)
 | some d=>if n≤d∨(nQ lm d).isSome then none else match nQ vm d with
   | some j=>some (.v j,lm)
   | none=>some (.l,d::lm)
def Zl (g:Option (Arg×Bool)) (d:RD) (r:RO):RI:=match g with
 | none=> .i d r
 | some (a,w)=> .g a w d r
def Lc (c:List RCk) (is:List RI):List RI:=match c with
 | []=>is
 | q::c=> .ck (q::c)::is
def jH (mu:TypeId→Bool) (n:Nat) (vm:List Nat) (all:Array Oper):List Nat→List (Oper×List Oper)→Option (List RI)
 | _,[]=>some []
 | lm,(o,ck)::l=>(CE P mu vm lm o).bind fun r=>(pA vm lm all o).bind fun g=>(ya n vm lm o.dst).bind fun d=>(uj P vm d.2 all ck).bind fun c=>(jH mu n vm all d.2 l).map fun is=>
   Zl g d.1 r::Lc c is
def bG (mu:TypeId→Bool) (plan:Nat→List (Nat×List Nat)) (n:Nat) (vm:List Nat):Code→List RS→Option (List RS)
 | .skip,r=>some r
 | .label _,r=>some r
 | .seq a b,r=>(bG mu plan n vm b r).bind fun r=>bG mu plan n vm a r
 | .cond c x y,r=>(jD vm [] c).bind fun c=>(bG mu plan n vm x []).bind fun x=>(bG mu plan n vm y []).map fun y=> .cond c x y::r
 | .block id b,r=>(bG mu plan n vm b []).map fun b=> .block id b::r
 | .loop b,r=>(bG mu plan n vm b []).map fun b=> .loop b::r
 | .exit id,r=>some (.exit id::r)
 | .ret,r=>some (.ret::r)
 | .region id ops d,r=>(jH P mu n vm ops [] (dO d ops (plan id))).map fun is=> .ops is::r
 | _,_=>none
def lI (vm:List Nat):List ResultVar→Option (List nS)
 | []=>some []
 | .tmp i::l=>(nQ vm i).bind fun j=>(lI vm l).map (.v j::·)
 | .cell i ty::l=>if(P.underlying ty).isNone then none else(nQ vm i).bind fun j=>(lI vm l).map (.cell (iK P ty) (szA P ty) j::·)
end
def fS (V:List AV) (h:AH):List nS→Option (List AV)
 | []=>some []
 | .v j::rs=>(fS V h rs).map fun l=>V.getD j .junk::l
 | .cell agg n j::rs=>(aR agg n h (V.getD j .junk)).bind fun v=>(fS V h rs).map fun l=>v::l
structure RV (n:Nat) (vm lm:List Nat) (t V L:List AV):Prop where
 len:t.length=n
 lv:V.length=vm.length
 ll:L.length=lm.length
 v:∀ j s,vm[j]? =some s→s<n∧t.getD s .junk=V.getD j .junk
 l:∀ j s,lm[j]? =some s→s<n∧t.getD s .junk=L.getD j .junk
section
variable {P:Program} {po:Pol} {f:FuncId} {n:Nat} {vm lm:List Nat} {t V L:List AV} {h:AH} {mu:TypeId→Bool}
theorem Ep {i:Nat}:∀ (l:List Nat) (m k:Nat),nQ.go i l m=some k→m≤k∧l[k - m]? =some i
 | [],m,k,he=>by simp[nQ.go]at he
 | x::l,m,k,he=>by
   simp only[nQ.go]at he
   split at he
   ·rename_i hx
    injection he with he
    subst he
    exact⟨Nat.le_refl _,by simp[hx]⟩
   ·obtain⟨h1,h2⟩:=Ep l (m+1) k he
    refine⟨by omega,?_⟩
    rw[show k - m=(k - (m+1))+1 by omega,List.getElem?_cons_succ]
    exact h2
theorem mB {l:List Nat} {i k:Nat} (he:nQ l i=some k):l[k]? =some i:=by simpa using(Ep l 0 k he).2
theorem qj {i:Nat}:∀ (l:List Nat) (m:Nat),nQ.go i l m=none→i ∉ l
 | [],m,_=>by simp
 | x::l,m,he=>by
   simp only[nQ.go]at he
   split at he
   ·cases he
   ·rename_i hx
    have:=qj l (m+1) he
    simp only[List.mem_cons,not_or]
    exact⟨fun e=>hx e.symm,this⟩
theorem aD (r:RV n vm lm t V L) {x:Operand} {a:Arg} (he:jD vm lm x=some a):evA t x=arg V L a:=by
 cases x with
 | tmp i=>
   simp only[jD]at he
   split at he
   ·rename_i k hk
    injection he with he
    subst he
    exact(r.l k i (mB hk)).2
   ·obtain⟨j,hj,rfl⟩:=Option.map_eq_some_iff.1 he
    exact(r.v j i (mB hj)).2
 | const v=>simp only[jD,Option.some.injEq]at he;subst he;rfl
 | func g=>simp only[jD,Option.some.injEq]at he;subst he;rfl
 | global g=>simp[jD]at he
theorem kg (r:RV n vm lm t V L):∀ {xs:List Operand} {aS:List Arg},qA vm lm xs=some aS→xs.map (evA t)=aS.map (arg V L)
 | [],aS,he=>by simp[qA]at he;subst he;rfl
 | x::xs,aS,he=>by
   simp only[qA]at he
   obtain⟨a,ha,he⟩:=Option.bind_eq_some_iff.1 he
   obtain⟨aS',has,rfl⟩:=Option.map_eq_some_iff.1 he
   simp[aD r ha,kg r has]
theorem lS (r:RV n vm lm t V L):∀ {xs:List (Nat×Operand)} {aS:List (Nat×Arg)},pJ vm lm xs=some aS→(xs.map fun q=>(q.1,evA t q.2))=aS.map fun q=>(q.1,arg V L q.2)
 | [],aS,he=>by simp[pJ]at he;subst he;rfl
 | x::xs,aS,he=>by
   simp only[pJ]at he
   obtain⟨a,ha,he⟩:=Option.bind_eq_some_iff.1 he
   obtain⟨aS',has,rfl⟩:=Option.map_eq_some_iff.1 he
   simp[aD r ha,lS r has]
theorem uB (r:RV n vm lm t V L) {x:Option Operand} {a:Option Arg} (he:E7 vm lm x=some a):x.map (evA t)=a.map (arg V L):=by
 cases x with
 | none=>simp[E7]at he;subst he;rfl
 | some x=>
   simp only[E7]at he
   obtain⟨a,ha,rfl⟩:=Option.map_eq_some_iff.1 he
   simp[aD r ha]
theorem Lq (P:Program) (ty:TypeId) (x:AV):sr P ty x=ew (fZ P ty) (d8 P ty) x:=by
 cases x<;>rfl
theorem YC (P:Program) (ty:TypeId) (x k:AV):fv P ty x k=bL (d8 P ty) ((ri P ty).map fun q=>(q.1,szA P q.2)) x k:=by
 cases x<;>cases k<;>first | rfl | (simp only[fv,bL];cases ri P ty<;>rfl)
theorem Y2 (P:Program) (ty:TypeId) (x k:AV):ixA P ty x k=ixR (fZ P ty) ((ri P ty).bind fun q=>if(P.underlying q.2).isSome then some (q.1,szA P q.2,iK P q.2)else none) x k:=by
 cases x<;>cases k<;>first | rfl | skip
 simp only[ixA,ixR]
 cases ri P ty with
 | none=>rfl
 | some q=>cases hu:(P.underlying q.2).isSome<;>simp[hu]
theorem R6 (kd:Kd) (op:BinOp):bO kd op .nili .nili=none:=by
 unfold bO
 simp only
 split<;>(cases kd<;>rfl)
theorem Od (kd:Kd) (op:BinOp) (xs ys:List AV):bO kd op (.agg xs) (.agg ys)=none:=by
 unfold bO
 simp only
 split<;>(cases kd<;>rfl)
theorem In (r:RV n vm lm t V L) {o:Oper} {ro:RO} (he:CE P mu vm lm o=some ro):be P mu t h o=ci V L h ro∧aT t o=bp V L ro:=by
 unfold CE at he
 simp only at he
 split at he
 case h_1 x ho=>
  obtain⟨a,ha,rfl⟩:=Option.map_eq_some_iff.1 he
  exact⟨by simp[be,cD,ho,ci,aD r ha],by simp[aT,bp,ho]⟩
 case h_2 x ho=>
  obtain⟨a,ha,rfl⟩:=Option.map_eq_some_iff.1 he
  exact⟨by simp[be,cD,ho,ci,aD r ha],by simp[aT,bp,ho]⟩
 case h_3 c x y ho=>
  obtain⟨c',hc,he⟩:=Option.bind_eq_some_iff.1 he
  obtain⟨x',hx,he⟩:=Option.bind_eq_some_iff.1 he
  obtain⟨y',hy,rfl⟩:=Option.map_eq_some_iff.1 he
  refine⟨?_,by simp[aT,bp,ho]⟩
  simp only[be,cD,ho,ci,aD r hc,aD r hx,aD r hy]
  rfl
 case h_4 ty parts ho=>
  obtain⟨z,hz,he⟩:=Option.bind_eq_some_iff.1 he
  obtain⟨ps,hps,he⟩:=Option.bind_eq_some_iff.1 he
  have hp:=lS r hps
  split at he
  ·rename_i pl hpl
   split at he
   ·rename_i hall
    injection he with he
    subst he
    exact⟨by simp only[be,cD,ho,ci,hz,hpl,Option.bind_some,hall,if_true,hp,Option.map_map];rfl,by simp[aT,bp,ho]⟩
   ·cases he
  ·rename_i hpl
   obtain⟨q,hq,he⟩:=Option.bind_eq_some_iff.1 he
   split at he
   ·cases he
   ·rename_i hnz
    injection he with he
    subst he
    exact⟨by simp only[be,cD,ho,ci,hz,hpl,hq,Option.bind_some,hnz,if_false,hp,Option.map_map];rfl,by simp[aT,bp,ho]⟩
 case h_5 x ho=>
  obtain⟨a,ha,rfl⟩:=Option.map_eq_some_iff.1 he
  exact⟨by simp only[be,cD,ho,ci,aD r ha];rfl,by simp[aT,bp,ho]⟩
 case h_6 op ty x y yt ho=>
  obtain⟨x',hx,he⟩:=Option.bind_eq_some_iff.1 he
  obtain⟨y',hy,rfl⟩:=Option.map_eq_some_iff.1 he
  refine⟨?_,by split<;>simp[aT,bp,ho]⟩
  have e1:ci V L h (if nw (cB P ty)then .bin (cB P ty) op x' y' else .binG (cB P ty) (pS P ty) (isC y) op x' y')=
    (if nw (cB P ty)then bO (cB P ty) op (arg V L x') (arg V L y')else ma (cB P ty) (pS P ty) (isC y) op (arg V L x') (arg V L y')).map fun v=>(v,h):=by
   split<;>rfl
  rw[e1]
  have hfl:nw (cB P ty)=true→pS P ty=none:=by
   intro hk
   unfold pS
   split
   ·rename_i fs hfs
    simp[cB,hfs,nw]at hk
   ·rfl
  have e2:cD P t o=if nw (cB P ty)then bO (cB P ty) op (arg V L x') (arg V L y')else ma (cB P ty) (pS P ty) (isC y) op (arg V L x') (arg V L y'):=by
   simp only[cD,ho,aD r hx,aD r hy]
   generalize arg V L x'=X
   generalize arg V L y'=Y
   generalize cB P ty=kd at*
   generalize pS P ty=ks at*
   cases hs:nw kd
   ·simp only[Bool.false_eq_true,if_false]
    cases X<;>first | rfl | skip
    ·cases Y<;>first | rfl | (cases kd<;>cases y<;>cases op<;>rfl)
    ·cases Y<;>rfl
   ·simp only[if_true]
    have h0:=hfl hs
    subst h0
    cases X<;>first | rfl | skip
    ·cases Y<;>first | rfl | skip
     rw[R6]
     cases kd<;>first | rfl | cases hs
    ·cases Y<;>first | rfl | skip
     rw[Od]
     rfl
  simp only[be,ho]
  rw[e2]
 case h_7 op ty x ho=>
  obtain⟨a,ha,rfl⟩:=Option.map_eq_some_iff.1 he
  exact⟨by simp only[be,cD,ho,ci,aD r ha],by simp[aT,bp,ho]⟩
 case h_8 src dst x ho=>
  split at he
  ·cases he
  ·rename_i hn
   obtain⟨a,ha,rfl⟩:=Option.map_eq_some_iff.1 he
   exact⟨by simp only[be,cD,ho,ci,aD r ha,hn];rfl,by simp[aT,bp,ho]⟩
 case h_9 ty x ho=>
  split at he
  ·cases he
  ·rename_i hn
   obtain⟨a,ha,rfl⟩:=Option.map_eq_some_iff.1 he
   exact⟨by simp only[be,cD,ho,ci,aD r ha,hn,if_false];rfl,by simp[aT,bp,ho]⟩
 case h_10 g first captured ho=>
  split at he
  ·obtain⟨a,ha,he⟩:=Option.bind_eq_some_iff.1 he
   obtain⟨c,hc,rfl⟩:=Option.map_eq_some_iff.1 he
   exact⟨by simp[be,cD,ho,ci,kg r ha,kg r hc],by simp[aT,bp,ho]⟩
  ·cases he
 case h_11 ty x lo hi mx ho=>
  split at he
  ·cases he
  ·rename_i hmx
   obtain⟨a,ha,he⟩:=Option.bind_eq_some_iff.1 he
   obtain⟨lo',hlo,he⟩:=Option.bind_eq_some_iff.1 he
   obtain⟨hi',hhi,rfl⟩:=Option.map_eq_some_iff.1 he
   refine⟨?_,by simp[aT,bp,ho]⟩
   simp only[be,cD,ho,ci,aD r ha,uB r hlo,uB r hhi,Lq]
   cases hf:ew (fZ P ty) (d8 P ty) (arg V L a)<;>simp[hmx]
 case h_12 s x fi ho=>
  obtain⟨q,hq,he⟩:=Option.bind_eq_some_iff.1 he
  split at he
  ·cases he
  ·rename_i hn
   obtain⟨a,ha,rfl⟩:=Option.map_eq_some_iff.1 he
   exact⟨by simp only[be,cD,ho,ci,aD r ha,hq,Option.bind_some,hn,if_false],by simp[aT,bp,ho]⟩
 case h_13 s x fi ho=>
  obtain⟨q,hq,he⟩:=Option.bind_eq_some_iff.1 he
  split at he
  ·cases he
  ·rename_i hn
   obtain⟨a,ha,rfl⟩:=Option.map_eq_some_iff.1 he
   exact⟨by simp only[be,cD,ho,ci,aD r ha,hq,Option.bind_some,hn,if_false];rfl,by simp[aT,bp,ho]⟩
 case h_14 ty x ix ho=>
  obtain⟨a,ha,he⟩:=Option.bind_eq_some_iff.1 he
  obtain⟨k,hk,rfl⟩:=Option.map_eq_some_iff.1 he
  exact⟨by simp only[be,cD,ho,ci,aD r ha,aD r hk,YC],by simp[aT,bp,ho]⟩
 case h_15 ty x ix ho=>
  obtain⟨a,ha,he⟩:=Option.bind_eq_some_iff.1 he
  obtain⟨k,hk,rfl⟩:=Option.map_eq_some_iff.1 he
  exact⟨by simp only[be,cD,ho,ci,aD r ha,aD r hk,Y2],by simp[aT,bp,ho]⟩
 case h_16 x xt aS ok ho=>
  split at he
  ·rename_i hp
   obtain⟨a,ha,rfl⟩:=Option.map_eq_some_iff.1 he
   refine⟨?_,by simp[aT,bp,ho]⟩
   simp only[be,cD,ho,ci,aD r ha,hp,true_and]
   rfl
  ·cases he
 case h_17 x i ho=>
  obtain⟨a,ha,rfl⟩:=Option.map_eq_some_iff.1 he
  exact⟨by simp only[be,cD,ho,ci,aD r ha];rfl,by simp[aT,bp,ho]⟩
 case h_18 args argTypes ho=>
  split at he
  ·rename_i x ty tys e1 e2
   obtain⟨a,ha,rfl⟩:=Option.map_eq_some_iff.1 he
   refine⟨?_,by simp[aT,bp,ho]⟩
   simp only[be,cD,ho,ci,e1,e2,aD r ha,Lq]
   split<;>simp[Option.map_map,Function.comp_def]
  ·cases he
 case h_19 e ho=>
  obtain⟨z,hz,rfl⟩:=Option.map_eq_some_iff.1 he
  refine⟨?_,?_⟩
  ·simp only[be,ho,hz,Option.map_some]
   split<;>rfl
  ·split<;>simp[aT,bp,ho]
 case h_20 e x ho=>
  obtain⟨a,ha,rfl⟩:=Option.map_eq_some_iff.1 he
  refine⟨?_,?_⟩
  ·simp only[be,ho,aD r ha]
   split<;>split<;>simp_all [ci]
  ·split<;>simp[aT,bp,ho]
 case h_21 ty len parts ho=>
  obtain⟨e,he1,he⟩:=Option.bind_eq_some_iff.1 he
  obtain⟨z,hz,he⟩:=Option.bind_eq_some_iff.1 he
  split at he
  ·rename_i hc
   obtain⟨ps,hps,rfl⟩:=Option.map_eq_some_iff.1 he
   refine⟨?_,?_⟩
   ·simp only[be,ho,he1,hz,Option.bind_some,if_pos hc,lS r hps]
    unfold Jo
    cases mu ty
    ·cases mu (ty+1000000)
     ·simp only[Bool.false_eq_true,if_false,ci]
     ·simp only[Bool.false_eq_true,if_false,if_true,ci]
    ·simp only[if_true,ci]
   ·unfold Jo
    split
    ·simp[aT,bp,ho]
    ·split<;>simp[aT,bp,ho]
  ·cases he
 case h_22 ty a ho=>
  split at he
  ·cases he
  ·rename_i hn
   obtain⟨a,ha,rfl⟩:=Option.map_eq_some_iff.1 he
   exact⟨by simp only[be,ho,ci,aD r ha,hn,if_false];rfl,by simp[aT,bp,ho]⟩
 case h_23 ty a x ho=>
  split at he
  ·cases he
  ·rename_i hn
   obtain⟨a,ha,he⟩:=Option.bind_eq_some_iff.1 he
   obtain⟨x,hx,rfl⟩:=Option.map_eq_some_iff.1 he
   exact⟨by simp only[be,ho,ci,aD r ha,aD r hx,hn,if_false],by simp[aT,bp,ho]⟩
 case h_24 ty l c ho=>
  obtain⟨e,he1,he⟩:=Option.bind_eq_some_iff.1 he
  obtain⟨z,hz,he⟩:=Option.bind_eq_some_iff.1 he
  obtain⟨a,ha,he⟩:=Option.bind_eq_some_iff.1 he
  obtain⟨k,hk,rfl⟩:=Option.map_eq_some_iff.1 he
  exact⟨by simp only[be,ho,ci,aD r ha,aD r hk,he1,hz,Option.bind_some];rfl,by simp[aT,bp,ho]⟩
 case h_25 args argTypes ho=>
  split at he
  ·rename_i x y ty ty' e1 e2
   split at he
   ·rename_i ht
    obtain⟨e,he1,he⟩:=Option.bind_eq_some_iff.1 he
    split at he
    ·rename_i hz
     obtain⟨a,ha,he⟩:=Option.bind_eq_some_iff.1 he
     obtain⟨k,hk,rfl⟩:=Option.map_eq_some_iff.1 he
     exact⟨by simp only[be,ho,ci,e1,e2,aD r ha,aD r hk,if_pos ht,he1,Option.bind_some,if_pos hz],by simp[aT,bp,ho]⟩
    ·cases he
   ·rename_i ht
    split at he
    ·rename_i hst
     obtain⟨e,he1,he⟩:=Option.bind_eq_some_iff.1 he
     split at he
     ·rename_i h8
      obtain⟨a,ha,he⟩:=Option.bind_eq_some_iff.1 he
      obtain⟨k,hk,rfl⟩:=Option.map_eq_some_iff.1 he
      exact⟨by simp only[be,ho,ci,e1,e2,aD r ha,aD r hk,if_neg ht,if_pos hst,he1,Option.bind_some,if_pos h8],by simp[aT,bp,ho]⟩
     ·cases he
    ·cases he
  ·cases he
 case h_26 fo args aty ho=>
  obtain⟨a,ha,he⟩:=Option.bind_eq_some_iff.1 he
  obtain⟨aS,has,rfl⟩:=Option.map_eq_some_iff.1 he
  refine⟨by simp[be,cD,ho,ci],?_⟩
  simp only[aT,bp,ho,aD r ha,kg r has]
  rfl
 case h_27 x ho=>
  obtain⟨a,ha,rfl⟩:=Option.map_eq_some_iff.1 he
  exact⟨by simp[be,cD,ho,ci],by simp[aT,bp,ho]⟩
 case h_28 args _ ho=>
  split at he
  ·rename_i x y e1
   obtain⟨a,ha,he⟩:=Option.bind_eq_some_iff.1 he
   obtain⟨k,hk,rfl⟩:=Option.map_eq_some_iff.1 he
   exact⟨by simp only[be,cD,ho,e1,ci,aD r ha,aD r hk],by simp[aT,bp,ho]⟩
  ·cases he
 case h_29 args _ ho=>
  split at he
  ·rename_i x y e1
   obtain⟨a,ha,he⟩:=Option.bind_eq_some_iff.1 he
   obtain⟨k,hk,rfl⟩:=Option.map_eq_some_iff.1 he
   exact⟨by simp only[be,cD,ho,e1,ci,aD r ha,aD r hk],by simp[aT,bp,ho]⟩
  ·cases he
 case h_30=>cases he
theorem Tr {o:Oper} {x:Arg} (he:CE P mu vm lm o=some (.pan x)):∃ y,o.op= .panic y∧jD vm lm y=some x:=by
 unfold CE at he
 simp only at he
 split at he
 case h_27 y ho=>
  obtain⟨a,ha,e⟩:=Option.map_eq_some_iff.1 he
  injection e with e
  subst e
  exact⟨y,ho,ha⟩
 case h_21 ty len parts ho=>
  obtain⟨e,he1,he⟩:=Option.bind_eq_some_iff.1 he
  obtain⟨z,hz,he⟩:=Option.bind_eq_some_iff.1 he
  split at he
  ·obtain⟨ps,hps,he⟩:=Option.map_eq_some_iff.1 he
   unfold Jo at he
   split at he
   ·cases he
   ·split at he<;>cases he
  ·cases he
 all_goals
  exfalso
  try (cases he;done)
  try simp only[Option.map_eq_some_iff,Option.bind_eq_some_iff,reduceCtorEq,and_false,exists_false,exists_const]at he
 case h_4=>
  obtain⟨_,_,_,_,he⟩:=he
  split at he
  ·split at he<;>cases he
  ·obtain⟨_,_,he⟩:=Option.bind_eq_some_iff.1 he
   split at he<;>cases he
 all_goals
  repeat' (first
   | (cases he;done)
   | split at he
   | (obtain⟨_,_,he⟩:=he)
   | (simp only[Option.map_eq_some_iff,Option.bind_eq_some_iff,reduceCtorEq,and_false,exists_false,exists_const]at he))
theorem Es (r:RV n vm lm t V L) {o:Oper} {ro:RO} (he:CE P mu vm lm o=some ro):mz t o=Fc V L ro:=by
 cases ro with
 | pan x=>
   obtain⟨y,h1,h2⟩:=Tr he
   simp only[mz,h1,Fc,aD r h2]
   rfl
 | _=>
   have:mz t o=none:=by
    unfold mz
    split
    ·rename_i x ho
     unfold CE at he
     rw[ho]at he
     simp only at he
     obtain⟨a,ha,e⟩:=Option.map_eq_some_iff.1 he
     cases e
    ·rfl
   rw[this]
   rfl
end
section
variable {P:Program} {po:Pol} {f:FuncId} {n:Nat} {vm lm:List Nat} {t V L:List AV} {h:AH} {mu:TypeId→Bool} {plan:Nat→List (Nat×List Nat)}
theorem LS {l:List Nat} (h:l.Nodup) {i j s:Nat} (hi:l[i]? =some s) (hj:l[j]? =some s):i=j:=by
 obtain⟨a1,a2⟩:=List.getElem?_eq_some_iff.1 hi
 obtain⟨b1,b2⟩:=List.getElem?_eq_some_iff.1 hj
 have:=List.pairwise_iff_getElem.1 h
 rcases Nat.lt_trichotomy i j with h | h | h
 ·exact absurd (a2.trans b2.symm) (this i j a1 b1 h)
 ·exact h
 ·exact absurd (b2.trans a2.symm) (this j i b1 a1 h)
theorem DR (r:RV n vm lm t V L) (hnd:vm.Nodup) {dst:Option Tmp} {d:RD×List Nat} (he:ya n vm lm dst=some d) (v:AV):RV n vm d.2 (cz t dst v) (iP V v d.1) (jA L v d.1):=by
 cases dst with
 | none=>simp only[ya,Option.some.injEq]at he;subst he;exact r
 | some s=>
   simp only[ya]at he
   split at he
   ·cases he
   ·rename_i hc
    simp only[not_or,Nat.not_le,Option.isSome_iff_ne_none,ne_eq,Classical.not_not]at hc
    obtain⟨c1,c2⟩:=hc
    have hnl:=qj lm 0 c2
    split at he
    ·rename_i j hj
     injection he with he
     subst he
     have hj':=mB hj
     refine⟨by simp[cz,r.len],by simp[iP,r.lv],r.ll,fun i q hq=> ?_,fun i q hq=> ?_⟩
     ·obtain⟨h1,h2⟩:=r.v i q hq
      refine⟨h1,?_⟩
      by_cases hij:i=j
      ·subst hij
       rw[hj']at hq
       injection hq with hq
       subst hq
       have hlt:i<V.length:=by rw[r.lv];exact(List.getElem?_eq_some_iff.1 hj').1
       rw[vt rfl (by rw[r.len];exact h1)]
       simp[iP,List.getD,hlt]
      ·have hne:s≠q:=by
        intro e
        subst e
        exact hij (LS hnd hq hj')
       rw[pH (by simpa using hne),h2]
       simp[iP,List.getD,List.getElem?_set_ne (Ne.symm hij)]
     ·obtain⟨h1,h2⟩:=r.l i q hq
      refine⟨h1,?_⟩
      have hne:s≠q:=fun e=>hnl (by rw[e];exact List.mem_of_getElem? hq)
      rw[pH (by simpa using hne),h2]
      rfl
    ·rename_i hj
     injection he with he
     subst he
     have hnv:=qj vm 0 hj
     refine⟨by simp[cz,r.len],r.lv,by simp[jA,r.ll],fun i q hq=> ?_,fun i q hq=> ?_⟩
     ·obtain⟨h1,h2⟩:=r.v i q hq
      have hne:s≠q:=fun e=>hnv (by rw[e];exact List.mem_of_getElem? hq)
      exact⟨h1,by rw[pH (by simpa using hne),h2];rfl⟩
     ·cases i with
      | zero=>
        simp only[List.getElem?_cons_zero,Option.some.injEq]at hq
        subst hq
        exact⟨c1,by rw[vt rfl (by rw[r.len];exact c1)];rfl⟩
      | succ i=>
        simp only[List.getElem?_cons_succ]at hq
        obtain⟨h1,h2⟩:=r.l i q hq
        have hne:s≠q:=fun e=>hnl (by rw[e];exact List.mem_of_getElem? hq)
        exact⟨h1,by rw[pH (by simpa using hne),h2];rfl⟩
theorem jz (r:RV n vm lm t V L) {all:Array Oper} {o:Oper} {g:Option (Arg×Bool)} (he:pA vm lm all o=some g):bB all t o=tP V L g:=by
 unfold pA at he
 split at he
 ·rename_i hg
  injection he with he
  subst he
  simp[bB,hg,tP]
 ·rename_i j want hg
  obtain⟨d,hd,he⟩:=Option.bind_eq_some_iff.1 he
  obtain⟨a,ha,rfl⟩:=Option.map_eq_some_iff.1 he
  have:=aD r ha
  simp only[evA]at this
  simp only[bB,hg,hd,this,tP,qN]
  rfl
theorem ph (r:RV n vm lm t V L) {all:Array Oper}:∀ {l:List Oper} {c:List RCk},uj P vm lm all l=some c→zC V L h c→pQ P all t h l
 | [],c,_,_=>trivial
 | o::l,c,he,hc=>by
   simp only[uj]at he
   obtain⟨q,hq,he⟩:=Option.bind_eq_some_iff.1 he
   obtain⟨c',hc',rfl⟩:=Option.map_eq_some_iff.1 he
   obtain⟨h1,h2⟩:=hc
   refine⟨?_,ph r hc' h2⟩
   unfold Z2 at hq
   split at hq
   ·rename_i ty a d ho hd
    obtain⟨g,hg,hq⟩:=Option.bind_eq_some_iff.1 hq
    obtain⟨a',ha,hq⟩:=Option.bind_eq_some_iff.1 hq
    obtain⟨d',hd',rfl⟩:=Option.map_eq_some_iff.1 hq
    rw[jz r hg]
    have e1:=aD r ha
    have e2:=aD r hd'
    simp only[evA]at e2
    simp only at h1
    split at h1
    ·rename_i hw
     rw[hw]
     simp only[ho,hd,e1,e2]
     exact h1
    ·rename_i hw
     split
     ·rename_i hw'
      exact absurd hw' hw
     ·trivial
   ·rename_i ty a x ho hd
    obtain⟨g,hg,hq⟩:=Option.bind_eq_some_iff.1 hq
    obtain⟨a',ha,hq⟩:=Option.bind_eq_some_iff.1 hq
    obtain⟨d',hd',rfl⟩:=Option.map_eq_some_iff.1 hq
    rw[jz r hg]
    have e1:=aD r ha
    have e2:=aD r hd'
    simp only at h1
    split at h1
    ·rename_i hw
     rw[hw]
     simp only[ho,hd,e1,e2]
     exact h1
    ·rename_i hw
     split
     ·rename_i hw'
      exact absurd hw' hw
     ·trivial
   ·cases hq
def trL (P:Program) (mu:TypeId→Bool) (plan:Nat→List (Nat×List Nat)) (n:Nat) (vm:List Nat):List Code→List RS→Option (List RS)
 | [],r=>some r
 | c::cs,r=>(trL P mu plan n vm cs r).bind fun r=>bG P mu plan n vm c r
inductive uq (P:Program) (mu:TypeId→Bool) (plan:Nat→List (Nat×List Nat)) (n:Nat) (vm:List Nat):Code→RS→Prop
 | cond (c:Operand) (x y:Code) (a:Arg) (xs ys:List RS):jD vm [] c=some a→bG P mu plan n vm x []=some xs→bG P mu plan n vm y []=some ys→uq P mu plan n vm (.cond c x y) (.cond a xs ys)
 | block (id:Nat) (b:Code) (bs:List RS):bG P mu plan n vm b []=some bs→uq P mu plan n vm (.block id b) (.block id bs)
 | loop (b:Code) (bs:List RS):bG P mu plan n vm b []=some bs→uq P mu plan n vm (.loop b) (.loop bs)
 | exit (id:Nat):uq P mu plan n vm (.exit id) (.exit id)
 | ret:uq P mu plan n vm .ret .ret
 | region (id:Nat) (all:Array Oper) (d:Bool) (is:List RI):jH P mu n vm all [] (dO d all (plan id))=some is→uq P mu plan n vm (.region id all d) (.ops is)
theorem xb (cs ds:List Code) (r:List RS):trL P mu plan n vm (cs++ds) r=(trL P mu plan n vm ds r).bind fun r=>trL P mu plan n vm cs r:=by
 induction cs with
 | nil=>simp only[List.nil_append,trL];cases trL P mu plan n vm ds r<;>rfl
 | cons c cs ih=>simp only[List.cons_append,trL,ih];cases trL P mu plan n vm ds r<;>rfl
theorem MZ:∀ (c:Code) (r l:List RS),bG P mu plan n vm c r=some l→
  (l=r∧∀ k t h,bC P po f (.code c::k) t h=bC P po f k t h)∨
  (∃ s l' c1 cs,l=s::l'∧trL P mu plan n vm cs r=some l'∧uq P mu plan n vm c1 s∧∀ k t h,bC P po f (.code c::k) t h=bC P po f (.code c1::(cs.map .code++k)) t h):=by
 intro c
 induction c with
 | skip=>intro r l he;simp only[bG,Option.some.injEq]at he;exact .inl ⟨he.symm,fun k t h=>MT⟩
 | label i=>intro r l he;simp only[bG,Option.some.injEq]at he;exact .inl ⟨he.symm,fun k t h=>GF⟩
 | seq a b iha ihb=>
   intro r l he
   simp only[bG]at he
   obtain⟨r1,h1,h2⟩:=Option.bind_eq_some_iff.1 he
   rcases iha r1 l h2 with⟨e1,e2⟩ | ⟨s,l',c1,cs,e1,e2,e3,e4⟩
   ·subst e1
    rcases ihb r l h1 with⟨f1,f2⟩ | ⟨s,l',c1,cs,f1,f2,f3,f4⟩
    ·exact .inl ⟨f1,fun k t h=>by rw[yN,e2,f2]⟩
    ·exact .inr ⟨s,l',c1,cs,f1,f2,f3,fun k t h=>by rw[yN,e2,f4]⟩
   ·refine .inr ⟨s,l',c1,cs++[b],e1,?_,e3,fun k t h=> ?_⟩
    ·rw[xb]
     simp only[trL,Option.bind_some,h1,e2]
    ·rw[yN,e4]
     simp
 | cond c x y _ _=>
   intro r l he
   simp only[bG]at he
   obtain⟨a,ha,he⟩:=Option.bind_eq_some_iff.1 he
   obtain⟨xs,hx,he⟩:=Option.bind_eq_some_iff.1 he
   obtain⟨ys,hy,rfl⟩:=Option.map_eq_some_iff.1 he
   exact .inr ⟨_,_,_,[],rfl,rfl,.cond _ _ _ _ _ _ ha hx hy,fun k t h=>rfl⟩
 | block id b _=>
   intro r l he
   simp only[bG]at he
   obtain⟨bs,hb,rfl⟩:=Option.map_eq_some_iff.1 he
   exact .inr ⟨_,_,_,[],rfl,rfl,.block _ _ _ hb,fun k t h=>rfl⟩
 | loop b _=>
   intro r l he
   simp only[bG]at he
   obtain⟨bs,hb,rfl⟩:=Option.map_eq_some_iff.1 he
   exact .inr ⟨_,_,_,[],rfl,rfl,.loop _ _ hb,fun k t h=>rfl⟩
 | exit id=>intro r l he;simp only[bG,Option.some.injEq]at he;subst he;exact .inr ⟨_,_,_,[],rfl,rfl,.exit _,fun k t h=>rfl⟩
 | ret=>intro r l he;simp only[bG,Option.some.injEq]at he;subst he;exact .inr ⟨_,_,_,[],rfl,rfl,.ret,fun k t h=>rfl⟩
 | region id ops d=>
   intro r l he
   simp only[bG]at he
   obtain⟨is,his,rfl⟩:=Option.map_eq_some_iff.1 he
   exact .inr ⟨_,_,_,[],rfl,rfl,.region _ _ _ _ his,fun k t h=>rfl⟩
 | _=>intro r l he;simp[bG]at he
theorem zX:∀ (cs:List Code) (l:List RS),trL P mu plan n vm cs []=some l→
  (l=[]∧∀ k t h,bC P po f (cs.map .code++k) t h=bC P po f k t h)∨
  (∃ s l' c1 cs',l=s::l'∧trL P mu plan n vm cs' []=some l'∧uq P mu plan n vm c1 s∧∀ k t h,bC P po f (cs.map .code++k) t h=bC P po f (.code c1::(cs'.map .code++k)) t h):=by
 intro cs
 induction cs with
 | nil=>intro l he;simp only[trL,Option.some.injEq]at he;exact .inl ⟨he.symm,fun k t h=>rfl⟩
 | cons c cs ih=>
   intro l he
   simp only[trL]at he
   obtain⟨r,h1,h2⟩:=Option.bind_eq_some_iff.1 he
   rcases MZ (po:=po) (f:=f) c r l h2 with⟨e1,e2⟩ | ⟨s,l',c1,cs1,e1,e2,e3,e4⟩
   ·subst e1
    rcases ih l h1 with⟨f1,f2⟩ | ⟨s,l',c1,cs',f1,f2,f3,f4⟩
    ·exact .inl ⟨f1,fun k t h=>by simp only[List.map_cons,List.cons_append];rw[e2,f2]⟩
    ·exact .inr ⟨s,l',c1,cs',f1,f2,f3,fun k t h=>by simp only[List.map_cons,List.cons_append];rw[e2,f4]⟩
   ·refine .inr ⟨s,l',c1,cs1++cs,e1,?_,e3,fun k t h=> ?_⟩
    ·rw[xb,h1]
     exact e2
    ·simp only[List.map_cons,List.cons_append]
     rw[e4]
     simp
inductive KC (P:Program) (mu:TypeId→Bool) (plan:Nat→List (Nat×List Nat)) (n:Nat) (vm:List Nat):List cX→List RK→Prop
 | nil:KC P mu plan n vm [] []
 | ss (cs:List Code) (l:List RS) (k:List cX) (rk:List RK):trL P mu plan n vm cs []=some l→KC P mu plan n vm k rk→KC P mu plan n vm (cs.map .code++k) (.ss l::rk)
 | blk (id:Nat) (k:List cX) (rk:List RK):KC P mu plan n vm k rk→KC P mu plan n vm (.inBlock id::k) (.blk id::rk)
 | lp (c:Code) (b:List RS) (k:List cX) (rk:List RK):bG P mu plan n vm c []=some b→KC P mu plan n vm k rk→KC P mu plan n vm (.inLoop c::k) (.lp b::rk)
 | halt (K:List Item) (k:List cX) (rk:List RK):KC P mu plan n vm (.halt K::k) (.halt K::rk)
theorem FN {id:Nat} (cs:List Code) (k:List cX):iU id (cs.map .code++k)=iU id k:=by
 induction cs with
 | nil=>rfl
 | cons c cs ih=>simp only[List.map_cons,List.cons_append,iU];exact ih
theorem N0 {id:Nat} {k:List cX} {rk rk':List RK} (hk:KC P mu plan n vm k rk) (he:gJ id rk=some rk'):∃ k',iU id k=some k'∧KC P mu plan n vm k' rk':=by
 induction hk with
 | nil=>simp[gJ]at he
 | ss cs l k rk h1 h2 ih=>
   simp only[gJ]at he
   obtain⟨k',e1,e2⟩:=ih he
   exact⟨k',by rw[FN];exact e1,e2⟩
 | blk i k rk h1 ih=>
   simp only[gJ]at he
   by_cases hi:i=id
   ·rw[if_pos hi]at he
    injection he with he
    subst he
    exact⟨k,by simp[iU,hi],h1⟩
   ·rw[if_neg hi]at he
    obtain⟨k',e1,e2⟩:=ih he
    exact⟨k',by simp[iU,hi];exact e1,e2⟩
 | lp c b k rk h1 h2 ih=>
   simp only[gJ]at he
   obtain⟨k',e1,e2⟩:=ih he
   exact⟨k',by simp only[iU];exact e1,e2⟩
 | halt K k rk=>simp[gJ]at he
def ToK (P:Program) (po:Pol) (f:FuncId) (n:Nat) (vm:List Nat) (ak:List cX) (t:List AV) (h:AH) (r:AEx×List AV×AH):Prop:=
 ∃ t',bC P po f ak t h=some (r.1,t',r.2.2)∧RV n vm [] t' r.2.1 []
def zg (P:Program) (po:Pol) (f:FuncId) (n:Nat) (vm:List Nat) (k:List RK) (V L:List AV) (h:AH) (r:AEx×List AV×AH):Prop:=
 (∀ ak t,KC P (po.mu f) (po.plan f) n vm ak k→RV n vm [] t V []→ToK P po f n vm ak t h r)∧
 (∀ d all l is ak lm t k',k= .ops is::k'→jH P (po.mu f) n vm all lm l=some is→KC P (po.mu f) (po.plan f) n vm ak k'→RV n vm lm t V L→ToK P po f n vm (.ops d all l::ak) t h r)∧
 (∀ d all l is c ck ak lm t k',k= .ops (.ck c::is)::k'→uj P vm lm all ck=some c→jH P (po.mu f) n vm all lm l=some is→KC P (po.mu f) (po.plan f) n vm ak k'→RV n vm lm t V L→
  pQ P all t h ck∧ToK P po f n vm (.ops d all l::ak) t h r)
theorem ToK.eq {ak ak':List cX} {t t':List AV} {h h':AH} {r:AEx×List AV×AH} (he:bC P po f ak t h=bC P po f ak' t' h') (hk:ToK P po f n vm ak' t' h' r):ToK P po f n vm ak t h r:=by
 obtain⟨t2,h1,h2⟩:=hk
 exact⟨t2,he.trans h1,h2⟩
theorem zg.not_ops {k:List RK} {V L:List AV} {h:AH} {r:AEx×List AV×AH} (hno:∀ is k',k≠.ops is::k') (hk:∀ ak t,KC P (po.mu f) (po.plan f) n vm ak k→RV n vm [] t V []→ToK P po f n vm ak t h r):zg P po f n vm k V L h r:=
 ⟨hk,fun d all l is ak lm t k' he=>absurd he (hno _ _),fun d all l is c ck ak lm t k' he=>absurd he (hno _ _)⟩
theorem RV.drop {L:List AV} {lm:List Nat} (r:RV n vm lm t V L):RV n vm [] t V []:=⟨r.len,r.lv,rfl,r.v,fun j s hs=>by simp at hs⟩
theorem RV.clear {nk nr:Nat} (r:RV n vm [] t V []) (h1:∀ j s,vm[j]? =some s→(j<nr↔s<nk)):RV n vm [] (aa nk t) (aa nr V) []:=by
 refine⟨by rw[←r.len,aa];simp;omega,by rw[←r.lv,aa];simp;omega,rfl,fun j s hs=> ?_,fun j s hs=>by simp at hs⟩
 obtain⟨a1,a2⟩:=r.v j s hs
 refine⟨a1,?_⟩
 have hj:j<V.length:=by rw[r.lv];exact(List.getElem?_eq_some_iff.1 hs).1
 have hs':s<t.length:=by rw[r.len];exact a1
 have get:∀ (n:Nat) (x:List AV) (i:Nat),i<x.length→(aa n x).getD i .junk=if i<n then x.getD i .junk else .junk:=by
  intro n x i hi
  unfold aa
  by_cases hin:i<n
  ·have:i<(x.take n).length:=by simp;omega
   rw[if_pos hin,List.getD,List.getElem?_append_left this,List.getElem?_take]
   simp[hin,List.getD]
  ·rw[if_neg hin,List.getD,List.getElem?_append_right (by simp;omega)]
   simp only[List.getElem?_replicate]
   split<;>rfl
 rw[get _ _ _ hs',get _ _ _ hj]
 by_cases hlt:j<nr
 ·rw[if_pos hlt,if_pos ((h1 j s hs).1 hlt),a2]
 ·rw[if_neg hlt,if_neg (fun x=>hlt ((h1 j s hs).2 x))]
end
noncomputable def cFR (p:Bool) (rs:List nS) (h0:AH):Option (AEx×List AV×AH)→Option ((AV ⊕ AV)×AH)
 | some (.ret,V,h)=>cF.cR p h0 h ((fS V h rs).map gh)
 | some (.panic v,_,h)=>fgA p h0 (.inr v,h)
 | some (.halt _,_,_)=>none
 | none=>none
section
variable {P:Program} {po:Pol} {f:FuncId} {n nv:Nat} {vm lm:List Nat} {t V L:List AV} {h:AH}
theorem yX {d:RD} {is:List RI} {k':List RK} {o:Oper} {c:List RCk} {ck:List Oper} {l:List (Oper×List Oper)} {all:Array Oper} {lm2:List Nat} {dr:Bool} {ak:List cX} {v:AV} {h':AH} {r:AEx×List AV×AH}
  (hnd:vm.Nodup) (hd:ya n vm lm o.dst=some (d,lm2)) (hc:uj P vm lm2 all ck=some c) (his:jH P (po.mu f) n vm all lm2 l=some is) (hk:KC P (po.mu f) (po.plan f) n vm ak k') (rv:RV n vm lm t V L)
  (hm:zg P po f n vm (.ops (Lc c is)::k') (iP V v d) (jA L v d) h' r):
  pQ P all (cz t o.dst v) h' ck∧ToK P po f n vm (.ops dr all l::ak) (cz t o.dst v) h' r:=by
 have rv':=DR rv hnd hd v
 cases c with
 | nil=>
   refine⟨ph rv' hc trivial,hm.2.1 dr all l is ak _ _ k' rfl his hk rv'⟩
 | cons q c=>exact hm.2.2 dr all l is (q::c) ck ak _ _ k' rfl hc his hk rv'
theorem qR {mu:TypeId→Bool} {all:Array Oper} {lm:List Nat} {l:List (Oper×List Oper)} {x:RI} {is:List RI} (he:jH P mu n vm all lm l=some (x::is)):
  ∃ o ck l' ro g d lm2 c is',l=(o,ck)::l'∧CE P mu vm lm o=some ro∧pA vm lm all o=some g∧ya n vm lm o.dst=some (d,lm2)∧uj P vm lm2 all ck=some c∧jH P mu n vm all lm2 l'=some is'∧
    x=Zl g d ro∧is=Lc c is':=by
 cases l with
 | nil=>simp[jH]at he
 | cons q l'=>
   obtain⟨o,ck⟩:=q
   simp only[jH]at he
   obtain⟨ro,h1,he⟩:=Option.bind_eq_some_iff.1 he
   obtain⟨g,h2,he⟩:=Option.bind_eq_some_iff.1 he
   obtain⟨⟨d,lm2⟩,h3,he⟩:=Option.bind_eq_some_iff.1 he
   obtain⟨c,h4,he⟩:=Option.bind_eq_some_iff.1 he
   obtain⟨is',h5,he⟩:=Option.map_eq_some_iff.1 he
   simp only[List.cons.injEq]at he
   exact⟨o,ck,l',ro,g,d,lm2,c,is',rfl,h1,h2,h3,h4,h5,he.1.symm,he.2.symm⟩
theorem Xn {dr:Bool} {all:Array Oper} {o:Oper} {ck:List Oper} {l:List (Oper×List Oper)} {ak:List cX} {v:AV} {h':AH} (hw:bB all t o=some true) (hp:mz t o=none) (hc:aT t o=none) (he:be P (po.mu f) t h o=some (v,h')) (hck:pQ P all (cz t o.dst v) h' ck):
  bC P po f (.ops dr all ((o,ck)::l)::ak) t h=bC P po f (.ops dr all l::ak) (cz t o.dst v) h':=by
 rw[mf,hw,vF,hp,Bm,hc,Vq,he,VK,S9 hck]
theorem S0 {dr:Bool} {all:Array Oper} {o:Oper} {ck:List Oper} {l:List (Oper×List Oper)} {ak:List cX} {g:FuncId} {args:List AV} {v:AV} {h':AH} (hw:bB all t o=some true) (hp:mz t o=none) (hc:aT t o=some (g,args)) (he:aj P po g args h=some (.inl v,h')) (hck:pQ P all (cz t o.dst v) h' ck):
  bC P po f (.ops dr all ((o,ck)::l)::ak) t h=bC P po f (.ops dr all l::ak) (cz t o.dst v) h':=by
 rw[mf,hw,vF,hp,Bm,hc,Kx,he,Va,S9 hck]
theorem R1 {dr:Bool} {all:Array Oper} {o:Oper} {ck:List Oper} {l:List (Oper×List Oper)} {ak:List cX} {g:FuncId} {args:List AV} {v:AV} {h':AH} (hw:bB all t o=some true) (hp:mz t o=none) (hc:aT t o=some (g,args)) (he:aj P po g args h=some (.inr v,h')):
  bC P po f (.ops dr all ((o,ck)::l)::ak) t h=some (.panic v,t,h'):=by
 rw[mf,hw,vF,hp,Bm,hc,Kx,he,LD]
theorem NQ {dr:Bool} {all:Array Oper} {o:Oper} {ck:List Oper} {l:List (Oper×List Oper)} {ak:List cX} (hw:bB all t o=some false):
  bC P po f (.ops dr all ((o,ck)::l)::ak) t h=bC P po f (.ops dr all l::ak) (cz t o.dst (.tup [])) h:=by
 rw[mf,hw,Pc]
theorem rX (hnd:vm.Nodup) (hcl:∀ j s,vm[j]? =some s→(j<nv↔s<po.nv f)):
  ∀ (k:List RK) (V L:List AV) (h:AH) (r:AEx×List AV×AH),aC (aj P po) nv k V L h=some r→zg P po f n vm k V L h r:=by
 refine aC.partial_correctness (aj P po) nv (zg P po f n vm) fun run ih k V L h r hr=> ?_
 have wanted:∀ {d:RD} {ro:RO} {is:List RI} {k':List RK},(match Fc V L ro with
   | some v=>some (.panic v,V,h)
   | none=>match bp V L ro with
   | some (g,args)=>aj P po g args h>>= fun r=>match r.1 with
     | .inl v=>run (.ops is::k') (iP V v d) (jA L v d) r.2
     | .inr v=>some (.panic v,V,r.2)
   | none=>ci V L h ro>>= fun r=>run (.ops is::k') (iP V r.1 d) (jA L r.1 d) r.2)=some r→
   ∀ {all o ck l lm lm2 c is' ak t dr},CE P (po.mu f) vm lm o=some ro→ya n vm lm o.dst=some (d,lm2)→uj P vm lm2 all ck=some c→jH P (po.mu f) n vm all lm2 l=some is'→is=Lc c is'→
   KC P (po.mu f) (po.plan f) n vm ak k'→RV n vm lm t V L→bB all t o=some true→ToK P po f n vm (.ops dr all ((o,ck)::l)::ak) t h r:=by
  intro d ro is k' hr all o ck l lm lm2 c is' ak t dr h1 h2 h3 h4 h5 hk rv hw
  obtain⟨e1,e2⟩:=In (h:=h) rv h1
  have e0:=Es rv h1
  split at hr
  ·rename_i v hpa
   injection hr with hr
   subst hr
   exact⟨t,by rw[mf,hw,vF,e0,hpa,Up],rv.drop⟩
  rename_i hpn
  have e0:=e0.trans hpn
  split at hr
  ·rename_i g args hcl'
   obtain⟨⟨x,h'⟩,hx,hr⟩:=Option.bind_eq_some_iff.1 hr
   cases x with
   | inl v=>
     simp only at hr
     subst h5
     have hm:=ih _ _ _ _ _ hr
     obtain⟨m1,m2⟩:=yX (dr:=dr) hnd h2 h3 h4 hk rv hm
     exact m2.eq (S0 hw e0 (e2.trans hcl') hx m1)
   | inr v=>
     simp only at hr
     injection hr with hr
     subst hr
     exact⟨t,R1 hw e0 (e2.trans hcl') hx,rv.drop⟩
  ·rename_i hcl'
   obtain⟨⟨v,h'⟩,hx,hr⟩:=Option.bind_eq_some_iff.1 hr
   simp only at hr
   subst h5
   have hm:=ih _ _ _ _ _ hr
   obtain⟨m1,m2⟩:=yX (dr:=dr) hnd h2 h3 h4 hk rv hm
   exact m2.eq (Xn hw e0 (e2.trans hcl') (e1.trans hx) m1)
 split at hr
 ·injection hr with hr
  subst hr
  refine zg.not_ops (by simp) fun ak t hk rv=> ?_
  cases hk
  exact⟨t,Pm,rv⟩
 ·rename_i k
  refine zg.not_ops (by simp) fun ak t hk rv=> ?_
  cases hk with
  | ss cs _ k0 _ htr hk=>
    rcases zX (po:=po) (f:=f) cs [] htr with⟨_,e2⟩ | ⟨s,l',c1,cs',e1,_⟩
    ·exact((ih _ _ _ _ _ hr).1 _ _ hk rv.drop).eq (e2 _ _ _)
    ·cases e1
 ·rename_i s l k
  refine zg.not_ops (by simp) fun ak t hk rv=> ?_
  cases hk with
  | ss cs _ k0 _ htr hk=>
    rcases zX (po:=po) (f:=f) cs (s::l) htr with⟨e1,_⟩ | ⟨s',l',c1,cs',e1,e2,e3,e4⟩
    ·cases e1
    ·injection e1 with e1 e1'
     subst e1;subst e1'
     refine ToK.eq (e4 _ _ _) ?_
     have hkc:KC P (po.mu f) (po.plan f) n vm (cs'.map .code++k0) (.ss l::k):= .ss cs' l k0 k e2 hk
     cases e3 with
     | region id all d is hreg=>
       exact((ih _ _ _ _ _ hr).2.1 d all _ is _ [] t _ rfl hreg hkc rv).eq DX
     | cond c x y a xs ys ha hx hy=>
       simp only at hr
       have hev:=aD rv ha
       split at hr
       ·rename_i b hb
        have hev2:evA t c= .bool b:=hev.trans hb
        cases b with
        | true=>
          simp only[if_true]at hr
          refine ToK.eq (by rw[Au,hev2,P6]) ((ih _ _ _ _ _ hr).1 (.code x::(cs'.map .code++k0)) t ?_ rv)
          exact .ss [x] xs _ _ (by simp[trL,hx]) hkc
        | false=>
          simp only[Bool.false_eq_true,if_false]at hr
          refine ToK.eq (by rw[Au,hev2,M7]) ((ih _ _ _ _ _ hr).1 (.code y::(cs'.map .code++k0)) t ?_ rv)
          exact .ss [y] ys _ _ (by simp[trL,hy]) hkc
       ·cases hr
     | block id b bs hb=>
       refine ToK.eq Hi ((ih _ _ _ _ _ hr).1 (.code b:: .inBlock id::(cs'.map .code++k0)) t ?_ rv)
       exact .ss [b] bs _ _ (by simp[trL,hb]) (.blk id _ _ hkc)
     | loop b bs hb=>
       exact ToK.eq M4 ((ih _ _ _ _ _ hr).1 (.inLoop b::(cs'.map .code++k0)) t (.lp b bs _ _ hb hkc) rv)
     | exit id=>
       obtain⟨rk',h1,hr⟩:=Option.bind_eq_some_iff.1 hr
       obtain⟨k',h2,h3⟩:=N0 hkc (by simpa[gJ]using h1:gJ id (.ss l::k)=some rk')
       exact ToK.eq (by rw[L1,h2,U9]) ((ih _ _ _ _ _ hr).1 k' t h3 rv)
     | ret=>
       injection hr with hr
       subst hr
       exact⟨t,Ol,rv⟩
 ·rename_i id k
  refine zg.not_ops (by simp) fun ak t hk rv=> ?_
  cases hk with
  | blk _ k0 _ hk=>exact ToK.eq Bx ((ih _ _ _ _ _ hr).1 _ _ hk rv)
 ·rename_i KH k
  injection hr with hr
  subst hr
  refine zg.not_ops (by simp) fun ak t hk rv=> ?_
  cases hk with
  | halt _ k0 _=>exact⟨t,MF,rv⟩
 ·rename_i b k
  refine zg.not_ops (by simp) fun ak t hk rv=> ?_
  cases hk with
  | lp c _ k0 _ hb hk=>
    refine ToK.eq EB ((ih _ _ _ _ _ hr).1 (.code c:: .inLoop c::k0) _ ?_ (rv.clear hcl))
    exact .ss [c] b _ _ (by simp[trL,hb]) (.lp c b _ _ hb hk)
 ·rename_i k
  refine⟨fun ak t hk rv=>(by cases hk),fun dr all l is ak lm t k' he htr hk rv=> ?_,fun dr all l is c ck ak lm t k' he=>(by cases he)⟩
  injection he with he1 he2
  injection he1 with he1
  subst he1;subst he2
  cases l with
  | nil=>exact ToK.eq B6 ((ih _ _ _ _ _ hr).1 _ _ hk rv.drop)
  | cons q l=>
    obtain⟨o,ck⟩:=q
    simp only[jH]at htr
    obtain⟨ro,h1,htr⟩:=Option.bind_eq_some_iff.1 htr
    obtain⟨g,h2,htr⟩:=Option.bind_eq_some_iff.1 htr
    obtain⟨⟨d,lm2⟩,h3,htr⟩:=Option.bind_eq_some_iff.1 htr
    obtain⟨c,h4,htr⟩:=Option.bind_eq_some_iff.1 htr
    obtain⟨is',h5,htr⟩:=Option.map_eq_some_iff.1 htr
    cases htr
 ·rename_i l is k
  split at hr
  ·rename_i hck
   refine⟨fun ak t hk rv=>(by cases hk),fun dr all l2 is2 ak lm t k' he htr hk rv=> ?_,fun dr all l2 is2 c ck ak lm t k' he hc htr hk rv=> ?_⟩
   ·injection he with he1 he2
    injection he1 with he1
    subst he1;subst he2
    obtain⟨o,ck,l',ro,g,d,lm2,c,is',_,_,_,_,_,_,hx,_⟩:=qR htr
    cases g<;>cases hx
   ·injection he with he1 he2
    injection he1 with he1
    injection he1 with he0 he1
    injection he0 with he0
    subst he0;subst he1;subst he2
    exact⟨ph rv hc hck,(ih _ _ _ _ _ hr).2.1 dr all l2 is ak lm t _ rfl htr hk rv⟩
  ·cases hr
 ·rename_i d ro is k
  refine⟨fun ak t hk rv=>(by cases hk),fun dr all l is2 ak lm t k' he htr hk rv=> ?_,fun dr all l is2 c ck ak lm t k' he=>(by cases he)⟩
  injection he with he1 he2
  injection he1 with he1
  subst he1;subst he2
  obtain⟨o,ck,l',ro',g,d',lm2,c,is',rfl,h1,h2,h3,h4,h5,hx,h6⟩:=qR htr
  cases g with
  | some g=>cases hx
  | none=>
    injection hx with hx1 hx2
    subst hx1;subst hx2
    exact wanted hr h1 h3 h4 h5 h6 hk rv (by rw[jz rv h2];rfl)
 ·rename_i a w d ro is k
  refine⟨fun ak t hk rv=>(by cases hk),fun dr all l is2 ak lm t k' he htr hk rv=> ?_,fun dr all l is2 c ck ak lm t k' he=>(by cases he)⟩
  injection he with he1 he2
  injection he1 with he1
  subst he1;subst he2
  obtain⟨o,ck,l',ro',g,d',lm2,c,is',rfl,h1,h2,h3,h4,h5,hx,h6⟩:=qR htr
  cases g with
  | none=>cases hx
  | some g=>
    injection hx with hx1 hx2 hx3 hx4
    obtain⟨ga,gw⟩:=g
    simp only at hx1 hx2
    subst hx1;subst hx2;subst hx3;subst hx4
    have hg:=jz rv h2
    simp only[tP]at hg
    split at hr
    ·cases hr
    ·rename_i hgf
     subst h6
     obtain⟨_,m2⟩:=yX (dr:=dr) hnd h3 h4 h5 hk rv (ih _ _ _ _ _ hr)
     exact m2.eq (NQ (hg.trans hgf))
    ·rename_i hgt
     exact wanted hr h1 h3 h4 h5 h6 hk rv (hg.trans hgt)
theorem i8 (rv:RV n vm [] t V []):∀ {l:List ResultVar} {rs:List nS},lI P vm l=some rs→qo P t h l=fS V h rs
 | [],rs,he=>by simp only[lI,Option.some.injEq]at he;subst he;rfl
 | .tmp i::l,rs,he=>by
   simp only[lI]at he
   obtain⟨j,hj,he⟩:=Option.bind_eq_some_iff.1 he
   obtain⟨rs',hrs,rfl⟩:=Option.map_eq_some_iff.1 he
   simp only[qo,fS,i8 rv hrs,(rv.v j i (mB hj)).2]
 | .cell i ty::l,rs,he=>by
   simp only[lI]at he
   split at he
   ·cases he
   ·rename_i hn
    obtain⟨j,hj,he⟩:=Option.bind_eq_some_iff.1 he
    obtain⟨rs',hrs,rfl⟩:=Option.map_eq_some_iff.1 he
    simp only[qo,fS,i8 rv hrs,(rv.v j i (mB hj)).2,if_neg hn]
def x9 (a n nk nv:Nat) (vm:List Nat):Bool:=
 decide (a≤vm.length∧a≤n) && (List.range vm.length).all fun j=>let s:=vm.getD j 0
  decide (s<n) && (decide (j<nv)==decide (s<nk)) && (if j<a∨s<a then s==j else true) && (List.range j).all fun i=>vm.getD i 0 != s
def FnR (P:Program) (po:Pol) (g:FuncId) (a nv:Nat) (vm:List Nat) (ss:List RS) (rs:List nS) (p:Bool):Prop:=
 ∃ fn c,P.funcs[g]? =some fn∧fn.body=some c∧po.ext g=none∧po.use g=true∧po.pure g=p∧bG P (po.mu g) (po.plan g) fn.ntmps vm c []=some ss∧x9 a fn.ntmps (po.nv g) nv vm=true∧lI P vm fn.results.toList=some rs
theorem ag {g:FuncId} {a:Nat} {ss:List RS} {rs:List nS} {p:Bool} {args:List AV} {q:(AV ⊕ AV)×AH} (hf:FnR P po g a nv vm ss rs p) (ha:args.length=a)
  (hr:cFR p rs h (aC (aj P po) nv [.ss ss] (args++η (vm.length - args.length) .junk) [] h)=some q):aj P po g args h=some q:=by
 obtain⟨fn,c,h1,h2,h3,h4,h5,h6,h7,h8⟩:=hf
 rw[Mc h3 h1 h2 h4 h5]
 unfold x9 at h7
 simp only[Bool.and_eq_true,decide_eq_true_eq,List.all_eq_true,List.mem_range,beq_iff_eq,bne_iff_ne,ne_eq]at h7
 obtain⟨⟨a1,a2⟩,a3⟩:=h7
 have get:∀ j s,vm[j]? =some s→j<vm.length∧vm.getD j 0=s:=fun j s hj=>⟨(List.getElem?_eq_some_iff.1 hj).1,by simp[List.getD,hj]⟩
 have hnd:vm.Nodup:=by
  rw[List.nodup_iff_pairwise_ne,List.pairwise_iff_getElem]
  intro i j hi hj hij e
  have:=(a3 j hj).2 i hij
  apply this
  simp[List.getD,hi,hj,e]
 have hcl:∀ j s,vm[j]? =some s→(j<nv↔s<po.nv g):=by
  intro j s hj
  obtain⟨g1,g2⟩:=get j s hj
  have:=(a3 j g1).1.1.2
  rw[g2]at this
  exact decide_eq_decide.1 this
 have rv:RV fn.ntmps vm [] (args++η (fn.ntmps - args.length) .junk) (args++η (vm.length - args.length) .junk) []:=by
  refine⟨by simp;omega,by simp;omega,rfl,fun j s hj=> ?_,fun j s hj=>by simp at hj⟩
  obtain⟨g1,g2⟩:=get j s hj
  obtain⟨⟨⟨b1,_⟩,b2⟩,_⟩:=a3 j g1
  rw[g2]at b1 b2
  refine⟨b1,?_⟩
  by_cases hc:j<a∨s<a
  ·rw[if_pos hc]at b2
   have:s=j:=by simpa using b2
   subst this
   have hlt:s<args.length:=by omega
   simp[List.getD,List.getElem?_append_left hlt]
  ·have c1:¬ j<args.length:=by omega
   have c2:¬ s<args.length:=by omega
   simp only[List.getD,List.getElem?_append_right (Nat.not_lt.1 c1),List.getElem?_append_right (Nat.not_lt.1 c2),List.getElem?_replicate]
   split<;>split<;>rfl
 generalize hrun:aC (aj P po) nv [.ss ss] (args++η (vm.length - args.length) .junk) [] h=x at hr
 cases x with
 | none=>cases hr
 | some r=>
   have hm:=(rX (n:=fn.ntmps) (f:=g) hnd hcl _ _ _ _ _ hrun).1 [.code c] _ (.ss [c] ss [] [] (by simp[trL,h6]) .nil) rv
   obtain⟨t',e1,e2⟩:=hm
   rw[e1]
   obtain⟨x,V',h'⟩:=r
   cases x with
   | panic v=>exact hr
   | halt K=>cases hr
   | ret=>
     rw[XC]
     have:=i8 (h:=h') e2 h8
     unfold qi
     rw[this]
     exact hr
end
end Go.Proofs.YtkdbjfncchmmpaaGreat
