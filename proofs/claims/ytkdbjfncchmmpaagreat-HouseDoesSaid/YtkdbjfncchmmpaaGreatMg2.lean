/- A call does in memory what the plain model says: what is to be shown, and the steps of the machine. Statements whose order Go leaves open: the plain facts. Statements whose order Go leaves open: the run of a plan, step by step, and what of it is true in every order. The run of a plan seen from its end: what each operation looks at stays. In every order that Go leaves open a statement comes to what its plan comes to. The memory that a call made may be forgotten. What the plain model says of a call is what the machine does. -/
import Derived.Test.YtkdbjfncchmmpaaGreatMg1
import Derived.Orders
set_option linter.unusedSimpArgs false
set_option linter.unusedVariables false
set_option maxHeartbeats 4000000
set_option maxRecDepth 1000000
open List renaming replicate→al,getElem?_eq_getElem→fr,getElem?_eq_some_iff→fQ,getD→dz,length_cons→hk,getElem_mem→iX,all_eq_true→jq,getElem?_append_right→mx,mem_range→j1,getElem?_cons_zero→mY,append_assoc→k',range→i7,map_cons→kT,nil_append→lQ,getElem?_append_left→o4,cons_append→m3,getElem?_eq_none→o3,getElem?_cons_succ→pS,append_nil→n3,mem_cons→n0,mem_map→o8,mem_of_getElem?→tc,getElem?_take_of_lt→uv,contains_eq_mem→vH,getElem?_map→vF
open Nat renaming le_refl→b4,lt_of_lt_of_le→fq,le_trans→e7,zero_add→hH,zero_le→mz,lt_or_ge→ox,add_assoc→qv
open Go.IntKind renaming i64→j
open Option renaming some→o,none→ad,bind_eq_some_iff→dK,map_eq_some_iff→dN,bind_some→c2,map_some→hF,getD_some→rf
open Bool renaming false→T,true→O,and_eq_true→hx,false_eq_true→l9,or_eq_true→qC
open Go renaming TypeId→a6,Oper→bh,Program→cT,Value→b1,FuncId→c',World→dy,Operand→gy,execOp→fB,undef→gq,Frame→gI,lone→e3,Code→fK
open Array renaming getD_eq_getD_getElem?→iL
open Option.some renaming injEq→hZ
open Go.Result renaming andThen_ok→ij
open Go.Sem renaming run_bind→iA,run_pure→lO
open Prod.mk renaming injEq→kh
open Go.Op renaming operands→iE
open Go.Frame renaming enter→j0
open Go.Region renaming binds→kR,before→mQ
open Go.RowKit.Below renaming refl→mv
open Ne renaming symm→lP
open List.cons renaming injEq→xf
namespace Go.Proofs.YtkdbjfncchmmpaaGreat
variable{rest:List Nat}{u:b1}{ds:Bool}{gj:List iU}
open Go Go.RowKit
def AC(P:cT)(g:c')(args:List E)(h:ag)(r:(E⊕E)×ag):Prop:=∀(m:eh) (w:dy) (bA:List b1),cc P m h w->dT P m h args bA->Calls P g bA.toArray w λe ba=>∃a9,Ext m h a9 r.2/\cc P a9 r.2 ba/\Below m.base w ba/\
   match r.1 with
   |.inl v=>∃u,e= .returned u/\bX P a9 r.2 v u
   |.inr v=>∃u,e= .panicked [{v:=u,recovered:=T}]/\bX P a9 r.2 v u
structure l'(P:cT)(W:h8):Prop where
 ty:pM P
 name:∀(g:Nat) (fn:Func),P.funcs[g]? =o fn->W.use g=O->(fn.name== "runtime.NumGoroutine")=T
 ext:∀g ae,W.ext g=o ae->∃fn,P.funcs[g]? =o fn/\(fn.body.isNone=T/\(fn.name== "runtime.NumGoroutine")=T)/\∀args h r,ae args h=o r->AC P g args h r
 cz:∀(g:Nat) (fn:Func) (c:fK),P.funcs[g]? =o fn->fn.body=o c->W.use g=O->iz (W.cz g) (W.e9 g) c=O
 mixed:P.follows .mixedOrders=O
 TX:∀g e,e<2000000->W.e9 g (1000000+e)=O->(kG P e).isSome=O
 TY:∀g ty,W.e9 g (1000000+(ty+2000000))=O->W.a' g ty=T/\W.a' g (ty+1000000)=O
def eS(P:cT)(S:Nat->Bool)(m:eh)(h:ag)(w:dy)(b:gI)(cs:List gI)(yo:Machine)(r:kw×List E×ag):Prop:=∃a9 ba,Ext m h a9 r.2.2/\cc P a9 r.2.2 ba/\Below m.base w ba/\
   match r.1 with
   |.ret=>∃(eP:Act) (todo:List Item),dY P a9 r.2.2 r.2.1 eP.tmps/\eP.defers=b.defers/\Steps P yo (e3 {b.at eP todo with mode:=.returning} cs ba)
   |.panic v=>∃(eP:Act) (todo:List Item) (u:b1),(∃uo,dY P a9 r.2.2 uo eP.tmps/\∀d,S d=O->uo.getD d .az=r.2.1.getD d .az)/\eP.defers=b.defers/\bX P a9 r.2.2 v u/\Steps P yo (e3 {b.at eP todo with mode:=.panicking [{v:=u,recovered:=T}]} cs ba)
   |.halt K=>∃(eP:Act),dY P a9 r.2.2 r.2.1 eP.tmps/\eP.defers=b.defers/\Steps P yo (e3 (b.at eP K) cs ba)
section
variable{P:cT}{m cL a9:eh}{h J F:ag}{w cY ba:dy}{t:List E}{a:Act}{I:bh}{b:gI}{cs:List gI}{yo TZ:Machine}{r:kw×List E×ag}
theorem eS.steps{S:Nat->Bool}(aC:Steps P yo TZ)(aF:eS P S m h w b cs TZ r):eS P S m h w b cs yo r:=by
 obtain⟨a9,ba,J,R,ah,aD⟩:=aF;refine⟨a9,ba,J,R,ah,?_⟩;split at aD
 ·rename_i ao;obtain⟨eP,todo,cE,c6,eb⟩:=aD;exact⟨eP,todo,cE,c6,aC.trans eb⟩
 ·rename_i v ao;obtain⟨eP,todo,u,hy,cE,c6,eb⟩:=aD;exact⟨eP,todo,u,hy,cE,c6,aC.trans eb⟩
 ·rename_i K ao;obtain⟨eP,cE,c6,eb⟩:=aD;exact⟨eP,cE,c6,aC.trans eb⟩
theorem eS.after{S:Nat->Bool}(aw:Ext m h cL J)(ab:Below m.base w cY)(aF:eS P S cL J cY b cs yo r):eS P S m h w b cs yo r:=by obtain⟨a9,ba,cE,c6,eb,dx⟩:=aF;exact⟨a9,ba,aw.trans cE,c6,ab.trans (by rw[<-aw.base];exact eb),dx⟩
theorem dY.clear(a3:dY P m h t a.tmps)(n:Nat):dY P m h (cb n t) a.tmps:=by
 refine⟨by rw[a3.1,cb];simp;omega,λi af=>?_⟩;unfold cb at af ⊢;by_cases gL:i<(t.take n).length
 ·rw[List.getElem_append_left gL,List.getElem_take];exact a3.2 i _
 ·rw[List.getElem_append_right (by omega)];simp only[List.getElem_replicate];exact .az _
theorem MT{all:Array bh}{i:Nat}{k:List Item}(aF:all[i]? =o I)(kz:Region.wanted I (yielded all a.tmps)=O)(ao:(fB a.eval I).run P w= .ok (.value u) ba\/((fB a.eval I).run P w= .ok .skip ba/\u=gq)):Steps P (e3 (b.at a (.inRegion all (i::rest)::k)) cs w) (e3 (b.at (a.put I.dst u) (.inRegion all rest::k)) cs ba):=by
 have a8:=stepG_op (P:=P) (b:=b) (k:=k) (cs:=cs) (w:=w) (rest:=rest) aF kz;have oD:∀v,(b.at a (.inRegion all (i::rest)::k)).finish v=b.at (a.put I.dst v) (.inRegion all rest::k):=by intro v;rw[Frame.finish_at,aF];rfl
 refine .one (step_lone_go ?_);rcases ao with ao|⟨ao,rfl⟩
 ·rw[a8,<-oD];simp[stepG.apply,ao]
 ·rw[a8,<-oD];simp[stepG.apply,ao]
theorem MU{all:Array bh}{i:Nat}{k:List Item}(aF:all[i]? =o I)(kz:Region.wanted I (yielded all a.tmps)=T):Steps P (e3 (b.at a (.inRegion all (i::rest)::k)) cs w) (e3 (b.at (a.put I.dst gq) (.inRegion all rest::k)) cs w):=by have aC:=step_op_skip (P:=P) (b:=b) (a:=a) (k:=k) (cs:=cs) (w:=w) (ops:=all) (i:=i) (rest:=rest) (by simp[aF];simpa using kz);simp only[aF,c2]at aC;exact .one aC
theorem DP{all:Array bh}{i:Nat}{k:List Item}{f:c'}{args:Array b1}{cF:Ending->dy->Prop}(aF:all[i]? =o I)(kz:Region.wanted I (yielded all a.tmps)=O)(ao:(fB a.eval I).run P w= .ok (.enter f args) w)(an:Calls P f args w cF)(mX:∀ba,¬cF .outgrown ba):∃e ba,cF e ba/\((∃v,e= .returned v/\Steps P (e3 (b.at a (.inRegion all (i::rest)::k)) cs w) (e3 (b.at (a.put I.dst v) (.inRegion all rest::k)) cs ba))\/(∃gr,e= .panicked gr/\∃todo,Steps P (e3 (b.at a (.inRegion all (i::rest)::k)) cs w) (e3 {b.at a todo with mode:=.panicking gr} cs ba))):=by
 have a8:=stepG_op (P:=P) (b:=b) (k:=k) (cs:=cs) (w:=w) (rest:=rest) aF kz;have oD:∀v,(b.at a (.inRegion all (i::rest)::k)).finish v=b.at (a.put I.dst v) (.inRegion all rest::k):=by intro v;rw[Frame.finish_at,aF];rfl
 obtain⟨e,agK,aI,hi,T0,_,T1⟩:=an (b.at a (.inRegion all (i::rest)::k)::cs);have T2:step P (e3 (b.at a (.inRegion all (i::rest)::k)) cs w)= .next (e3 (j0 P f args .normal) (b.at a (.inRegion all (i::rest)::k)::cs) w):=step_lone_go (by rw[a8];simp[stepG.apply,ao,Frame.at]);refine⟨e,agK,hi,?_⟩;cases e with
 |returned v=>left;refine⟨v,rfl,.head T2 (Steps.trans T0 (.one ?_))⟩;rw[<-oD];exact step_leave_returned T1
 |panicked chain=>right;refine⟨chain,rfl,.inRegion all (i::rest)::k,.head T2 (Steps.trans T0 (.one ?_))⟩;rw[<-Frame.raise_at];exact step_leave_panicked T1
 |outgrown=>exact absurd hi (mX _)
theorem yp(a3:dY P m h t a.tmps)(all:Array bh)(I:bh){x:Bool}(hw:bv all t I=o x):Region.wanted I (yielded all a.tmps)=x:=by
 unfold bv at hw;unfold Region.wanted;split at hw
 ·rename_i a8;rw[a8];injection hw
 ·rename_i D want a8;rw[a8];simp only;split at hw
  ·rename_i d a7;have bf:t.getD d .az≠.az->d<t.length:=by
    intro ab;rcases ox d t.length with J|J
    ·exact J
    ·rw[dz,o3 J]at ab;exact absurd rfl ab
   have U:=a3.get d;split at hw
   ·rename_i aO ab;injection hw with hw;rw[ab]at U;have MV:d<a.tmps.size:=by rw[a3.1];exact bf (by rw[ab];simp)
    have BS:a.tmps.getD d gq= .bool aO:=by revert U;generalize a.tmps.getD d gq=q;intro U;cases U;rfl
    have au:a.tmps[d]? =o (.bool aO):=by rw[<-BS];simp[Array.getD,MV]
    simp only[yielded,a7,c2,au];rw[<-hw];cases want<;>cases aO<;>rfl
   ·rename_i bA ab;injection hw with hw;rw[ab]at U;have MV:d<a.tmps.size:=by rw[a3.1];exact bf (by rw[ab];simp)
    obtain⟨us,BS⟩:∃us,a.tmps.getD d gq= .tuple us:=by revert U;generalize a.tmps.getD d gq=q;intro U;cases U;exact⟨_,rfl⟩
    have au:a.tmps[d]? =o (.tuple us):=by rw[<-BS];simp[Array.getD,MV]
    simp only[yielded,a7,c2,au];rw[<-hw];cases want<;>rfl
   ·cases hw
  ·cases hw
theorem T3(a3:dY P m h t a.tmps){v:E}(aH:nj t I=o v):∃u,bX P m h v u/\(fB a.eval I).run P w= .halt (.panic u) w:=by
 unfold nj at aH;split at aH
 ·rename_i x aF;split at aH
  ·rename_i q bs w5;injection aH with aH;subst aH;have U:=hv a3 x;rw[w5]at U;obtain⟨u,bQ⟩:∃u,a.eval x=u:=⟨_,rfl⟩;rw[bQ]at U;cases U with
   |iface _ _ gB J=>refine⟨_,.iface q bs gB J,?_⟩;unfold fB;rw[aF];simp only[bQ,Instr.panic];rfl
  ·cases aH
 ·cases aH
theorem T4{all:Array bh}{i:Nat}{k:List Item}(aF:all[i]? =o I)(kz:Region.wanted I (yielded all a.tmps)=O)(ao:(fB a.eval I).run P w= .halt (.panic u) w):Steps P (e3 (b.at a (.inRegion all (i::rest)::k)) cs w) (e3 {b.at a (.inRegion all (i::rest)::k)with mode:=.panicking [{v:=u,recovered:=T}]} cs w):=by have a8:=stepG_op (P:=P) (b:=b) (k:=k) (cs:=cs) (w:=w) (rest:=rest) aF kz;refine .one (step_lone_go ?_);rw[a8,<-Frame.raise_at];simp[stepG.apply,ao]
theorem HF(a3:dY P m h t a.tmps){g:c'}{args:List E}(an:fP t I=o (g,args)){fn:Func}(bl:P.funcs[g]? =o fn)(aE:(fn.name== "runtime.NumGoroutine")=T)(ab:fn.body.isNone=T):∃bA:List b1,dT P m h args bA/\(fB a.eval I).run P w= .ok (.enter g bA.toArray) w:=by
 unfold fP at an;split at an
 ·rename_i BU BV T5 aF;split at an
  ·rename_i fu first captured w5
   injection an with an;injection an with J R;subst J;subst R;have U:=hv a3 BU;rw[w5]at U;obtain⟨u,bQ⟩:∃u,a.eval BU=u:=⟨_,rfl⟩;rw[bQ]at U;cases U with
   |fn _ l c b2 ej au ax bc bY=>
     refine⟨b2++BV.toList.map a.eval++ej,dT.append (dT.append ⟨au,bc⟩ (dT.map λx _=>hv a3 x)) ⟨ax,bY⟩,?_⟩;have cU:(b2.toArray++BV.map a.eval)++ej.toArray=(b2++BV.toList.map a.eval++ej).toArray:=by apply Array.ext';simp
     simp only[fB,aF,bQ,resolve,Deferred.ofValue,iA,lO,ij,invoke,callFunc,run_program,bl,aE,ab,l9,if_false,cU]
  ·cases an
 ·cases an
theorem yq(hw:cc P m h w)(a3:dY P m h t a.tmps){fn:Func}{v:E}(U:qr fn t h P=o v):∃u,(results fn a.tmps).run P w= .ok u w/\bX P m h v u:=by
 unfold qr at U;obtain⟨bA,fl,rfl⟩:=dN.1 U;have key:∀(rs:List ResultVar) (bA:List E),qq P t h rs=o bA->∃us:List b1,(rs.mapM λ(x:ResultVar)=>(match x with
   |.tmp t=>pure (a.tmps.getD t gq)
   |.cell c t=>do loadVar t (<-asAddr (a.tmps.getD c gq)):Sem b1)).run P w= .ok us w/\dT P m h bA us:=by
  intro rs;induction rs with
  |nil=>intro bA fl;simp[qq]at fl;subst fl;exact⟨[],by simp,dT.nil⟩
  |cons x rs aZ=>
    intro bA fl;cases x with
    |tmp i=>simp only[qq]at fl;obtain⟨l,am,rfl⟩:=dN.1 fl;obtain⟨us,J,R⟩:=aZ l am;exact⟨_,by simp only[List.mapM_cons,iA,lO,ij,J],dT.cons (a3.get i) R⟩
    |cell i ty=>
      simp only[qq]at fl;split at fl
      ·cases fl
      ·rename_i aE;obtain⟨v,U,fl⟩:=dK.1 fl;obtain⟨l,am,rfl⟩:=dN.1 fl;obtain⟨us,J,R⟩:=aZ l am;have aw:=a3.get i;obtain⟨d,a7⟩:=Option.isSome_iff_exists.1 (by cases la:P.underlying ty<;>simp_all:(P.underlying ty).isSome=O);obtain⟨i0,g9⟩:=Tt a7;have MW:∃u,(do loadVar ty (<-asAddr (a.tmps.getD i gq)):Sem b1).run P w= .ok u w/\bX P m h v u:=by
        revert aw U;generalize a.tmps.getD i gq=Hm;generalize t.getD i .az=ex;intro U aw;obtain⟨To,ur,di,am,_⟩:=aw.Mp;rw[<-am]at U;cases ur with
        |gc t b _ _=>exact absurd rfl (di t b)
        |ptr b i off ab=>
          simp only[cS]at U;rcases ao:h.row b i with _|e
          ·simp[ao]at U
          ·simp only[ao,c2]at U;obtain⟨ae,dt⟩:=Tn hw ao;obtain⟨u,J,R⟩:=Hl (w:=w) ty a7 (by rw[g9];simp) (m.cm b) (i*P.cellsOf (m.hg b)) off e ae dt U;exact⟨u,by simp[asAddr,J],R⟩
        |ip e off g fk ae eR mR=>simp only[cS]at U;obtain⟨u,J,R⟩:=Hl (w:=w) (h:=h) (m:=m) ty a7 (by rw[g9];simp) g fk off e ae (λD aa=>⟨hw.eo _ _ _ (eR D aa),mR D aa⟩) U;exact⟨u,by simp[asAddr,J],R⟩
        |_=>simp[cS]at U
       obtain⟨u,my,la⟩:=MW;exact⟨_,by simp only[List.mapM_cons,iA,ij,my,J,lO],dT.cons la R⟩
 obtain⟨us,J,R⟩:=key _ _ fl;unfold results;rw[Array.mapM_eq_mapM_toList];have lN:(do
   let bA <-(List.toArray<$>(fn.results.toList.mapM λ(x:ResultVar)=>(match x with
    |.tmp t=>pure (a.tmps.getD t gq)
    |.cell c t=>do loadVar t (<-asAddr (a.tmps.getD c gq)):Sem b1)))
   pure (if h:bA.size=1 then bA[0]else .tuple bA):Sem b1).run P w= .ok (if h:us.toArray.size=1 then us.toArray[0]else .tuple us.toArray) w:=by
  simp[J, -iL]
 refine⟨_,lN,?_⟩;by_cases am:us.length=1
 ·obtain⟨u,rfl⟩:=List.length_eq_one_iff.1 am;have zV:bA.length=1:=R.1.symm;obtain⟨v,rfl⟩:=List.length_eq_one_iff.1 zV;have:=R.2 0 (by simp) (by simp);simpa[iV]using this
 ·have zV:bA.length≠1:=by rw[<-R.1];exact am
  have au:iV bA= .bU bA:=by
   unfold iV;split
   ·simp at zV
   ·rfl
  rw[au,dif_neg (by simpa using am)];exact .bU _ _ R.1 R.2
end
open Go Go.RowKit
section
variable{P:cT}{t fZ:List E}{h F:ag}{I:bh}{all:Array bh}{M:Array Nat}
theorem M2{x:gy}(aw:∀d,x= .tmp d->t.getD d .az=fZ.getD d .az):bD t x=bD fZ x:=by
 cases x with
 |tmp d=>exact aw d rfl
 |_=>rfl
theorem HG(am:∀d∈I.looksAt all,t.getD d .az=fZ.getD d .az):∀x∈I.op.operands,bD t x=bD fZ x:=by intro x aw;refine M2 λd a7=>am d ?_;subst a7;exact List.mem_append_left _ (List.mem_filterMap.2 ⟨.tmp d,by simpa using aw,rfl⟩)
theorem HH(am:∀d∈I.looksAt all,t.getD d .az=fZ.getD d .az):bv all t I=bv all fZ I:=by
 unfold bv;split
 ·rfl
 ·rename_i D want a8;split
  ·rename_i d a7;rw[am d (List.mem_append_right _ (by simp[a8,a7]))]
  ·rfl
theorem MX(am:∀d∈I.looksAt all,t.getD d .az=fZ.getD d .az):fP t I=fP fZ I:=by
 have fX:=HG am;unfold fP;split
 ·rename_i BU BV T5 aF;rw[aF]at fX;have J:bD t BU=bD fZ BU:=fX _ (by simp[iE,Call.operands]);have R:BV.toList.map (bD t)=BV.toList.map (bD fZ):=List.map_congr_left λx aw=>fX _ (by simp[iE,Call.operands];exact .inr (by simpa using aw));rw[J,R]
 ·rfl
theorem agL(am:∀d∈I.looksAt all,t.getD d .az=fZ.getD d .az):nj t I=nj fZ I:=by
 have fX:=HG am;unfold nj;split
 ·rename_i x aF;rw[fX x (by simp[aF,iE])]
 ·rfl
theorem T6(hj:List (Nat×gy))(aH:∀x∈hj.map (·.2),bD t x=bD fZ x):(hj.map λq=>(q.1,bD t q.2))=hj.map λq=>(q.1,bD fZ q.2):=List.map_congr_left λp hm=>by rw[aH p.2 (o8.2 ⟨p,hm,rfl⟩)]
theorem T7(xs:Array gy)(aH:∀x∈xs,bD t x=bD fZ x):xs.toList.map (bD t)=xs.toList.map (bD fZ):=List.map_congr_left λx aw=>aH x (by simpa using aw)
theorem agM(fX:∀x∈I.op.operands,bD t x=bD fZ x):jY P t I=jY P fZ I:=by
 unfold jY;split
 ·rename_i x aF;rw[fX x (by simp[aF,iE])]
 ·rename_i x aF;rw[fX x (by simp[aF,iE])]
 ·rename_i c x y aF;rw[fX c (by simp[aF,iE]),fX x (by simp[aF,iE]),fX y (by simp[aF,iE])]
 ·rename_i ty parts aF;rw[T6 parts.toList λx aw=>fX x (by rw[aF];simp only[iE];simpa using aw)]
 ·rename_i x aF;rw[fX x (by simp[aF,iE])]
 ·rename_i op ty x y s5 aF;rw[fX x (by simp[aF,iE]),fX y (by simp[aF,iE])]
 ·rename_i op ty x aF;rw[fX x (by simp[aF,iE])]
 ·rename_i src dst x aF;rw[fX x (by simp[aF,iE])]
 ·rename_i ty x aF;rw[fX x (by simp[aF,iE])]
 ·rename_i f first captured aF
  rw[T7 first λx aw=>fX x (by simp[aF,iE,aw]),T7 captured λx aw=>fX x (by simp[aF,iE,aw])]
 ·rename_i ty x ih af ni aF;have J:bD t x=bD fZ x:=fX x (by simp[aF,iE]);have R:ih.map (bD t)=ih.map (bD fZ):=by
   cases ih with
   |none=>rfl
   |some l=>simp only[hF];rw[fX l (by simp[aF,iE])]
  have ah:af.map (bD t)=af.map (bD fZ):=by
   cases af with
   |none=>rfl
   |some l=>simp only[hF];rw[fX l (by simp[aF,iE])]
  rw[J,R,ah]
 ·rename_i s x f aF;rw[fX x (by simp[aF,iE])]
 ·rename_i s x f aF;rw[fX x (by simp[aF,iE])]
 ·rename_i ty x bV aF;rw[fX x (by simp[aF,iE]),fX bV (by simp[aF,iE])]
 ·rename_i ty x bV aF;rw[fX x (by simp[aF,iE]),fX bV (by simp[aF,iE])]
 ·rename_i x DH aS ok aF;rw[fX x (by simp[aF,iE])]
 ·rename_i x i aF;rw[fX x (by simp[aF,iE])]
 ·rename_i args argTypes aF;have fg:∀x∈args.toList,bD t x=bD fZ x:=λx aw=>fX x (by rw[aF];simp[iE,Call.operands];simpa using aw);split
  ·rename_i x ty qy aX r5;rw[fg x (by rw[aX];simp)]
  ·rfl
 ·rename_i args argTypes aF;have fg:∀x∈args.toList,bD t x=bD fZ x:=λx aw=>fX x (by rw[aF];simp[iE,Call.operands];simpa using aw);split
  ·rename_i x y aX;rw[fg x (by rw[aX];simp),fg y (by rw[aX];simp)]
  ·rfl
 ·rename_i args argTypes aF;have fg:∀x∈args.toList,bD t x=bD fZ x:=λx aw=>fX x (by rw[aF];simp[iE,Call.operands];simpa using aw);split
  ·rename_i x y aX;rw[fg x (by rw[aX];simp),fg y (by rw[aX];simp)]
  ·rfl
 ·rfl
theorem T8(a':a6->Bool)(am:∀d∈I.looksAt all,t.getD d .az=fZ.getD d .az):fF P a' t h I=fF P a' fZ h I:=by
 have fX:=HG am;have aH:=agM (P:=P) fX;clear am;unfold fF;split
 ·rfl
 ·rename_i e x aF;rw[fX x (by simp[aF,iE])]
 ·rename_i ty len parts aF;rw[T6 parts.toList λx aw=>fX x (by rw[aF];simp only[iE];simpa using aw)]
 ·rename_i ty x aF;rw[fX x (by simp[aF,iE])]
 ·rename_i ty x y aF;rw[fX x (by simp[aF,iE]),fX y (by simp[aF,iE])]
 ·rename_i ty x y aF;rw[fX x (by simp[aF,iE]),fX y (by simp[aF,iE])]
 ·rename_i args argTypes aF;have fg:∀x∈args.toList,bD t x=bD fZ x:=λx aw=>fX x (by rw[aF];simp[iE,Call.operands];simpa using aw);split
  ·rename_i x y ty uj aX r5;rw[fg x (by rw[aX];simp),fg y (by rw[aX];simp)]
  ·rfl
 ·rw[aH]
theorem T9(a':a6->Bool)(aC:nk I=O)(aE:sZ I=T)(h:ag):fF P a' t h I=(jY P t I).map λv=>(v,h):=by
 unfold fF;split
 all_goals first
  |rfl
  |(rename_i aF;simp[nk,aF]at aC;done)
  |(rename_i aF;simp[sZ,aF]at aE;done)
theorem agN(a':a6->Bool)(aC:nk I=O){v:E}(he:fF P a' t h I=o (v,F)):F=h:=by
 by_cases aE:sZ I=O
 ·unfold sZ at aE;split at aE
  ·rename_i ty a aF;unfold fF at he;rw[aF]at he;simp only at he;split at he
   ·cases he
   ·obtain⟨u,_,he⟩:=dN.1 he;injection he with J R;exact R.symm
  ·cases aE
 ·rw[T9 a' aC (by simpa using aE)]at he;obtain⟨u,_,he⟩:=dN.1 he;injection he with J R;exact R.symm
theorem agO(a':a6->Bool)(aC:nk I=O)(aE:sZ I=T){v:E}(he:fF P a' t h I=o (v,h))(R:ag):fF P a' t R I=o (v,R):=by rw[T9 a' aC aE]at he ⊢;obtain⟨u,bQ,he⟩:=dN.1 he;injection he with J _;rw[bQ,<-J];rfl
def nY(a':a6->Bool)(I:bh):Bool:=nk I||(match I.op with|.buildSlice ty _ _=> !a' ty&&a' (ty+1000000)|_=>T)
theorem MY{a':a6->Bool}(aW:nY a' I=O):nk I=O\/∃ty len parts,I.op= .buildSlice ty len parts/\a' ty=T/\a' (ty+1000000)=O:=by
 unfold nY at aW;rw[qC]at aW;refine aW.imp id λh=>?_;split at h
 ·rename_i ty len parts aF;rw[hx,Bool.not_eq_true']at h;exact⟨ty,len,parts,aF,h.1,h.2⟩
 ·cases h
theorem T'{c1:a6->Bool}(h:nk I=O):s0 c1 I=O:=by unfold s0;rw[h];rfl
theorem MZ{c1 a':a6->Bool}(DQ:∀ty,c1 (ty+2000000)=O->a' ty=T/\a' (ty+1000000)=O)(aW:s0 c1 I=O):nY a' I=O:=by
 unfold s0 at aW;unfold nY;rw[qC]at aW ⊢;refine aW.imp id λh=>?_;split at h
 ·rename_i ty len parts aF;rw[aF];obtain⟨a,b⟩:=DQ _ h;simp[a,b]
 ·cases h
theorem Fr{a':a6->Bool}{ty:a6}{len:Nat}{parts:Array (Nat×gy)}(aF:I.op= .buildSlice ty len parts)(J:a' ty=T)(R:a' (ty+1000000)=O)(h:ag):fF P a' t h I=((kb P ty).bind λe=>(kG P e).bind λz=>if len*dl P e<=16777216 then (pG (dl P e) (al len z) (parts.toList.map λq=>(q.1,bD t q.2))).map λes=>.b0 ad e es else ad).map λv=>(v,h):=by
 unfold fF;rw[aF];simp only[J,R,if_true,l9,if_false];cases kb P ty with
 |none=>rfl
 |some e=>
   simp only[c2];cases kG P e with
   |none=>rfl
   |some z=>
     simp only[c2];split
     ·rw[Option.map_map];rfl
     ·rfl
theorem agP(a':a6->Bool)(aC:nY a' I=O){v:E}(he:fF P a' t h I=o (v,F)):F=h:=by
 rcases MY aC with aC|⟨ty,len,parts,aF,J,R⟩
 ·exact agN a' aC he
 ·rw[Fr aF J R]at he;obtain⟨u,_,he⟩:=dN.1 he;injection he with J R;exact R.symm
theorem agQ(a':a6->Bool)(aC:nY a' I=O)(aE:sZ I=T){v:E}(he:fF P a' t h I=o (v,h))(R:ag):fF P a' t R I=o (v,R):=by
 rcases MY aC with aC|⟨ty,len,parts,aF,ah,aD⟩
 ·exact agO a' aC aE he R
 ·rw[Fr aF ah aD]at he ⊢;obtain⟨u,bQ,he⟩:=dN.1 he;injection he with J _;rw[bQ,<-J];rfl
end
open Go Go.RowKit
def zW(P:cT)(W:h8)(f:c')(t:List E)(h:ag)(I:bh)(v:E)(F:ag):Prop:=(fP t I=ad/\fF P (W.a' f) t h I=o (v,F))\/∃g args fn,fP t I=o (g,args)/\P.funcs[g]? =o fn/\(fn.body.isNone=T/\(fn.name== "runtime.NumGoroutine")=T)/\AC P g args h (.inl v,F)
def w6(P:cT)(W:h8)(f:c')(all:Array bh)(q:bh×List bh)(t:List E)(h:ag)(dF:List E)(F:ag):Prop:=(bv all t q.1=o T/\dF=fj t q.1.dst (.bU [])/\F=h)\/(bv all t q.1=o O/\∃v,zW P W f t h q.1 v F/\dF=fj t q.1.dst v/\pI P all dF F q.2)
def yr(P:cT)(all:Array bh)(I:bh)(t:List E)(h:ag)(v:E)(F:ag):Prop:=bv all t I=o O/\((nj t I=o v/\F=h)\/∃g args fn,fP t I=o (g,args)/\P.funcs[g]? =o fn/\(fn.body.isNone=T/\(fn.name== "runtime.NumGoroutine")=T)/\AC P g args h (.inr v,F))
inductive oE(P:cT)(W:h8)(f:c')(all:Array bh):List (bh×List bh)->List E->ag->Option E->List E->ag->Prop
 |nil (t:List E) (h:ag):oE P W f all [] t h ad t h
 |step (q:bh×List bh) (l:List (bh×List bh)) (t:List E) (h:ag) (t1:List E) (J:ag) (e:Option E) (dF:List E) (F:ag):
   w6 P W f all q t h t1 J->oE P W f all l t1 J e dF F->oE P W f all (q::l) t h e dF F
 |stop (q:bh×List bh) (l:List (bh×List bh)) (t:List E) (h:ag) (v:E) (F:ag):yr P all q.1 t h v F->oE P W f all (q::l) t h (o v) t F
theorem oE.trace{P:cT}{W:h8}{f:c'}{all:Array bh}{l:List (bh×List bh)}{t:List E}{h:ag}{e:Option E}{dF:List E}{F:ag}(aH:oE P W f all l t h e dF F):∃(N:Nat) (cw:Nat->List E) (aC:Nat->ag),N<=l.length/\cw 0=t/\aC 0=h/\cw N=dF/\(∀i q,i<N->l[i]? =o q->w6 P W f all q (cw i) (aC i) (cw (i+1)) (aC (i+1)))/\(match e with|none=>N=l.length/\aC N=F|some v=>∃q,l[N]? =o q/\yr P all q.1 (cw N) (aC N) v F):=by
 induction aH with
 |nil t h=>exact⟨0,λ_=>t,λ_=>h,b4 _,rfl,rfl,rfl,λi q af=>by omega,rfl,rfl⟩
 |step q l t h t1 J e dF F bS _ aZ=>
   obtain⟨N,cw,aC,kW,R,ah,aD,bo,b9⟩:=aZ;refine⟨N+1,fun|0=>t|i+1=>cw i,fun|0=>h|i+1=>aC i,by simpa using kW,rfl,rfl,aD,λi ek af aW=>?_,?_⟩
   ·cases i with
    |zero=>simp only[mY,hZ]at aW;subst aW;show w6 P W f all q t h (cw 0) (aC 0);rw[R,ah];exact bS
    |succ i=>simp only[pS]at aW;exact bo i ek (by omega) aW
   ·cases e with
    |none=>exact⟨by simp[b9.1],b9.2⟩
    |some v=>obtain⟨ek,aW,w7⟩:=b9;exact⟨ek,by simpa using aW,w7⟩
 |stop q l t h v F bS=>exact⟨0,λ_=>t,λ_=>h,mz _,rfl,rfl,rfl,λi q af=>by omega,q,rfl,bS⟩
section
variable(all:Array bh)(pl:List (Nat×List Nat))
def fh(i:Nat):bh:=all.getD i default
def dr(k:Nat):Nat:=(pl.getD k default).1
def s'(k:Nat):List Nat:=(pl.getD k default).2
def dc(k:Nat):bh:=fh all (dr pl k)
def ux(all:Array bh)(dq:Nat->Nat->Prop)(i D:Nat):Prop:=lM (mQ all) i D=O\/dq i D
structure ta(c1:a6->Bool)(dq:Nat->Nat->Prop):Prop where
 cover:∀i,i<all.size->∃k,k<pl.length/\dr pl k=i
 lt:∀k,k<pl.length->dr pl k<all.size
 self:∀k d,k<pl.length->(dc all pl k).dst=o d->d ∉ (dc all pl k).looksAt all
 zX:∀D,D<all.size->∀e∈(fh all D).after,kR .any e=O->e.on<D
 mask:∀D i,D<all.size->i<all.size->lM (mQ all) i D=O->∃e∈(fh all D).after,kR .any e=O/\(e.on=i\/lM (mQ all) i e.on=O)
 ne:∀i D,i<D->D<pl.length->dr pl i≠dr pl D
 still:∀i D,i<D->D<pl.length->s0 c1 (dc all pl i)=O\/uk c1 (dc all pl D)=O\/ux all dq (dr pl i) (dr pl D)
 load:∀i D,i<D->D<pl.length->s0 c1 (dc all pl D)=O\/sZ (dc all pl i)=T\/ux all dq (dr pl i) (dr pl D)\/dr pl i∈s' pl D
 dst:∀i D d,i<D->D<pl.length->(dc all pl D).dst=o d->d ∉ (dc all pl i).looksAt all/\(dc all pl i).dst≠o d
 data:∀i D d,i<D->D<pl.length->(dc all pl i).dst=o d->d∈(dc all pl D).looksAt all->ux all dq (dr pl i) (dr pl D)
structure vG(c1:a6->Bool)(dq:Nat->Nat->Prop):Prop where
 size:pl.length<=all.size
 cover:∀i,i<pl.length->∃k,k<pl.length/\dr pl k=i
 lt:∀k,k<pl.length->dr pl k<pl.length
 self:∀k d,k<pl.length->(dc all pl k).dst=o d->d ∉ (dc all pl k).looksAt all
 zX:∀D,D<all.size->∀e∈(fh all D).after,kR .any e=O->e.on<D
 mask:∀D i,D<all.size->i<all.size->lM (mQ all) i D=O->∃e∈(fh all D).after,kR .any e=O/\(e.on=i\/lM (mQ all) i e.on=O)
 ne:∀i D,i<D->D<pl.length->dr pl i≠dr pl D
 still:∀i D,i<D->D<pl.length->s0 c1 (dc all pl i)=O\/uk c1 (dc all pl D)=O\/ux all dq (dr pl i) (dr pl D)
 load:∀i D,i<D->D<pl.length->s0 c1 (dc all pl D)=O\/sZ (dc all pl i)=T\/ux all dq (dr pl i) (dr pl D)\/dr pl i∈s' pl D
 dst:∀i D d,i<D->D<pl.length->(dc all pl D).dst=o d->d ∉ (dc all pl i).looksAt all/\(dc all pl i).dst≠o d
 data:∀i D d,i<D->D<pl.length->(dc all pl i).dst=o d->d∈(dc all pl D).looksAt all->ux all dq (dr pl i) (dr pl D)
end
theorem M0(c1:a6->Bool)(all:Array bh)(M:Array Nat):∀(pl:List (Nat×List Nat)),Dz c1 all M pl=O->∀i D,i<D->D<pl.length->He c1 all M (pl.getD i default) (pl.getD D default)=O
 |[],_,i,D,_,aa=>by simp at aa
 |x::r,aH,i,D,ho,aa=>by
   simp only[Dz,hx,jq]at aH;obtain⟨D,rfl⟩:∃r8,D=r8+1:=⟨D - 1,by omega⟩;have dv:D<r.length:=by simpa using aa
   cases i with
   |zero=>have:r[D]∈r:=iX dv;have:=aH.1 _ this;simpa[dz,dv]using this
   |succ i=>have:=M0 c1 all M r aH.2 i D (by omega) dv;simpa[dz]using this
theorem agR{n:Nat}{c1:a6->Bool}{all:Array bh}{pl:List (Nat×List Nat)}(aE:n<=all.size)(aH:Hf n c1 all pl=O):pl.length=n/\vG all pl c1 λ_ _=>False:=by
 unfold Hf at aH;simp only[hx]at aH;obtain⟨⟨⟨⟨⟨⟨aj,J⟩,R⟩,nZ⟩,ah⟩,aD⟩,bo⟩:=aH;have aj:pl.length=n:=by simpa using aj
 rw[jq]at J R nZ ah;have uy:∀k,k<pl.length->pl.getD k default∈pl:=λk Z=>by simp only[dz,fr Z,rf];exact iX Z
 have ma:∀i D,i<D->D<pl.length->_:=λi D ho aa=>M0 c1 all (mQ all) pl bo i D ho aa;unfold He at ma;simp only[hx,bne_iff_ne,ne_eq]at ma;refine⟨aj,by omega,λi af=>?_,λk Z=>?_,λk d Z a7 gL=>?_,λD aa e he ab=>?_,λD i aa af o9=>?_,λi D ho aa=>?_,λi D ho aa=>?_,λi D ho aa=>?_,λi D d ho aa a7=>?_,λi D d ho aa a7 gL=>?_⟩
 ·have:=J i (j1.2 (by omega));rw[List.any_eq_true]at this;obtain⟨q,aW,h⟩:=this;obtain⟨k,Z,rfl⟩:=List.getElem_of_mem aW;exact⟨k,Z,by simpa[dr,dz,Z]using h⟩
 ·have:=R _ (uy k Z);have:=of_decide_eq_true this;rw[aj];exact this
 ·have:=nZ _ (uy k Z);unfold dc fh dr at a7 gL;rw[a7]at this;simp only[iL,List.getD_eq_getElem?_getD]at gL this;simp[vH,gL]at this
 ·have:=ah D (j1.2 aa);rw[Array.all_eq_true']at this;have:=this e he;simpa[ab]using this
 ·unfold BE at aD;rw[jq]at aD;have:=aD D (j1.2 aa);rw[jq]at this;have:=this i (j1.2 af);rw[o9]at this;simp only[Bool.not_true,Bool.false_or]at this;rw[Option.any_eq_true]at this;obtain⟨I,aF,b9⟩:=this;rw[Array.any_eq_true']at b9;obtain⟨e,he,c4⟩:=b9;simp only[hx,decide_eq_true_eq,qC,beq_iff_eq]at c4;refine⟨e,?_,c4.1.1,c4.2⟩;have:fh all D=I:=by simp[fh,iL,aF]
  rw[this];exact he
 ·exact(ma i D ho aa).1.1.1.1.1.1
 ·have:=(ma i D ho aa).1.1.1.2;have:(s0 c1 (dc all pl i)=O\/uk c1 (dc all pl D)=O)\/lM (mQ all) (dr pl i) (dr pl D)=O:=by simpa[dc,fh,dr]using this
  exact this.elim (λh=>h.imp id .inl) λh=>.inr (.inr (.inl h))
 ·have:=(ma i D ho aa).1.1.2;simp only[qC,Bool.not_eq_true',vH,decide_eq_true_eq]at this;unfold dc fh dr s';rcases this with((h|h)|h)|h
  ·exact .inl h
  ·exact .inr (.inl h)
  ·exact .inr (.inr (.inl (.inl h)))
  ·exact .inr (.inr (.inr h))
 ·have:=(ma i D ho aa).1.2;unfold dc fh dr at a7 ⊢;rw[a7]at this;simpa[vH]using this
 ·have:=(ma i D ho aa).2;unfold dc fh dr at a7 gL;rw[a7]at this;simp only[iL,List.getD_eq_getElem?_getD]at gL this;exact .inl (by simpa[vH,gL,dr]using this)
open Go Go.RowKit
theorem Ua{l m:List Nat}(h:l.Nodup)(aC:∀x∈l,x∈m):l.length<=m.length:=by
 induction l generalizing m with
 |nil=>simp
 |cons x l aZ=>
   have aw:=aC x (by simp);rw[List.nodup_cons]at h;have R:∀y∈l,y∈m.erase x:=λy bE=>by have agS:=aC y (by simp[bE]);refine(List.mem_erase_of_ne ?_).2 agS;rintro rfl;exact h.1 bE
   have:=aZ h.2 R;rw[List.length_erase_of_mem aw]at this;have:0<m.length:=List.length_pos_of_mem aw;simp only[hk];omega
theorem ta.len{c1:a6->Bool}{dq:Nat->Nat->Prop}{all:Array bh}{pl:List (Nat×List Nat)}(pp:ta all pl c1 dq):pl.length=all.size:=by
 have fm:((i7 pl.length).map (dr pl)).Nodup:=by rw[List.Nodup,List.pairwise_map];refine List.Pairwise.imp_of_mem ?_ List.pairwise_lt_range;intro a b _ ab rj;exact pp.ne a b rj (j1.1 ab)
 have J:=Ua fm (m:=i7 all.size) λx aw=>by obtain⟨k,Z,rfl⟩:=o8.1 aw;exact j1.2 (pp.lt k (j1.1 Z))
 have R:=Ua (l:=i7 all.size) List.nodup_range (m:=(i7 pl.length).map (dr pl)) λx aw=>by obtain⟨k,Z,e⟩:=pp.cover x (j1.1 aw);exact o8.2 ⟨k,j1.2 Z,e⟩
 simp at J R;omega
theorem ta.toQ{c1:a6->Bool}{dq:Nat->Nat->Prop}{all:Array bh}{pl:List (Nat×List Nat)}(pp:ta all pl c1 dq):vG all pl c1 dq:=by have am:=pp.len;exact⟨by omega,λi af=>pp.cover i (by omega),λk Z=>by have:=pp.lt k Z;omega,pp.self,pp.zX,pp.mask,pp.ne,pp.still,pp.load,pp.dst,pp.data⟩
theorem agT{c1:a6->Bool}{all:Array bh}{pl:List (Nat×List Nat)}(aH:Mh c1 all pl=O):ta all pl c1 λ_ _=>False:=by
 unfold Mh at aH;simp only[hx]at aH;obtain⟨⟨⟨⟨J,R⟩,ah⟩,aD⟩,bo⟩:=aH;rw[jq]at J R ah;have uy:∀k,k<pl.length->pl.getD k default∈pl:=λk Z=>by simp only[dz,fr Z,rf];exact iX Z
 have ma:∀i D,i<D->D<pl.length->_:=λi D ho aa=>M0 c1 all (mQ all) pl bo i D ho aa;unfold He at ma;simp only[hx,bne_iff_ne,ne_eq]at ma;refine⟨λi af=>?_,λk Z=>?_,λk d Z a7 gL=>?_,λD aa e he ab=>?_,λD i aa af o9=>?_,λi D ho aa=>?_,λi D ho aa=>?_,λi D ho aa=>?_,λi D d ho aa a7=>?_,λi D d ho aa a7 gL=>?_⟩
 ·have:=J i (j1.2 af);rw[List.any_eq_true]at this;obtain⟨q,aW,h⟩:=this;obtain⟨k,Z,rfl⟩:=List.getElem_of_mem aW;exact⟨k,Z,by simpa[dr,dz,Z]using h⟩
 ·have:=R _ (uy k Z);simp only[hx,decide_eq_true_eq]at this;exact this.1
 ·have:=R _ (uy k Z);simp only[hx,decide_eq_true_eq]at this;have:=this.2;unfold dc fh dr at a7 gL;rw[a7]at this;simp only[iL,List.getD_eq_getElem?_getD]at gL this;simp[vH,gL]at this
 ·have:=ah D (j1.2 aa);rw[Array.all_eq_true']at this;have:=this e he;simpa[ab]using this
 ·unfold BE at aD;rw[jq]at aD;have:=aD D (j1.2 aa);rw[jq]at this;have:=this i (j1.2 af);rw[o9]at this;simp only[Bool.not_true,Bool.false_or]at this;rw[Option.any_eq_true]at this;obtain⟨I,aF,b9⟩:=this;rw[Array.any_eq_true']at b9;obtain⟨e,he,c4⟩:=b9;simp only[hx,decide_eq_true_eq,qC,beq_iff_eq]at c4;refine⟨e,?_,c4.1.1,c4.2⟩;have:fh all D=I:=by simp[fh,iL,aF]
  rw[this];exact he
 ·exact(ma i D ho aa).1.1.1.1.1.1
 ·have:=(ma i D ho aa).1.1.1.2;have:(s0 c1 (dc all pl i)=O\/uk c1 (dc all pl D)=O)\/lM (mQ all) (dr pl i) (dr pl D)=O:=by simpa[dc,fh,dr]using this
  exact this.elim (λh=>h.imp id .inl) λh=>.inr (.inr (.inl h))
 ·have:=(ma i D ho aa).1.1.2;simp only[qC,Bool.not_eq_true',vH,decide_eq_true_eq]at this;unfold dc fh dr s';rcases this with((h|h)|h)|h
  ·exact .inl h
  ·exact .inr (.inl h)
  ·exact .inr (.inr (.inl (.inl h)))
  ·exact .inr (.inr (.inr h))
 ·have:=(ma i D ho aa).1.2;unfold dc fh dr at a7 ⊢;rw[a7]at this;simpa[vH]using this
 ·have:=(ma i D ho aa).2;unfold dc fh dr at a7 gL;rw[a7]at this;simp only[iL,List.getD_eq_getElem?_getD]at gL this;exact .inl (by simpa[vH,gL,dr]using this)
open Go Go.RowKit
def w8(fZ:List E)(I:bh)(v:E):Prop:=∀d,I.dst=o d->d<fZ.length->fZ.getD d .az=v
def ys(P:cT)(W:h8)(f:c')(all:Array bh)(fZ:List E)(I:bh)(h:ag):Prop:=nY (W.a' f) I=O/\((bv all fZ I=o T/\w8 fZ I (.bU []))\/(bv all fZ I=o O/\∃v,fF P (W.a' f) fZ h I=o (v,h)/\w8 fZ I v))
theorem M1{t:List E}{d:Option Tmp}{v:E}:(fj t d v).length=t.length:=by cases d<;>simp[fj]
theorem BW{t:List E}{d:Option Tmp}{v:E}{D:Nat}(h:d≠o D):(fj t d v).getD D .az=t.getD D .az:=by
 cases d with
 |none=>rfl
 |some d=>have:d≠D:=λe=>h (by rw[e]);simp[fj,dz,List.getElem?_set_ne this]
theorem wr{t:List E}{d:Option Tmp}{v:E}{D:Nat}(h:d=o D)(aa:D<t.length):(fj t d v).getD D .az=v:=by subst h;simp[fj,dz,aa]
section
variable{P:cT}{W:h8}{f:c'}{all:Array bh}{pl:List (Nat×List Nat)}{c1:a6->Bool}{dq:Nat->Nat->Prop}{N:Nat}{cw:Nat->List E}{aC:Nat->ag}
structure mb(P:cT)(W:h8)(f:c')(all:Array bh)(pl:List (Nat×List Nat))(c1:a6->Bool)(dq:Nat->Nat->Prop)(N:Nat)(cw:Nat->List E)(aC:Nat->ag):Prop where
 cz:vG all pl c1 dq
 le:N<=pl.length
 DQ:∀ty,c1 (ty+2000000)=O->W.a' f ty=T/\W.a' f (ty+1000000)=O
 step:∀k,k<N->w6 P W f all (dc all pl k,(s' pl k).map (fh all)) (cw k) (aC k) (cw (k+1)) (aC (k+1))
theorem w6.put{q:bh×List bh}{t dF:List E}{h F:ag}(aC:w6 P W f all q t h dF F):∃v,dF=fj t q.1.dst v:=by
 rcases aC with⟨_,J,_⟩|⟨_,v,_,J,_⟩
 ·exact⟨_,J⟩
 ·exact⟨_,J⟩
theorem mb.len(eT:mb P W f all pl c1 dq N cw aC):∀k,k<=N->(cw k).length=(cw N).length:=by
 have:∀d k,k+d=N->(cw k).length=(cw N).length:=by
  intro d;induction d with
  |zero=>intro k Z;rw[<-Z];rfl
  |succ d aZ=>intro k Z;rw[<-aZ (k+1) (by omega)];obtain⟨v,U⟩:=(eT.step k (by omega)).put;rw[U,M1]
 exact λk Z=>this (N - k) k (by omega)
theorem mb.g2(eT:mb P W f all pl c1 dq N cw aC)(d:Nat):∀cE n,cE+n<=N->(∀D,cE<=D->D<cE+n->(dc all pl D).dst≠o d)->(cw (cE+n)).getD d .az=(cw cE).getD d .az:=by
 intro cE n;induction n with
 |zero=>intro _ _;rfl
 |succ n aZ=>intro hle mX;rw[<-aZ (by omega) (λD J R=>mX D J (by omega))];obtain⟨v,U⟩:=(eT.step (cE+n) (by omega)).put;rw[<-qv,U];exact BW (mX (cE+n) (by omega) (by omega))
theorem vG.after(pp:vG all pl c1 dq){k d:Nat}(Z:k<pl.length)(a7:d∈(dc all pl k).looksAt all){D:Nat}(J:k<=D)(R:D<pl.length):(dc all pl D).dst≠o d:=by
 intro he;rcases ox k D with h|h
 ·exact(pp.dst k D d h R he).1 a7
 ·obtain rfl:k=D:=by omega
  exact pp.self k d Z he a7
theorem mb.look(eT:mb P W f all pl c1 dq N cw aC){k:Nat}(Z:k<=N)(DR:k<pl.length){i:Nat}(Ty:k<=i)(af:i<=N):∀d∈(dc all pl k).looksAt all,(cw i).getD d .az=(cw N).getD d .az:=by intro d a7;have:=eT.g2 d i (N - i) (by omega) (λD J R=>eT.cz.after DR a7 (by omega) (by have:=eT.le;omega));rw[show i+(N - i)=N by omega]at this;exact this.symm
theorem mb.res(eT:mb P W f all pl c1 dq N cw aC){k:Nat}(Z:k<N){v:E}(U:cw (k+1)=fj (cw k) (dc all pl k).dst v):w8 (cw N) (dc all pl k) v:=by intro d a7 bf;have am:=eT.le;have:=eT.g2 d (k+1) (N - (k+1)) (by omega) (λD J R he=>(eT.cz.dst k D d (by omega) (by omega) he).2 a7);rw[show k+1+(N - (k+1))=N by omega]at this;rw[this,U];exact wr a7 (by rw[eT.len k (by omega)];exact bf)
theorem mb.at(eT:mb P W f all pl c1 dq N cw aC){k:Nat}(Z:k<N):(bv all (cw N) (dc all pl k)=o T/\w8 (cw N) (dc all pl k) (.bU [])/\aC (k+1)=aC k)\/(bv all (cw N) (dc all pl k)=o O/\∃v,zW P W f (cw N) (aC k) (dc all pl k) v (aC (k+1))/\w8 (cw N) (dc all pl k) v/\pI P all (cw (k+1)) (aC (k+1)) ((s' pl k).map (fh all))):=by
 have am:=eT.le;have r9:=eT.look (k:=k) (by omega) (by omega) (b4 k) (by omega);rcases eT.step k Z with⟨J,R,ah⟩|⟨J,v,R,ah,aD⟩
 ·exact .inl ⟨by rw[<-HH r9];exact J,eT.res Z R,ah⟩
 ·refine .inr ⟨by rw[<-HH r9];exact J,v,?_,eT.res Z ah,aD⟩;rcases R with⟨aP,bu⟩|⟨g,args,fn,aP,bu⟩
  ·exact .inl ⟨by rw[<-MX r9];exact aP,by rw[<-T8 (W.a' f) r9];exact bu⟩
  ·exact .inr ⟨g,args,fn,by rw[<-MX r9];exact aP,bu⟩
theorem agU{t:List E}{I:bh}(aC:nk I=O):fP t I=ad:=by
 unfold fP;split
 ·rename_i aF;simp[nk,aF]at aC
 ·rfl
theorem Ub{a':a6->Bool}{t:List E}{I:bh}(aC:nY a' I=O):fP t I=ad:=by
 rcases MY aC with aC|⟨ty,len,parts,aF,_⟩
 ·exact agU aC
 ·simp[fP,aF]
theorem zW.still{t:List E}{h F:ag}{I:bh}{v:E}(aF:zW P W f t h I v F)(aC:nY (W.a' f) I=O):fF P (W.a' f) t h I=o (v,h)/\F=h:=by
 rcases aF with⟨_,R⟩|⟨g,args,fn,J,_⟩
 ·have:=agP (W.a' f) aC R;subst this;exact⟨R,rfl⟩
 ·rw[Ub aC]at J;cases J
theorem mb.same(eT:mb P W f all pl c1 dq N cw aC){k:Nat}(Z:k<N)(bS:nY (W.a' f) (dc all pl k)=O):aC (k+1)=aC k:=by
 rcases eT.at Z with⟨_,_,h⟩|⟨_,v,h,_⟩
 ·exact h
 ·exact(h.still bS).2
theorem mb.late(eT:mb P W f all pl c1 dq N cw aC){k:Nat}(Z:k<N)(bS:nY (W.a' f) (dc all pl k)=O):ys P W f all (cw N) (dc all pl k) (aC k):=by
 refine⟨bS,?_⟩;rcases eT.at Z with⟨J,R,_⟩|⟨J,v,R,ah,_⟩
 ·exact .inl ⟨J,R⟩
 ·exact .inr ⟨J,v,(R.still bS).1,ah⟩
theorem Uc{a':a6->Bool}{t:List E}{h:ag}{I:bh}:∀{l:List bh},nY a' I=O->pI P all t h l->I∈l->bv all t I=o O->∃ty a d,I.op= .load ty a/\I.dst=o d/\cS (kv P ty) (dl P ty) h (bD t a)=o (t.getD d .az)
 |x::l,bS,an,hm,hw=>by
   unfold pI at an;rcases n0.1 hm with rfl|hm
   ·have:=an.1;rw[hw]at this;simp only at this;split at this
    ·rename_i ty a d J R;exact⟨ty,a,d,J,R,this⟩
    ·rename_i J _;simp[nY,nk,J]at bS
    ·exact this.elim
   ·exact Uc bS an.2 hm hw
theorem mb.Hj(eT:mb P W f all pl c1 dq N cw aC){i k:Nat}(agV:i<k)(Z:k<N)(aH:¬ux all dq (dr pl i) (dr pl k))(am:ys P W f all (cw N) (dc all pl i) (aC k)):ys P W f all (cw N) (dc all pl i) (aC (k+1)):=by
 have hle:=eT.le;by_cases bS:nY (W.a' f) (dc all pl k)=O
 ·rw[eT.same Z bS];exact am
 obtain⟨cK,cX⟩:=am;refine⟨cK,?_⟩;rcases cX with cX|⟨cX,v,jS,w4⟩
 ·exact .inl cX
 refine .inr ⟨cX,?_⟩;rcases eT.cz.load i k agV (by omega)with h|h|h|h
 ·exact absurd (MZ eT.DQ h) bS
 ·exact⟨v,agQ (W.a' f) cK h jS _,w4⟩
 ·exact absurd h aH
 ·rcases eT.at Z with⟨_,_,ah⟩|⟨_,bs,_,_,pT⟩
  ·rw[ah];exact⟨v,jS,w4⟩
  ·have r9:=eT.look (k:=i) (i:=k+1) (by omega) (by omega) (by omega) (by omega);obtain⟨ty,a,d,au,ax,bc⟩:=Uc cK pT (I:=dc all pl i) (o8.2 ⟨_,h,rfl⟩) (by rw[HH r9];exact cX);have agW:bD (cw (k+1)) a=bD (cw N) a:=HG r9 a (by simp[au,iE]);have BN:(cw (k+1)).getD d .az=(cw N).getD d .az:=by have:=eT.g2 d (k+1) (N - (k+1)) (by omega) (λD J R he=>(eT.cz.dst i D d (by omega) (by omega) he).2 ax);rw[show k+1+(N - (k+1))=N by omega]at this;exact this.symm
   refine⟨(cw N).getD d .az,?_,λn1 nW _=>?_⟩
   ·unfold fF at jS ⊢;simp only[au]at jS ⊢;split at jS
    ·cases jS
    ·rename_i aE;rw[if_neg aE,<-agW,bc,BN];rfl
   ·rw[ax]at nW;injection nW with nW;rw[nW]
end
open Go Go.RowKit
section
variable{P:cT}{W:h8}{f:c'}{all:Array bh}{pl:List (Nat×List Nat)}{c1:a6->Bool}{dq:Nat->Nat->Prop}{N:Nat}{cw:Nat->List E}{aC:Nat->ag}
 {m a9:eh} {h F:ag} {w ba:dy} {t fZ:List E} {a:Act} {b:gI} {cs:List gI} {K:List Item} {r:kw×List E×ag}
def rk(all:Array bh)(pl:List (Nat×List Nat))(li:Array Bool)(p:Nat)(d:Nat):Prop:=∀k,k<pl.length->(dc all pl k).dst=o d->li.getD (dr pl k) T=O/\k<p
open Classical in
noncomputable def o'(all:Array bh)(pl:List (Nat×List Nat))(li:Array Bool)(p:Nat)(fZ:List E):List E:=(i7 fZ.length).map λd=>if rk all pl li p d then fZ.getD d .az else .az
theorem mZ{li:Array Bool}{p:Nat}:(o' all pl li p fZ).length=fZ.length:=by simp[o']
theorem tb{li:Array Bool}{p d:Nat}(ao:rk all pl li p d):(o' all pl li p fZ).getD d .az=fZ.getD d .az:=by
 by_cases a7:d<fZ.length
 ·simp[o',dz,a7,ao]
 ·simp[o',dz,a7]
theorem BX{li:Array Bool}{p d:Nat}(ao:¬rk all pl li p d):(o' all pl li p fZ).getD d .az= .az:=by
 by_cases a7:d<fZ.length
 ·simp[o',dz,a7,ao]
 ·simp[o',dz,a7]
theorem agX{li M3:Array Bool}{p im:Nat}(h:∀d,rk all pl li p d↔rk all pl M3 im d):o' all pl li p fZ=o' all pl M3 im fZ:=by
 unfold o';congr 1;funext d;by_cases ao:rk all pl li p d
 ·rw[if_pos ao,if_pos ((h d).1 ao)]
 ·rw[if_neg ao,if_neg λx=>ao ((h d).2 x)]
theorem dY.of{a9:eh}{F:ag}{dF:List E}{aS:Array b1}(am:aS.size=dF.length)(U:∀d,d<dF.length->bX P a9 F (dF.getD d .az) (aS.getD d gq)):dY P a9 F dF aS:=by refine⟨am,λi af=>?_⟩;have:=U i af;simpa[dz,af]using this
theorem dY.slot{a9:eh}{F:ag}{dF:List E}{aS:Array b1}(a3:dY P a9 F dF aS){d:Nat}(a7:d<dF.length):bX P a9 F (dF.getD d .az) (aS.getD d gq):=by have:=a3.2 d a7;simpa[dz,a7]using this
theorem Act.M4{a:Act}{d:Option Tmp}{D:Nat}(h:d≠o D):(a.put d u).tmps.getD D gq=a.tmps.getD D gq:=by
 cases d with
 |none=>rfl
 |some d=>have:d≠D:=λe=>h (by rw[e]);simp[Act.put,iL,Array.getElem?_setIfInBounds_ne this]
theorem kX{li:Array Bool}{i D:Nat}(af:i<li.size):(li.setIfInBounds i O).getD D T=if D=i then O else li.getD D T:=by
 by_cases aa:D=i
 ·subst aa;simp[iL,af]
 ·simp[iL,aa,Array.getElem?_setIfInBounds_ne (lP aa)]
theorem agY(pp:vG all pl c1 dq){li:Array Bool}{p im k:Nat}(Z:k<pl.length)(agZ:dr pl k<li.size)(HI:p<=im)(mX:∀D,p<=D->D<im->D≠k->li.getD (dr pl D) T=T)(x:Ext m h a9 F)(a3:dY P m h (o' all pl li p fZ) a.tmps){v:E}(U:bX P a9 F v u)(kH:w8 fZ (dc all pl k) v):dY P a9 F (o' all pl (li.setIfInBounds (dr pl k) O) im fZ) (a.put (dc all pl k).dst u).tmps:=by
 have J:=(a3.ext x).put (a:=a) U (dc all pl k).dst;have hlen:(a.put (dc all pl k).dst u).tmps.size=fZ.length:=by rw[J.1,M1,mZ]
 refine dY.of (by rw[hlen,mZ]) λd a7=>?_;have nW:d<fZ.length:=by rw[mZ]at a7;exact a7
 have R:=J.slot (d:=d) (by rw[M1,mZ];exact nW);by_cases ao:rk all pl (li.setIfInBounds (dr pl k) O) im d
 ·rw[tb ao];by_cases he:(dc all pl k).dst=o d
  ·rw[wr he (by rw[mZ];exact nW)]at R;rw[kH d he nW];exact R
  ·rw[BW he,tb (λD aa zY=>?_)]at R
   ·exact R
   ·obtain⟨bH,bR⟩:=ao D aa zY;rw[kX agZ]at bH;have kY:D≠k:=λe=>he (by rw[<-e];exact zY);have di:dr pl D≠dr pl k:=by
     intro e;rcases Nat.lt_trichotomy D k with h|h|h
     ·exact pp.ne D k h Z e
     ·exact kY h
     ·exact pp.ne k D h aa e.symm
    rw[if_neg di]at bH;refine⟨bH,?_⟩;rcases ox D p with h|h
    ·exact h
    ·rw[mX D h bR kY]at bH;cases bH
 ·rw[BX ao];exact .az _
theorem M5(pp:vG all pl c1 dq){li:Array Bool}(kV:∀D,D<pl.length->li.getD D T=O->∀e∈(fh all D).after,kR .any e=O->li.getD e.on T=O):∀D,D<pl.length->(∀e∈(fh all D).after,kR .any e=O->li.getD e.on T=O)->∀i,i<pl.length->lM (mQ all) i D=O->li.getD i T=O:=by
 intro D;induction D using Nat.strongRecOn with
 |ind D aZ=>
   intro aa he i af aH;obtain⟨e,au,ax,bc⟩:=pp.mask D i (by have:=pp.size;omega) (by have:=pp.size;omega) aH;have bf:=pp.zX D (by have:=pp.size;omega) e au ax;rcases bc with bc|bc
   ·rw[<-bc];exact he e au ax
   ·exact aZ e.on bf (by omega) (kV e.on (by omega) (he e au ax)) i af bc
theorem vI{i:Nat}(af:i<all.size):all[i]? =o (fh all i):=by simp[fh,af]
theorem Act.BY(a:Act)(x:Option Tmp)(v:b1):(a.put x v).defers=a.defers:=by cases x<;>rfl
theorem ag0(pp:vG all pl c1 dq){li:Array Bool}{p k:Nat}(Z:k<pl.length)(m0:k<=p)(o9:∀D,D<pl.length->ux all dq (dr pl D) (dr pl k)->li.getD (dr pl D) T=O):∀d∈(dc all pl k).looksAt all,(o' all pl li p fZ).getD d .az=fZ.getD d .az:=by
 intro d a7;refine tb λD aa zY=>?_;rcases ox D k with h|h
 ·exact⟨o9 D aa (pp.data D k d h Z zY a7),by omega⟩
 ·exact absurd zY (pp.after Z a7 h aa)
def eh.gh(m:eh)(ai:Nat->Option Obj):eh:={m with gd:=ai}
theorem bX.gh{ai:Nat->Option Obj}{v:E}{u:b1}(r:bX P m h v u):bX P (m.gh ai) h v u:=by
 induction r with
 |az v=>exact .az v
 |bool b=>exact .bool b
 |int k n=>exact .int k n
 |str l=>exact .str l
 |e2=>exact .e2
 |ptr b i off ab=>exact bX.ptr (m:=m.gh ai) b i off ab
 |gc t b ab a3=>exact bX.gc (m:=m.gh ai) t b ab a3
 |ip e off g I ae af U aZ=>exact bX.ip (m:=m.gh ai) e off g I ae af aZ
 |aA=>exact .aA
 |b0 id e es g I cap ae am af U an a3 aZ=>exact bX.b0 (m:=m.gh ai) id e es g I cap ae am af aZ an a3
 |nS e a cap=>exact .nS e a cap
 |bn b I n e cap ab he jQ aE kd=>exact bX.bn (m:=m.gh ai) b I n e cap ab he jQ aE kd
 |fn g l c b2 ej J R ah aD yh oy=>exact .fn g l c b2 ej J R yh oy
 |nQ=>exact .nQ
 |ig=>exact .ig
 |iface t v bs J aZ=>exact .iface t v bs aZ
 |agg l b2 J ah aZ=>exact .agg l b2 J aZ
 |bU l b2 J ah aZ=>exact .bU l b2 J aZ
theorem dY.gh{ai:Nat->Option Obj}{uo:Array b1}(r:dY P m h t uo):dY P (m.gh ai) h t uo:=⟨r.1,λi af=>(r.2 i af).gh⟩
theorem Ext.gh(x:Ext m h a9 F)(ai:Nat->Option Obj):Ext (m.gh ai) h (a9.gh ai) F:=⟨x.base,x.n,x.ids,x.cm,x.eo,x.l8,λ_ _ h=>h⟩
theorem bX.by{ai:Nat->Option Obj}(x:Ext (m.gh ai) h (a9.gh ai) F){v:E}(r:bX P m h v u):bX P a9 F v u:=((r.gh (ai:=ai)).ext x).gh (ai:=a9.gd)
theorem cc.gh(hw:cc P m h w){ai:Nat->Option Obj}(gs:∀g x,ai g=o x->m.gd g=o x):cc P (m.gh ai) h w where
 size:=hw.size
 lt:=hw.lt
 live:=λb es ab=>by obtain⟨cs,J,R,ah,aD,bo⟩:=hw.live b es ab;exact⟨cs,J,R,ah,aD,λi af D aa=>by obtain⟨v,a,b⟩:=bo i af D aa;exact⟨v,a,b.gh⟩⟩
 inj:=hw.inj
 eo:=hw.eo
 sep:=hw.sep
 qu:=hw.qu
 o2:=hw.o2
 nT:=hw.nT
 pL:=hw.pL
 cG:=hw.cG
 gd:=λg x aw=>hw.gd g x (gs g x aw)
theorem cc.az(hw:cc P m h w)(I:Obj):cc P (m.gh λg=>if g=w.heap.size then o I else m.gd g) h (w.alloc I):=by
 have gA:=hw.new ((h9.refl _ w).alloc I);refine{gA with live:=λb es ab=>?_,gd:=λg x aw=>?_}
 ·obtain⟨cs,J,R,ah,aD,bo⟩:=gA.live b es ab;exact⟨cs,J,R,ah,aD,λi af D aa=>by obtain⟨v,a,b⟩:=bo i af D aa;exact⟨v,a,b.gh⟩⟩
 ·have aw:(if g=w.heap.size then o I else m.gd g)=o x:=aw;by_cases e:g=w.heap.size
  ·rw[if_pos e]at aw;injection aw with aw;subst aw;subst e;refine⟨hw.size,(by show(w.heap.push I)[w.heap.size]? =o I;simp),λb es ab e=>?_,λk Z e=>?_,λfk=>?_⟩
   ·have:=hw.below ab;have e:m.cm b=w.heap.size:=e;omega
   ·have:=(hw.r1 Z).2;have e:m.iB k=w.heap.size:=e;omega
   ·show m.eo w.heap.size fk=ad;rcases af:m.eo w.heap.size fk with _|v
    ·rfl
    ·have:=hw.r0 af;omega
  ·rw[if_neg e]at aw;exact gA.gd g x aw
theorem cc.ag1(hw:cc P m h w){z:Nat}{e:a6}{lR:List E}{u:Array b1}(aN:m.gd z=o (.cells u e))(bQ:u.size=lR.length)(am:lR.length=P.cellsOf e)(ao:dT P m h lR u.toList):∃a9,(∀ai,Ext (m.gh ai) h (a9.gh ai) (h.push [lR]))/\cc P a9 (h.push [lR]) w/\a9.cm h.n=z/\a9.hg h.n=e/\a9.gd=λg=>if g=z then ad else m.gd g:=by
 obtain⟨eD,fR,hl,lS,kj⟩:=hw.gd z _ aN;refine⟨{m with cm:=λb=>if b=h.n then z else m.cm b,hg:=λb=>if b=h.n then e else m.hg b,nR:=λb=>if b=h.n then u.size else m.nR b,gd:=λg=>if g=z then ad else m.gd g},?_,?_,by simp,by simp,rfl⟩
 ·exact λai=>⟨rfl,by simp[ag.push],by simp[ag.push],λb ab=>by simp[eh.gh,show b≠h.n by omega],λ_ _ _ h=>h,λk Z=>⟨rfl,b4 _,λ_=>⟨rfl,rfl⟩⟩,λ_ _ h=>h⟩
 ·have aw:∀ai,Ext (m.gh ai) h (eh.gh {m with cm:=λb=>if b=h.n then z else m.cm b,hg:=λb=>if b=h.n then e else m.hg b,nR:=λb=>if b=h.n then u.size else m.nR b,gd:=λg=>if g=z then ad else m.gd g} ai) (h.push [lR]):=
   λai=>⟨rfl,by simp[ag.push],by simp[ag.push],λb ab=>by simp[eh.gh,show b≠h.n by omega],λ_ _ _ h=>h,λk Z=>⟨rfl,b4 _,λ_=>⟨rfl,rfl⟩⟩,λ_ _ h=>h⟩
  have fe:∀b x,(h.push [lR]).cell b=o x->b≠h.n->h.cell b=o x:=by intro b x ab di;simpa[ag.push,di]using ab
  have new:∀b x,(h.push [lR]).cell b=o x->b=h.n->x=[lR]:=by intro b x ab he;subst he;simp[ag.push]at ab;exact ab.symm
  refine⟨hw.size,λb x ab=>?_,λb x ab=>?_,λb gz x kc ab k9 he=>?_,hw.eo,λb x ab I=>?_,hw.qu,hw.o2,λk Z b x ab=>?_,hw.pL,hw.cG,λg x aa=>?_⟩
  ·by_cases hE:b=h.n
   ·subst hE;exact⟨by simp[ag.push],by simpa using eD⟩
   ·have:=hw.lt b x (fe b x ab hE);exact⟨by simp[ag.push];omega,by simpa[hE]using this.2⟩
  ·by_cases hE:b=h.n
   ·subst hE;have:=new _ _ ab rfl;subst this;refine⟨u,by simpa[kS]using fR,by simp,by simpa using am,by simp;omega,λi af D aa=>?_⟩;have g9:i=0:=by simpa using af
    subst g9;have dv:D<lR.length:=by simpa using aa
    refine⟨u[D]'(by omega),by simp,?_⟩;have:=ao.2 D dv (by simp;omega);exact bX.by (aw λ_=>ad) (by simpa using this)
   ·obtain⟨g3,J,R,ah,aD,bo⟩:=hw.live b x (fe b x ab hE);refine⟨g3,by simpa[hE]using J,by simpa[hE]using R,by simpa[hE]using ah,by simpa[hE]using aD,λi af D aa=>?_⟩;obtain⟨v,b9,c4⟩:=bo i af D aa;exact⟨v,by simpa[hE]using b9,bX.by (aw λ_=>ad) c4⟩
  ·by_cases J:b=h.n<;>by_cases R:gz=h.n
   ·omega
   ·simp[J,R]at he;exact absurd he.symm (hl _ _ (fe _ _ k9 R))
   ·simp[J,R]at he;exact absurd he (hl _ _ (fe _ _ ab J))
   ·simp[J,R]at he;exact hw.inj b gz x kc (fe _ _ ab J) (fe _ _ k9 R) he
  ·by_cases J:b=h.n
   ·simp only[J,if_true];exact kj I
   ·simp only[J,if_false];exact hw.sep b x (fe _ _ ab J) I
  ·by_cases J:b=h.n
   ·simp only[J,if_true];exact λe=>lS k Z e.symm
   ·simp only[J,if_false];exact hw.nT k Z b x (fe _ _ ab J)
  ·have aa:(if g=z then ad else m.gd g)=o x:=aa;by_cases au:g=z
   ·rw[if_pos au]at aa;cases aa
   ·rw[if_neg au]at aa;obtain⟨aR,a5,bp,cA,et⟩:=hw.gd g x aa;refine⟨aR,a5,λb y ab=>?_,cA,et⟩;by_cases J:b=h.n
    ·simp only[J,if_true];exact λe=>au e.symm
    ·simp only[J,if_false];exact bp b y (fe _ _ ab J)
def ag2(P:cT)(all:Array bh)(pl:List (Nat×List Nat))(aG:Nat->Option Obj)(a:Act)(m:eh)(z k:Nat):Prop:=∃e d lR u,(dc all pl k).op= .alloc e/\(dc all pl k).guard=ad/\(dc all pl k).dst=o d/\kG P e=o lR/\u.size=lR.length/\lR.length=P.cellsOf e/\(∀m h,dT P m h lR u.toList)/\aG z=ad/\m.gd z=o (.cells u e)/\(d<a.tmps.size->a.tmps.getD d gq= .pointer (o ⟨z,0,ad⟩))
theorem M6{c1:a6->Bool}{I:bh}(aE:uk c1 I=O):∃e d,I.op= .alloc e/\I.guard=ad/\I.dst=o d/\c1 e=O/\e<2000000:=by
 unfold uk at aE;split at aE
 ·rename_i e d J R ah;rw[hx,decide_eq_true_eq]at aE;exact⟨e,d,J,R,ah,aE⟩
 ·cases aE
theorem ag3{c1:a6->Bool}{a':a6->Bool}{I:bh}(aE:uk c1 I=O):nY a' I=T:=by obtain⟨e,d,J,_⟩:=M6 aE;simp[nY,nk,J]
theorem ag4(g4:pM P)(I:bh)(e:a6)(aF:I.op= .alloc e){z:List E}(aN:kG P e=o z)(a:Act)(w:dy):∃u:Array b1,(fB a.eval I).run P w= .ok (.value (.pointer (o ⟨w.heap.size,0,ad⟩))) (w.alloc (.cells u e))/\u.size=z.length/\z.length=P.cellsOf e/\∀m h,dT P m h z u.toList:=by obtain⟨i,v,af,U,am,aC,ao,lN⟩:=yi (m:=⟨0,λ_=>0,λ_=>0,λ_=>0,λ_ _=>ad,λ_=>0,λ_=>0,λ_=>0,λ_=>ad⟩) (h:=⟨0,λ_=>ad,0,λ_=>0⟩) (w:=w) g4 aN;refine⟨v.cells,by simp[fB,aF,Instr.alloc,lN,newVar,newRow],by omega,am,λm h=>?_⟩;obtain⟨gt,cn,il,hN,_,_,qw,_⟩:=yi (m:=m) (h:=h) (w:=w) g4 aN;rw[af]at il;injection il with il;subst il;rw[U]at hN;injection hN with hN;rw[hN];exact qw
inductive zZ(n:Nat)(all:Array bh)(dq:Nat->Nat->Prop):Array Bool->List Nat->Prop
 |nil (li:Array Bool):(∀i,i<n->li.getD i T=O)->zZ n all dq li []
 |cons (li:Array Bool) (i:Nat) (L:List Nat):i<n->li.getD i T=T->(∀e∈(fh all i).after,kR .any e=O->li.getD e.on T=O)->(∀D,dq D i->li.getD D T=O)->
   zZ n all dq (li.setIfInBounds i O) L->zZ n all dq li (i::L)
abbrev lq(all:Array bh)(dq:Nat->Nat->Prop):Array Bool->List Nat->Prop:=zZ all.size all dq
theorem HJ(vJ:∀D,D<all.size->∀e∈(fh all D).after,kR .any e=O->e.on<D):∀(fuel u:Nat) (li:Array Bool),li.size=all.size->li.toList.countP (λx=> !x)<=fuel->lq all (λ_ _=>False) li (Region.linearise.go .any all fuel u li []):=by
 intro fuel;induction fuel with
 |zero=>
   intro u li eJ bl;simp only[Region.linearise.go,List.reverse_nil];refine .nil _ λi af=>?_;have:=List.countP_eq_zero.1 (Nat.le_zero.1 bl) (li[i]'(by omega)) (by simp);have h':i<li.size:=by omega
   simpa[iL,h']using this
 |succ fuel aZ=>
   intro u li eJ bl;simp only[Region.linearise.go];change lq all _ li (match(Region.ready .any all li)[u % (Region.ready .any all li).length]? with
    |some i=>Region.linearise.go .any all fuel (u / (Region.ready .any all li).length) (li.setIfInBounds i O) [i]
    |none=>[].reverse)
   cases af:(Region.ready .any all li)[u % (Region.ready .any all li).length]? with
   |none=>
     have ag5:Region.ready .any all li=[]:=by
      cases ao:Region.ready .any all li with
      |nil=>rfl
      |cons x xs=>rw[ao]at af;have bf:u % (x::xs).length<(x::xs).length:=Nat.mod_lt _ (by simp);simp at af;simp at bf;omega
     simp only[List.reverse_nil];refine .nil _ ?_;intro i;induction i using Nat.strongRecOn with
     |ind i ag6=>
       intro eR;rcases aw:li.getD i T with _|_
       ·have gL:i∈Region.ready .any all li:=by
         rw[mem_ready];have h':i<li.size:=by omega
         exact⟨by simpa[iL,h']using aw,fh all i,vI eR,λe he ab=>ag6 e.on (vJ i eR e he ab) (by have:=vJ i eR e he ab;omega)⟩
        rw[ag5]at gL;cases gL
       ·rfl
   |some i=>
     simp only[];rw[linearise_go_acc,List.reverse_singleton,List.singleton_append];have gL:=tc af;rw[mem_ready]at gL;obtain⟨zU,I,aF,DS⟩:=gL;have eR:i<all.size:=(Array.getElem?_eq_some_iff.1 aF).1;have r4:fh all i=I:=by simp[fh,iL,aF]
     have h':i<li.size:=by omega
     have yt:li.getD i T=T:=by simpa[iL,h']using zU
     refine .cons _ _ _ eR yt (by rw[r4];exact DS) (λ_ h=>h.elim) (aZ _ _ (by simpa using eJ) ?_);have aN:(li.toList)[i]'(by simpa using h')=T:=by simpa[iL,h']using yt
     have:=List.countP_set (p:=λx=> !x) (l:=li.toList) (i:=i) (a:=O) (by simpa using h');simp only[aN,Bool.not_false,Bool.not_true,if_true,l9,if_false,Nat.add_zero]at this;simp only[Array.toList_setIfInBounds];omega
structure yu(P:cT)(W:h8)(f:c')(all:Array bh)(pl:List (Nat×List Nat))(c1:a6->Bool)(dq:Nat->Nat->Prop)(N:Nat)(cw:Nat->List E)(aC:Nat->ag)(b:gI)(aG:Nat->Option Obj)(li:Array Bool)(p:Nat)(mA:Nat->Nat)(m:eh)(a:Act)(w:dy):Prop where
 le:p<=N
 eH:li.size=all.size
 mB:∀D,D<pl.length->li.getD D T=O->∀e∈(fh all D).after,kR .any e=O->li.getD e.on T=O
 HK:∀D,D<pl.length->li.getD D T=O->∀i,dq i D->li.getD i T=O
 cK:∀k,k<pl.length->li.getD (dr pl k) T=O->k<p\/uk c1 (dc all pl k)=O
 cX:∀k,k<p->li.getD (dr pl k) T=T->ys P W f all (cw N) (dc all pl k) (aC p)
 jS:∀k,p<=k->k<pl.length->li.getD (dr pl k) T=O->ag2 P all pl aG a m (mA k) k
 inj:∀k dQ,p<=k->p<=dQ->k<pl.length->dQ<pl.length->li.getD (dr pl k) T=O->li.getD (dr pl dQ) T=O->mA k=mA dQ->k=dQ
 w:cc P m (aC p) w
 t:dY P m (aC p) (o' all pl li p (cw N)) a.tmps
 d:a.defers=b.defers
 D:∀g x,aG g=o x->m.gd g=o x
theorem yu.pre{aG:Nat->Option Obj}{li:Array Bool}{p:Nat}{mA:Nat->Nat}(eT:mb P W f all pl c1 dq N cw aC)(cB:yu P W f all pl c1 dq N cw aC b aG li p mA m a w){i D:Nat}(af:i<pl.length)(aa:D<pl.length)(am:li.getD (dr pl D) T=O)(aH:ux all dq (dr pl i) (dr pl D)):li.getD (dr pl i) T=O:=aH.elim (M5 eT.cz cB.mB _ (eT.cz.lt D aa) (cB.mB _ (eT.cz.lt D aa) am) _ (eT.cz.lt i af)) (cB.HK _ (eT.cz.lt D aa) am _)
theorem yu.Ud{aG:Nat->Option Obj}{li:Array Bool}{p:Nat}{mA:Nat->Nat}(eT:mb P W f all pl c1 dq N cw aC)(cB:yu P W f all pl c1 dq N cw aC b aG li p mA m a w):∀n,p+n<=N->(∀D,p<=D->D<p+n->li.getD (dr pl D) T=T->nY (W.a' f) (dc all pl D)=O)->∃cL,Ext (m.gh aG) (aC p) (cL.gh aG) (aC (p+n))/\yu P W f all pl c1 dq N cw aC b aG li (p+n) mA cL a w:=by
 intro n;induction n with
 |zero=>exact λ_ _=>⟨m,Ext.refl _ _,cB⟩
 |succ n aZ=>
   intro hle bS;obtain⟨cL,b3,i8⟩:=aZ (by omega) λD J R=>bS D J (by omega);have Ug:=eT.le;have aW:p+n<N:=by omega
   rcases aw:li.getD (dr pl (p+n)) T with _|_
   ·have mw:=bS (p+n) (by omega) (by omega) aw;have HL:=eT.same aW mw;rw[<-qv,HL];refine⟨cL,b3,⟨by omega,i8.eH,i8.mB,i8.HK,λk Z am=>(i8.cK k Z am).imp (λh=>by omega) id,λk Z aE=>?_,λk Z=>i8.jS k (by omega),λk dQ Z np=>i8.inj k dQ (by omega) (by omega),by rw[HL];exact i8.w,?_,i8.d,i8.D⟩⟩
    ·rw[HL];rcases ox k (p+n)with h|h
     ·exact i8.cX k h aE
     ·obtain rfl:k=p+n:=by omega
      exact eT.late aW mw
    ·rw[HL,agX (M3:=li) (im:=p+n) λd=>⟨λao k Z a7=>?_,λao k Z a7=>⟨(ao k Z a7).1,by have:=(ao k Z a7).2;omega⟩⟩]
     ·exact i8.t
     ·obtain⟨bH,bR⟩:=ao k Z a7;refine⟨bH,?_⟩;have:k≠p+n:=λe=>by rw[e,aw]at bH;cases bH
      omega
   ·obtain⟨e,d,lR,u,bt,bq,dW,e4,g',qD,nt,w9,M7,ag7⟩:=i8.jS (p+n) (b4 _) (by omega) aw;rcases eT.at aW with⟨aR,_⟩|⟨_,v,a5,bp,_⟩
    ·simp[bv,bq]at aR
    rcases a5 with⟨_,a5⟩|⟨g,args,fn,aP,_⟩
    ·unfold fF at a5;rw[bt]at a5;simp only[e4,hF,hZ,kh]at a5;obtain⟨dL,cn⟩:=a5;obtain⟨c3,fs,jy,kI,nu,mc⟩:=i8.w.ag1 M7 g' qD (nt cL _);rw[cn]at fs jy;have oA:(aC (p+n)).n<(aC (p+n+1)).n:=by rw[<-cn];simp[ag.push]
     rw[<-qv];refine⟨c3,b3.trans (fs aG),⟨by omega,i8.eH,i8.mB,i8.HK,λk Z am=>(i8.cK k Z am).imp (λh=>by omega) id,λk Z aE=>?_,λk Z DR am=>?_,λk dQ Z np=>i8.inj k dQ (by omega) (by omega),jy,?_,i8.d,λg x a8=>?_⟩⟩
     ·have aw7:k≠p+n:=λe=>by rw[e,aw]at aE;cases aE
      exact eT.Hj (by omega) aW (λaH=>by have:=i8.pre eT (by omega) (by omega) aw aH;rw[aE]at this;cases this) (i8.cX k (by omega) aE)
     ·obtain⟨dG,n1,DT,gB,dA,ft,iM,kZ,w',hp,hq,BZ,yv,DU⟩:=i8.jS k (by omega) DR am;refine⟨dG,n1,DT,gB,dA,ft,iM,kZ,w',hp,hq,BZ,?_,DU⟩;rw[mc];simp only;rw[if_neg λe=>by have:=i8.inj k (p+n) (by omega) (b4 _) DR (by omega) am aw e;omega];exact yv
     ·refine dY.of (by rw[i8.t.1,mZ,mZ]) λq nq=>?_;have z0:q<(cw N).length:=by rw[mZ]at nq;exact nq
      by_cases ao:rk all pl li (p+n+1) q
      ·rw[tb ao];by_cases HM:q=d
       ·subst HM;rw[bp q dW z0,ag7 (by rw[i8.t.1,mZ];exact z0),<-dL];split
        ·have:=bX.gc (P:=P) (m:=c3) (h:=aC (p+n+1)) e (aC (p+n)).n oA nu;rwa [kI]at this
        ·have:=bX.ptr (P:=P) (m:=c3) (h:=aC (p+n+1)) (aC (p+n)).n 0 0 oA;rw[kI]at this;simpa using this
       ·have xa:rk all pl li (p+n) q:=λk Z a7=>by
         obtain⟨bH,bR⟩:=ao k Z a7;refine⟨bH,?_⟩;have:k≠p+n:=λe=>by rw[e,dW]at a7;injection a7 with a7;exact HM a7.symm
         omega
        have:=i8.t.slot (d:=q) (by rw[mZ];exact z0);rw[tb xa]at this;exact bX.by (fs aG) this
      ·rw[BX ao];exact .az _
     ·rw[mc];simp only;rw[if_neg λe=>by rw[e,w9]at a8;cases a8];exact i8.D g x a8
    ·simp[fP,bt]at aP
theorem Uh{I:bh}{t:List E}{h F:ag}{v:E}(aE:uk c1 I=O)(aC:yr P all I t h v F):False:=by
 obtain⟨e,d,J,_⟩:=M6 aE;obtain⟨_,⟨R,_⟩|⟨g,args,fn,R,_⟩⟩:=aC
 ·simp[nj,J]at R
 ·simp[fP,J]at R
theorem Ui{S:Nat->Bool}{aG:Nat->Option Obj}{Y:List Nat}(cO:∀d,S d=O->∀k,k<pl.length->(dc all pl k).dst≠o d)(dg:l' P W)(M8:∀e,e<2000000->c1 e=O->(kG P e).isSome=O)(eT:mb P W f all pl c1 dq N cw aC)(ns:N=pl.length\/∃v F,N<pl.length/\yr P all (dc all pl N) (cw N) (aC N) v F/\r=(.panic v,cw N,F))(M9:N=pl.length->∀cL cY aR,cc P cL (aC N) cY->dY P cL (aC N) (cw N) aR.tmps->aR.defers=b.defers->eS P S cL (aC N) cY b cs (e3 (b.at aR (.inRegion all Y::K)) cs cY) r):∀(L:List Nat) (li:Array Bool) (p:Nat) (mA:Nat->Nat) (m:eh) (a:Act) (w:dy),zZ pl.length all dq li L->yu P W f all pl c1 dq N cw aC b aG li p mA m a w->eS P S (m.gh aG) (aC p) w b cs (e3 (b.at a (.inRegion all (L++Y)::K)) cs w) r:=by
 have pp:=eT.cz;have hle:=eT.le;intro L;induction L with
 |nil=>
   intro li p mA m a w M' cB;have Na:∀i,i<pl.length->li.getD i T=O:=by
    cases M' with
    |nil _ h=>exact h
   have eK:N=pl.length:=by
    rcases ns with h|⟨v,F,ah,aD,_⟩
    ·exact h
    ·rcases cB.cK N ah (Na _ (pp.lt N ah))with h|h
     ·have:=cB.le;omega
     ·exact(Uh h aD).elim
   have aH:=cB.le;obtain⟨cL,b3,i8⟩:=cB.Ud eT (N - p) (by omega) λD J R aE=>by rw[Na _ (pp.lt D (by omega))]at aE;cases aE
   rw[show p+(N - p)=N by omega]at b3 i8;have kd:o' all pl li N (cw N)=cw N:=by apply List.ext_getElem (by rw[mZ]);intro d ah aD;have:=tb (all:=all) (pl:=pl) (li:=li) (p:=N) (fZ:=cw N) (d:=d) (λk Z _=>⟨Na _ (pp.lt k Z),by omega⟩);simpa[dz,ah,aD]using this
   have a3:=i8.t;rw[kd]at a3;exact eS.after b3 (mv _ _) (M9 eK _ w a (i8.w.gh i8.D) a3.gh i8.d)
 |cons i L aZ=>
   intro li p mA m a w M' cB;show eS P S (m.gh aG) (aC p) w b cs (e3 (b.at a (.inRegion all (i::(L++Y))::K)) cs w) r;cases M' with
   |cons _ _ _ eR yt DS fX Hs=>
   obtain⟨I,r4⟩:∃I,fh all i=I:=⟨_,rfl⟩;have aF:all[i]? =o I:=by rw[<-r4];exact vI (fq eR pp.size)
   rw[r4]at DS;obtain⟨k,Z,rfl⟩:=pp.cover i eR;have rl:dc all pl k=I:=r4;have h':dr pl k<li.size:=by rw[cB.eH];exact fq eR pp.size
   have o9:=M5 pp cB.mB (dr pl k) eR (by rw[r4];exact DS);have HN:∀D,D<pl.length->ux all dq (dr pl D) (dr pl k)->li.getD (dr pl D) T=O:=λD aa h=>h.elim (o9 _ (pp.lt D aa)) (fX _);have di:∀D,D<pl.length->D≠k->dr pl D≠dr pl k:=by
    intro D aa kY e;rcases ox D k with h|h
    ·exact pp.ne D k h Z e
    ·exact pp.ne k D (by omega) aa e.symm
   have Uj:∀D,D<pl.length->(li.setIfInBounds (dr pl k) O).getD D T=O->∀e∈(fh all D).after,kR .any e=O->(li.setIfInBounds (dr pl k) O).getD e.on T=O:=by
    intro D aa ef e he ab;rw[kX h']at ef;by_cases uz:D=dr pl k
    ·subst uz;exact getD_set_true (DS e (by rw[<-r4];exact he) ab)
    ·rw[if_neg uz]at ef;exact getD_set_true (cB.mB D aa ef e he ab)
   have Uk:∀D,D<pl.length->(li.setIfInBounds (dr pl k) O).getD D T=O->∀i,dq i D->(li.setIfInBounds (dr pl k) O).getD i T=O:=by
    intro D aa ef i he;rw[kX h']at ef;by_cases uz:D=dr pl k
    ·subst uz;exact getD_set_true (fX i he)
    ·rw[if_neg uz]at ef;exact getD_set_true (cB.HK D aa ef i he)
   by_cases w2:uk c1 (dc all pl k)=O
   ·
    obtain⟨e,d,bt,bq,dW,e4,g'⟩:=M6 w2;have m0:p<=k:=by
     rcases ox k p with h|h
     ·have:=(cB.cX k h yt).1;rw[ag3 w2]at this;cases this
     ·exact h
    obtain⟨lR,aN⟩:=Option.isSome_iff_exists.1 (M8 e g' e4);obtain⟨u,jr,jR,xb,Nb⟩:=ag4 dg.ty (dc all pl k) e bt aN a w;have kz:Region.wanted I (yielded all a.tmps)=O:=by have:=yp cB.t all (dc all pl k) (x:=O) (by simp[bv,bq]);rwa [rl]at this
    rw[rl]at jr;refine eS.steps (MT aF kz (.inl jr)) ?_;refine eS.after (cY:=w.alloc (.cells u e)) (cL:=(m.gh λg=>if g=w.heap.size then o (.cells u e)else m.gd g).gh aG) (J:=aC p) (Ext.refl (m.gh aG) _) ((mv _ _).alloc cB.w.size (.cells u e)) ?_;have Ul:∀g x,aG g=o x->g≠w.heap.size:=λg x a8 e=>by have:=cB.w.vy (cB.D g x a8);omega
    have BN:∀D n1,D<pl.length->D≠k->(dc all pl D).dst=o n1->n1≠d:=by
     intro D n1 aa kY a7 e;subst e;rcases ox D k with h|h
     ·exact(pp.dst D k n1 h Z dW).2 a7
     ·exact(pp.dst k D n1 (by omega) aa a7).2 dW
    rw[<-rl,dW];refine aZ _ p (λD=>if D=k then w.heap.size else mA D) _ _ _ Hs ⟨cB.le,by simpa using cB.eH,Uj,Uk,λD aa am=>?_,λD aa am=>?_,λD aa ef am=>?_,λD r8 aa dv ef B0 am h1 he=>?_,cB.w.az _,?_,by rw[Act.BY];exact cB.d,λg x a8=>?_⟩
    ·by_cases kY:D=k
     ·subst kY;exact .inr w2
     ·rw[kX h',if_neg (di D aa kY)]at am;exact cB.cK D aa am
    ·have kY:D≠k:=by omega
     rw[kX h',if_neg (di D (by have:=cB.le;omega) kY)]at am;exact cB.cX D aa am
    ·by_cases kY:D=k
     ·subst kY;refine⟨e,d,lR,u,bt,bq,dW,aN,jR,xb,Nb,?_,?_,λa7=>?_⟩
      ·rw[if_pos rfl];rcases aw:aG w.heap.size with _|x
       ·rfl
       ·exact absurd rfl (Ul _ x aw)
      ·simp[eh.gh]
      ·simp[Act.put]at a7;simp[Act.put,iL,a7]
     ·rw[kX h',if_neg (di D ef kY)]at am;obtain⟨dG,n1,DT,gB,dA,ft,iM,kZ,w',hp,hq,BZ,yv,DU⟩:=cB.jS D aa ef am;have bf:=cB.w.vy yv;refine⟨dG,n1,DT,gB,dA,ft,iM,kZ,w',hp,hq,by rw[if_neg kY];exact BZ,?_,λa7=>?_⟩
      ·rw[if_neg kY];show(if mA D=w.heap.size then _ else m.gd (mA D))=_;rw[if_neg (by omega)];exact yv
      ·rw[if_neg kY,Act.M4 λe=>BN D n1 ef kY iM (by injection e with e;exact e.symm)];exact DU (by simpa[Act.put]using a7)
    ·have yw:∀q,p<=q->q<pl.length->q≠k->(li.setIfInBounds (dr pl k) O).getD (dr pl q) T=O->mA q<w.heap.size:=λq J R ah aD=>by rw[kX h',if_neg (di q R ah)]at aD;obtain⟨_,_,_,_,_,_,_,_,_,_,_,_,yv,_⟩:=cB.jS q J R aD;exact cB.w.vy yv
     by_cases J:D=k<;>by_cases R:r8=k
     ·omega
     ·simp only[J,R,if_true,if_false]at he;have:=yw r8 dv B0 R h1;omega
     ·simp only[J,R,if_true,if_false]at he;have:=yw D aa ef J am;omega
     ·simp only[J,R,if_false]at he;rw[kX h',if_neg (di D ef J)]at am;rw[kX h',if_neg (di r8 B0 R)]at h1;exact cB.inj D r8 aa dv ef B0 am h1 he
    ·refine dY.of (by simp[Act.put];rw[cB.t.1,mZ,mZ]) λq aW=>?_;have z0:q<(cw N).length:=by rw[mZ]at aW;exact aW
     by_cases ao:rk all pl (li.setIfInBounds (dr pl k) O) p q
     ·rw[tb ao];have HM:q≠d:=λe=>by have:=(ao k Z (by rw[dW,e])).2;omega
      have xa:rk all pl li p q:=λD aa a7=>by
       obtain⟨bH,bR⟩:=ao D aa a7;have kY:D≠k:=by omega
       rw[kX h',if_neg (di D aa kY)]at bH;exact⟨bH,bR⟩
      have:=cB.t.slot (d:=q) (by rw[mZ];exact z0);rw[tb xa]at this;rw[Act.M4 λe=>HM (by injection e with e;exact e.symm)];exact this.gh
     ·rw[BX ao];exact .az _
    ·show(if g=w.heap.size then _ else m.gd g)=_;rw[if_neg (Ul g x a8)];exact cB.D g x a8
   ·
    have aw8:k<=N:=by
     rcases ns with h|⟨v,F,ah,aD,bo⟩
     ·omega
     ·rcases ox N k with bf|ul
      ·have ag8:nY (W.a' f) (dc all pl N)≠O:=by
        intro bS;obtain⟨_,⟨an,_⟩|⟨g,args,fn,an,_⟩⟩:=aD
        ·unfold nj at an;split at an
         ·rename_i x pP;simp[nY,nk,pP]at bS
         ·cases an
        ·rw[Ub bS]at an;cases an
       rcases cB.cK N ah (HN N ah (((pp.still N k bf Z).resolve_left λh=>ag8 (MZ eT.DQ h)).resolve_left w2))with h|h
       ·have:=cB.le;omega
       ·exact(Uh h aD).elim
      ·exact ul
    have main:∀(p:Nat) (m:eh),yu P W f all pl c1 dq N cw aC b aG li p mA m a w->k<=p->eS P S (m.gh aG) (aC p) w b cs (e3 (b.at a (.inRegion all (dr pl k::(L++Y))::K)) cs w) r:=by
     intro p m cB m0;have hw:=cB.w;have a3:=cB.t;have a7:=cB.d;have aH:=cB.le;have r9:=ag0 (fZ:=cw N) pp Z m0 HN;have oD:∀(im:Nat) (a9:eh) (ba:dy) (v:E) (gB:b1),k<im->p<=im->im<=N->(∀D,p<=D->D<im->D=k)->Ext m (aC p) a9 (aC im)->cc P a9 (aC im) ba->Below m.base w ba->bX P a9 (aC im) v gB->w8 (cw N) (dc all pl k) v->(∀D,D<im->D≠k->li.getD (dr pl D) T=T->ys P W f all (cw N) (dc all pl D) (aC im))->Steps P (e3 (b.at a (.inRegion all (dr pl k::(L++Y))::K)) cs w) (e3 (b.at (a.put I.dst gB) (.inRegion all (L++Y)::K)) cs ba)->eS P S (m.gh aG) (aC p) w b cs (e3 (b.at a (.inRegion all (dr pl k::(L++Y))::K)) cs w) r:=by
      intro im a9 ba v gB aw9 HI ag9 mX aw k0 re U kH ag' bS;refine eS.steps bS (eS.after (aw.gh aG) re ?_);refine aZ _ im mA a9 _ ba Hs ⟨ag9,by simpa using cB.eH,Uj,Uk,λD aa ef=>?_,λD aa ef=>?_,λD aa ef am=>?_,λD r8 aa dv ef B0 am h1=>?_,k0,?_,by rw[Act.BY];exact a7,λg x a8=>aw.gd g x (cB.D g x a8)⟩
      ·by_cases kY:D=k
       ·exact .inl (by omega)
       ·rw[kX h',if_neg (di D aa kY)]at ef;exact(cB.cK D aa ef).imp (λh=>by omega) id
      ·rw[kX h']at ef;by_cases kY:D=k
       ·subst kY;simp at ef
       ·rw[if_neg (di D (by omega) kY)]at ef;exact ag' D aa kY ef
      ·have kY:D≠k:=by omega
       rw[kX h',if_neg (di D ef kY)]at am;obtain⟨dG,n1,DT,gB,dA,ft,iM,kZ,w',hp,hq,BZ,yv,DU⟩:=cB.jS D (by omega) ef am;refine⟨dG,n1,DT,gB,dA,ft,iM,kZ,w',hp,hq,BZ,aw.gd _ _ yv,λnW=>?_⟩;have aha:I.dst≠o n1:=λe=>by rw[<-rl]at e;exact(pp.dst k D n1 (by omega) ef iM).2 e
       rw[Act.M4 aha];refine DU ?_;cases Um:I.dst with
       |none=>rw[Um]at nW;exact nW
       |some x=>rw[Um]at nW;simpa[Act.put]using nW
      ·have J:D≠k:=by omega
       have R:r8≠k:=by omega
       rw[kX h',if_neg (di D ef J)]at am;rw[kX h',if_neg (di r8 B0 R)]at h1;exact cB.inj D r8 (by omega) (by omega) ef B0 am h1
      ·rw[<-rl];exact agY pp Z h' HI (λD J R ah=>absurd (mX D J R) ah) aw a3 U kH
     have DV:∀{x:Bool},bv all (cw N) (dc all pl k)=o x->Region.wanted I (yielded all a.tmps)=x:=λkz=>by have:=yp a3 all (dc all pl k) (by rw[HH r9];exact kz);rwa [rl]at this
     have Un:∀{F:ag} {v:E},bv all (cw N) (dc all pl k)=o O->fF P (W.a' f) (cw N) (aC p) (dc all pl k)=o (v,F)->∀(im:Nat),aC im=F->k<im->p<=im->im<=N->(∀D,p<=D->D<im->D=k)->w8 (cw N) (dc all pl k) v->(∀D,D<im->D≠k->li.getD (dr pl D) T=T->ys P W f all (cw N) (dc all pl D) (aC im))->eS P S (m.gh aG) (aC p) w b cs (e3 (b.at a (.inRegion all (dr pl k::(L++Y))::K)) cs w) r:=by intro F v kz w5 im yn bM bL de uA fv n2;subst yn;have Nc:=w5;rw[<-T8 (W.a' f) r9]at Nc;rw[rl]at Nc;obtain⟨a9,ba,gB,d1,d2,d3,d4,d5⟩:=TW dg.ty hw a3 (W.a' f) Nc;exact oD im a9 ba v gB bM bL de uA d2 d3 d5 d4 fv n2 (MT aF (DV kz) d1)
     have Uo:∀(im:Nat),aC im=aC p->bv all (cw N) (dc all pl k)=o T->k<im->p<=im->im<=N->(∀D,p<=D->D<im->D=k)->w8 (cw N) (dc all pl k) (.bU [])->(∀D,D<im->D≠k->li.getD (dr pl D) T=T->ys P W f all (cw N) (dc all pl D) (aC im))->eS P S (m.gh aG) (aC p) w b cs (e3 (b.at a (.inRegion all (dr pl k::(L++Y))::K)) cs w) r:=by intro im yn kz bM bL de uA fv n2;exact oD im m w (.bU []) gq bM bL de uA (by rw[yn];exact Ext.refl _ _) (by rw[yn];exact hw) (mv _ _) bX.Mq fv n2 (MU aF (DV kz))
     rcases ox k p with HO|HO
     ·obtain⟨_,cX⟩:=cB.cX k HO yt;rcases cX with⟨cX,jS⟩|⟨cX,v,jS,w4⟩
      ·exact Uo p rfl cX HO (b4 _) aH (λD J R=>by omega) jS (λD aa _ aE=>cB.cX D aa aE)
      ·exact Un cX jS p rfl HO (b4 _) aH (λD J R=>by omega) w4 (λD aa _ aE=>cB.cX D aa aE)
     ·obtain rfl:p=k:=by omega
      have B1:∀{g args fn x F},fP (cw N) (dc all pl p)=o (g,args)->P.funcs[g]? =o fn->(fn.body.isNone=T/\(fn.name== "runtime.NumGoroutine")=T)->AC P g args (aC p) (x,F)->bv all (cw N) (dc all pl p)=o O->∃bA:List b1,dT P m (aC p) args bA/\(fB a.eval I).run P w= .ok (.enter g bA.toArray) w:=by intro g args fn x F aP bu cd dU gg;have DW:=aP;rw[<-MX r9,rl]at DW;exact HF a3 DW bu cd.2 cd.1
      rcases ox p N with B2|B2
      ·have bf:∀D,D<p+1->D≠p->li.getD (dr pl D) T=T->ys P W f all (cw N) (dc all pl D) (aC (p+1)):=by intro D aa kY aE;refine eT.Hj (by omega) B2 ?_ (cB.cX D (by omega) aE);intro aw;have:=HN D (by omega) aw;rw[aE]at this;cases this
       have Nd:∀D,p<=D->D<p+1->D=p:=λD J R=>by omega
       rcases eT.at B2 with⟨aR,a5,bp⟩|⟨aR,v,a5,bp,cA⟩
       ·exact Uo (p+1) bp aR (by omega) (by omega) B2 Nd a5 bf
       ·rcases a5 with⟨_,a5⟩|⟨g,args,fn,aP,bu,cd,dU⟩
        ·exact Un aR a5 (p+1) rfl (by omega) (by omega) B2 Nd bp bf
        ·obtain⟨bA,dL,cn⟩:=B1 aP bu cd dU aR;have ia:=dU m w bA hw dL;obtain⟨e,ba,hi,bS⟩:=DP (b:=b) (cs:=cs) (k:=K) (rest:=L++Y) aF (DV aR) cn ia (by rintro ba ⟨a9,_,_,_,gB,h,_⟩;cases h);obtain⟨a9,b3,dH,f',gB,hI,ha⟩:=hi;subst hI;rcases bS with⟨bs,ah,aD⟩|⟨gr,ah,_⟩
         ·injection ah with ah;subst ah;exact oD (p+1) a9 ba v gB (by omega) (by omega) B2 Nd b3 dH f' ha bp bf aD
         ·cases ah
      ·obtain rfl:p=N:=by omega
       have Up:∀d,S d=O->(o' all pl li p (cw p)).getD d .az=(cw p).getD d .az:=λd a7=>tb λD aa zY=>absurd zY (cO d a7 D aa);rcases ns with h|⟨v,F,ah,⟨aD,⟨aP,bu⟩|⟨g,args,fn,aP,bu,cd,dU⟩⟩,bo⟩
       ·omega
       ·rw[<-agL r9,rl]at aP;obtain⟨gB,b3,dH⟩:=T3 (w:=w) a3 aP;rw[bo,bu];exact⟨m.gh aG,w,Ext.refl _ _,hw.gh cB.D,mv _ _,a,_,gB,⟨_,a3.gh,Up⟩,a7,b3.gh,T4 aF (DV aD) dH⟩
       ·obtain⟨bA,dL,cn⟩:=B1 aP bu cd dU aD;have ia:=dU m w bA hw dL;obtain⟨e,ba,hi,bS⟩:=DP (b:=b) (cs:=cs) (k:=K) (rest:=L++Y) aF (DV aD) cn ia (by rintro ba ⟨a9,_,_,_,gB,h,_⟩;cases h);obtain⟨a9,b3,dH,f',gB,hI,ha⟩:=hi;subst hI;rcases bS with⟨bs,b9,_⟩|⟨gr,b9,todo,c4⟩
        ·cases b9
        ·injection b9 with b9;subst b9;rw[bo];exact⟨a9.gh aG,ba,b3.gh aG,dH.gh λg x a8=>b3.gd g x (cB.D g x a8),f',a,todo,gB,⟨_,(a3.ext b3).gh,Up⟩,a7,ha.gh,c4⟩
    rcases ox k p with h|h
    ·exact main p m cB (by omega)
    ·obtain⟨cL,b3,i8⟩:=cB.Ud eT (k - p) (by omega) λD J R aE=>by
      rcases pp.still D k (by omega) Z with h|h|h
      ·exact MZ eT.DQ h
      ·exact absurd h w2
      ·rw[HN D (by omega) h]at aE;cases aE
     rw[show p+(k - p)=k by omega]at b3 i8;exact eS.after b3 (mv _ _) (main k cL i8 (b4 _))
theorem Uq{S:Nat->Bool}{aG:Nat->Option Obj}(hlen:pl.length=all.size)(cO:∀d,S d=O->∀k,k<pl.length->(dc all pl k).dst≠o d)(dg:l' P W)(M8:∀e,e<2000000->c1 e=O->(kG P e).isSome=O)(eT:mb P W f all pl c1 dq N cw aC)(ns:N=pl.length\/∃v F,N<pl.length/\yr P all (dc all pl N) (cw N) (aC N) v F/\r=(.panic v,cw N,F))(M9:N=pl.length->∀cL cY aR,cc P cL (aC N) cY->dY P cL (aC N) (cw N) aR.tmps->aR.defers=b.defers->eS P S cL (aC N) cY b cs (e3 (b.at aR K) cs cY) r):∀(L:List Nat) (li:Array Bool) (p:Nat) (mA:Nat->Nat) (m:eh) (a:Act) (w:dy),lq all dq li L->yu P W f all pl c1 dq N cw aC b aG li p mA m a w->eS P S (m.gh aG) (aC p) w b cs (e3 (b.at a (.inRegion all L::K)) cs w) r:=by intro L li p mA m a w c5 cB;have:=Ui (Y:=[]) cO dg M8 eT ns (λeK cL cY aR bM bL de=>eS.steps (.one step_region_end) (M9 eK cL cY aR bM bL de)) L li p mA m a w (by rw[hlen];exact c5) cB;rwa [n3]at this
end
open Go Go.RowKit
theorem xc(e cs:List E)(off D:Nat)(hle:off+cs.length<=e.length):(dh e off cs)[D]? =if off<=D/\D<off+cs.length then cs[D - off]? else e[D]? :=by
 unfold dh;have J:(e.take off).length=off:=by simp;omega
 by_cases aa:D<off
 ·rw[if_neg (by omega),k',o4 (by omega),uv aa]
 ·rw[k',mx (by omega),J];by_cases r2:D<off+cs.length
  ·rw[if_pos (by omega),o4 (by omega)]
  ·rw[if_neg (by omega),mx (by omega),List.getElem?_drop];congr 1;omega
theorem z1(e cs:List E)(off:Nat)(hle:off+cs.length<=e.length):(dh e off cs).length=e.length:=by unfold dh;simp;omega
theorem ahb{agg:Bool}{n off pa:Nat}{e er:List E}{x:E}(J:x.cells.all E.one=O)(R:x.cells.length=n)(aE:n≠0)(hle:off+n<=e.length)(bE:er.all E.one=O)(Ug:pa+er.length<=e.length)(am:gO agg n (dh (dh e off x.cells) pa er) off=o x):∀D,D<n->(dh (dh e off x.cells) pa er)[off+D]? =x.cells[D]? :=by
 have cK:=z1 e x.cells off (by omega);have cX:=z1 (dh e off x.cells) er pa (by omega);unfold gO at am;split at am
 ·rename_i uq;rw[if_pos (by omega)]at am;injection am with am;intro D aa;have an:=congrArg E.cells am;generalize dh (dh e off x.cells) pa er=cF at an ⊢;rw[<-an];simp only[E.cells];rw[uv aa,List.getElem?_drop]
 ·intro D aa;have DM:x.one=O:=by
   have g:(dh (dh e off x.cells) pa er)[off]? =o x:=am;rw[xc _ _ _ _ (by omega)]at g;split at g
   ·exact jq.1 bE x (tc g)
   ·rw[xc _ _ _ _ (by omega),if_pos (by omega),Nat.sub_self]at g;exact jq.1 J x (tc g)
  have an:x.cells=[x]:=by cases x<;>first|rfl|(simp[E.one]at DM)
  rw[an]at R;have r7:D=0:=by simp at R;omega
  subst r7;rw[Nat.add_zero,am,an];rfl
theorem ahc{n off pa:Nat}{e xs er:List E}(R:xs.length=n)(hle:off+n<=e.length)(Ug:pa+er.length<=e.length)(am:∀D,D<n->(dh (dh e off xs) pa er)[off+D]? =xs[D]?):dh (dh e pa er) off xs=dh (dh e off xs) pa er:=by
 have cK:=z1 e xs off (by omega);have cX:=z1 e er pa (by omega);refine List.ext_getElem? λD=>?_;by_cases aa:off<=D/\D<off+xs.length
 ·have:=am (D - off) (by omega);rw[show off+(D - off)=D by omega]at this;rw[this,xc _ _ _ _ (by omega),if_pos aa]
 ·rw[xc _ _ _ _ (by omega),if_neg aa,xc _ _ _ _ (by omega),xc _ _ _ _ (by omega)];split
  ·rfl
  ·rw[xc _ _ _ _ (by omega),if_neg aa]
theorem Ur{n:Nat}{h:ag}{a x:E}{J:ag}(aC:eQ n h a x=o J):∃b i off es e,(∀agg k h,cS agg k h a=cS agg k h (.ptr b i off))/\(∀k h y,eQ k h a y=eQ k h (.ptr b i off) y)/\h.cell b=o es/\es[i]? =o e/\x.cells.all E.one=O/\x.cells.length=n/\off+n<=e.length/\J=h.set b (o (es.set i (dh e off x.cells))):=by
 have key:∀b i off,eQ n h (.ptr b i off) x=o J->∃es e,h.cell b=o es/\es[i]? =o e/\x.cells.all E.one=O/\x.cells.length=n/\off+n<=e.length/\J=h.set b (o (es.set i (dh e off x.cells))):=by
  intro b i off aC;unfold eQ at aC;simp only[dK]at aC;obtain⟨es,R,e,ah,aD⟩:=aC;split at aD
  ·rename_i an;injection aD with aD;exact⟨es,e,R,ah,an.1,an.2.1,an.2.2,aD.symm⟩
  ·cases aD
 cases a with
 |ptr b i off=>obtain⟨es,e,q⟩:=key b i off aC;exact⟨b,i,off,es,e,λ_ _ _=>rfl,λ_ _ _=>rfl,q⟩
 |gc t b=>obtain⟨es,e,q⟩:=key b 0 0 aC;exact⟨b,0,0,es,e,λ_ _ _=>rfl,λ_ _ _=>rfl,q⟩
 |_=>cases aC
theorem lc{n:Nat}{h:ag}{b i off:Nat}{x:E}{es:List (List E)}{e:List E}(J:h.cell b=o es)(R:es[i]? =o e)(ah:x.cells.all E.one=O)(aD:x.cells.length=n)(bo:off+n<=e.length):eQ n h (.ptr b i off) x=o (h.set b (o (es.set i (dh e off x.cells)))):=by unfold eQ;simp only[J,c2,R];rw[if_pos ⟨ah,aD,bo⟩]
theorem ag.HP{h:ag}{b:Nat}{es:Option (List (List E))}:(h.set b es).cell b=es:=by simp[ag.set]
theorem ag.Us{h:ag}{b D:Nat}{es:Option (List (List E))}(aa:D≠b):(h.set b es).cell D=h.cell D:=by simp[ag.set,aa]
theorem ag.HQ{h:ag}{b:Nat}{x y:Option (List (List E))}:(h.set b x).set b y=h.set b y:=by simp only[ag.set,ag.mk.injEq,and_true,true_and];funext k;split<;>simp_all
theorem ag.ahd{h:ag}{a b:Nat}(di:a≠b)(x y:Option (List (List E))):(h.set a x).set b y=(h.set b y).set a x:=by
 simp only[ag.set,ag.mk.injEq,and_true,true_and];funext k;by_cases J:k=a
 ·subst J;simp[di]
 ·simp[J]
theorem ahe{n b':Nat}{h J R:ag}{a x eP y:E}{agg:Bool}(aE:n≠0)(bg:eQ n h a x=o J)(aV:eQ b' J eP y=o R)(am:cS agg n R a=o x):∃kW,eQ b' h eP y=o kW/\eQ n kW a x=o R:=by
 obtain⟨b,i,off,es,e,ahf,ahg,aP,bu,cd,dU,gg,rfl⟩:=Ur bg;obtain⟨gz,ik,pa,gk,dG,_,Nf,d1,d2,d3,d4,d5,rfl⟩:=Ur aV;rw[ahf]at am;simp only[ahg,Nf];have af:i<es.length:=(fQ.1 bu).1;by_cases ab:gz=b
 ·subst ab;rw[ag.HP]at d1;injection d1 with d1;subst d1;by_cases HR:ik=i
  ·subst HR;rw[List.getElem?_set_self af]at d2;injection d2 with d2;subst d2;have cK:=z1 e x.cells off (by omega);have MW:gO agg n (dh (dh e off x.cells) pa y.cells) off=o x:=by have:cS agg n _ (.ptr gz ik off)=o x:=am;simp only[cS,ag.row,ag.HP,c2]at this;rw[List.set_set,List.getElem?_set_self af]at this;exact this
   have BJ:=ahb cd dU aE gg d3 (by omega) MW;have ahh:=ahc dU gg (by omega) BJ;refine⟨_,lc aP bu d3 d4 (by omega),?_⟩;rw[lc (es:=es.set ik (dh e pa y.cells)) (e:=dh e pa y.cells) ag.HP (List.getElem?_set_self af) cd dU (by rw[z1 _ _ _ (by omega)];exact gg)];rw[ag.HQ,ag.HQ,List.set_set,List.set_set,ahh]
  ·rw[List.getElem?_set_ne (lP HR)]at d2;refine⟨_,lc aP d2 d3 d4 d5,?_⟩;rw[lc (es:=es.set ik (dh dG pa y.cells)) (e:=e) ag.HP (by rw[List.getElem?_set_ne HR];exact bu) cd dU gg];rw[ag.HQ,ag.HQ,List.set_comm _ _ HR]
 ·rw[ag.Us ab]at d1;refine⟨_,lc d1 d2 d3 d4 d5,?_⟩;rw[lc (es:=es) (e:=e) (by rw[ag.Us (lP ab)];exact aP) bu cd dU gg];rw[ag.ahd ab]
section
variable{P:cT}{W:h8}{f:c'}{n aL:Nat}{bb:List Nat}{h F:ag}{t V ga:List E}{all:Array bh}{pl:List (Nat×List Nat)}{dq:Nat->Nat->Prop}
abbrev md(all:Array bh):Array Bool:=Array.replicate all.size T
theorem Ng(dg:l' P W)(pp:ta all pl (λ_=>T) dq)(m0:ye (W.e9 f) all=O){e:Option E}{dF:List E}(aH:oE P W f all (jf O all pl) t h e dF F){b:gI}{cs:List gI}{K:List Item}{r:kw×List E×ag}(hA:e=ad->∀(cL:eh) (cY:dy) (aR:Act),cc P cL F cY->dY P cL F dF aR.tmps->aR.defers=b.defers->eS P (W.e9 f) cL F cY b cs (e3 (b.at aR K) cs cY) r)(pU:∀v,e=o v->r=(.panic v,dF,F)){L:List Nat}(c5:lq all dq (md all) L){m:eh}{w:dy}{a:Act}(hw:cc P m h w)(a3:dY P m h t a.tmps)(a7:a.defers=b.defers):eS P (W.e9 f) m h w b cs (e3 (b.at a (.inRegion all L::K)) cs w) r:=by
 have cO:∀d,W.e9 f d=O->∀k,k<pl.length->(dc all pl k).dst≠o d:=λd a7 k Z e=>by have bf:=pp.lt k Z;have hm:=jq.1 m0 (dc all pl k) (Array.mem_toList_iff.2 (Array.mem_of_getElem? (vI bf)));rw[e]at hm;simp[a7]at hm
 obtain⟨N,cw,aC,J,R,ah,aD,bo,b9⟩:=aH.trace;have hlen:(jf O all pl).length=pl.length:=by simp[jf]
 have m1:∀i,i<pl.length->(jf O all pl)[i]? =o (dc all pl i,(s' pl i).map (fh all)):=by
  intro i af;simp only[jf,if_true,vF,fr af,hF,hZ];have au:pl.getD i default=pl[i]:=by simp[dz,af]
  simp only[dc,fh,dr,s',au];rfl
 have eT:mb P W f all pl (λ_=>T) dq N cw aC:=⟨pp.toQ,by omega,(λ_ h=>by cases h),λi af=>bo i _ af (m1 i (by omega))⟩;subst R;subst ah;subst aD;have w1:m=m.gh m.gd:=rfl;rw[w1];refine Uq (S:=W.e9 f) (aG:=m.gd) pp.len cO (r:=r) (K:=K) (b:=b) (cs:=cs) dg (λe _ he=>by cases he) eT ?_ ?_ _ (md all) 0 (λ_=>0) m a _ c5 ⟨mz _,by simp,λD aa ef=>?_,λD aa ef=>?_,λD aa ef=>?_,λD aa=>by omega,λD _ aa ef=>?_,λD r8 _ _ aa dv ef=>?_,hw,?_,a7,λ_ _ h=>h⟩
 ·cases e with
  |none=>exact .inl (by omega)
  |some v=>
    obtain⟨q,aW,bS⟩:=b9;have eK:N<pl.length:=by have:=(fQ.1 aW).1;omega
    rw[m1 N eK]at aW;injection aW with aW;subst aW;exact .inr ⟨v,F,eK,bS,pU v rfl⟩
 ·intro eK cL cY aR bM bL de;cases e with
  |none=>obtain⟨_,b9⟩:=b9;subst b9;exact hA rfl cL cY aR bM bL de
  |some v=>obtain⟨q,aW,bS⟩:=b9;have:=(fQ.1 aW).1;omega
 ·rw[pp.len]at aa;simp[iL,aa]at ef
 ·rw[pp.len]at aa;simp[iL,aa]at ef
 ·have:=pp.lt D aa;simp[iL,this]at ef
 ·have:=pp.lt D aa;simp[iL,this]at ef
 ·have:=pp.lt D aa;simp[iL,this]at ef
 ·have am:=eT.len 0 (mz _);refine dY.of (by rw[mZ,<-am];exact a3.1) λd DX=>?_;have DY:d<(cw 0).length:=by rw[mZ]at DX;omega
  by_cases uB:rk all pl (md all) 0 d
  ·rw[tb uB];have bc:=eT.g2 d 0 N (by omega) (λD _ aa he=>by
    have ef:D<pl.length:=by omega
    have:=(uB D ef he).2;omega)
   rw[hH]at bc;rw[bc];exact a3.slot DY
  ·rw[BX uB];exact .az _
theorem Ut(dg:l' P W){Y:List Nat}(pp:vG all pl (DA (W.e9 f)) λ_ _=>False)(m0:ye (W.e9 f) all=O){e:Option E}{dF:List E}(aH:oE P W f all (jf O all pl) t h e dF F){b:gI}{cs:List gI}{K:List Item}{r:kw×List E×ag}(hA:e=ad->∀(cL:eh) (cY:dy) (aR:Act),cc P cL F cY->dY P cL F dF aR.tmps->aR.defers=b.defers->eS P (W.e9 f) cL F cY b cs (e3 (b.at aR (.inRegion all Y::K)) cs cY) r)(pU:∀v,e=o v->r=(.panic v,dF,F)){L:List Nat}(c5:zZ pl.length all (λ_ _=>False) (md all) L){m:eh}{w:dy}{a:Act}(hw:cc P m h w)(a3:dY P m h t a.tmps)(a7:a.defers=b.defers):eS P (W.e9 f) m h w b cs (e3 (b.at a (.inRegion all (L++Y)::K)) cs w) r:=by
 have cO:∀d,W.e9 f d=O->∀k,k<pl.length->(dc all pl k).dst≠o d:=λd a7 k Z e=>by have bf:=fq (pp.lt k Z) pp.size;have hm:=jq.1 m0 (dc all pl k) (Array.mem_toList_iff.2 (Array.mem_of_getElem? (vI bf)));rw[e]at hm;simp[a7]at hm
 obtain⟨N,cw,aC,J,R,ah,aD,bo,b9⟩:=aH.trace;have hlen:(jf O all pl).length=pl.length:=by simp[jf]
 have m1:∀i,i<pl.length->(jf O all pl)[i]? =o (dc all pl i,(s' pl i).map (fh all)):=by
  intro i af;simp only[jf,if_true,vF,fr af,hF,hZ];have au:pl.getD i default=pl[i]:=by simp[dz,af]
  simp only[dc,fh,dr,s',au];rfl
 have eT:mb P W f all pl (DA (W.e9 f)) (λ_ _=>False) N cw aC:=⟨pp,by omega,(λty h=>dg.TY f ty h),λi af=>bo i _ af (m1 i (by omega))⟩;subst R;subst ah;subst aD;have w1:m=m.gh m.gd:=rfl;rw[w1];refine Ui (Y:=Y) (S:=W.e9 f) (aG:=m.gd) cO (r:=r) (K:=K) (b:=b) (cs:=cs) dg (λe J he=>dg.TX f e J he) eT ?_ ?_ _ (md all) 0 (λ_=>0) m a _ c5 ⟨mz _,by simp,λD aa ef=>?_,λD aa ef=>?_,λD aa ef=>?_,λD aa=>by omega,λD _ aa ef=>?_,λD r8 _ _ aa dv ef=>?_,hw,?_,a7,λ_ _ h=>h⟩
 ·cases e with
  |none=>exact .inl (by omega)
  |some v=>
    obtain⟨q,aW,bS⟩:=b9;have eK:N<pl.length:=by have:=(fQ.1 aW).1;omega
    rw[m1 N eK]at aW;injection aW with aW;subst aW;exact .inr ⟨v,F,eK,bS,pU v rfl⟩
 ·intro eK cL cY aR bM bL de;cases e with
  |none=>obtain⟨_,b9⟩:=b9;subst b9;exact hA rfl cL cY aR bM bL de
  |some v=>obtain⟨q,aW,bS⟩:=b9;have:=(fQ.1 aW).1;omega
 ·have aa:=fq aa pp.size;simp[iL,aa]at ef
 ·have aa:=fq aa pp.size;simp[iL,aa]at ef
 ·have:=fq (pp.lt D aa) pp.size;simp[iL,this]at ef
 ·have:=fq (pp.lt D aa) pp.size;simp[iL,this]at ef
 ·have:=fq (pp.lt D aa) pp.size;simp[iL,this]at ef
 ·have am:=eT.len 0 (mz _);refine dY.of (by rw[mZ,<-am];exact a3.1) λd DX=>?_;have DY:d<(cw 0).length:=by rw[mZ]at DX;omega
  by_cases uB:rk all pl (md all) 0 d
  ·rw[tb uB];have bc:=eT.g2 d 0 N (by omega) (λD _ aa he=>by
    have ef:D<pl.length:=by omega
    have:=(uB D ef he).2;omega)
   rw[hH]at bc;rw[bc];exact a3.slot DY
  ·rw[BX uB];exact .az _
theorem Uu{P:cT}{W:h8}{f:c'}{all:Array bh}{e:Option E}{dF:List E}{F:ag}:∀{cK cX:List (bh×List bh)} {t:List E} {h:ag},oE P W f all (cK++cX) t h e dF F->(∃t1 J,oE P W f all cK t h ad t1 J/\oE P W f all cX t1 J e dF F)\/∃v,e=o v/\oE P W f all cK t h (o v) dF F
 |[],cX,t,h,aH=>.inl ⟨t,h,.nil _ _,aH⟩
 |q::cK,cX,t,h,aH=>by
   have aH:oE P W f all (q::(cK++cX)) t h e dF F:=aH;cases aH with
   |step _ _ _ _ t1 J _ _ _ aC ao=>
     rcases Uu ao with⟨t2,R,a,b⟩|⟨v,a,b⟩
     ·exact .inl ⟨t2,R,.step _ _ _ _ _ _ _ _ _ aC a,b⟩
     ·exact .inr ⟨v,a,.step _ _ _ _ _ _ _ _ _ aC b⟩
   |stop _ _ _ _ v _ aC=>exact .inr ⟨v,rfl,.stop _ _ _ _ _ _ aC⟩
theorem ahi{y:Nat}{c1:a6->Bool}(yx:vG all pl c1 λ_ _=>False)(jZ:pl.length=y)(bE:y+1=all.size)(o9:∀i,i<y->lM (mQ all) i y=O):∀{li:Array Bool} {L:List Nat},lq all (λ_ _=>False) li L->li.size=all.size->li.getD y T=T->(∀D,D<pl.length->li.getD D T=O->∀e∈(fh all D).after,kR .any e=O->li.getD e.on T=O)->∃pV,L=pV++[y]/\zZ pl.length all (λ_ _=>False) li pV:=by
 intro li L aF;induction aF with
 |nil li h=>intro _ aE;rw[h y (by omega)]at aE;cases aE
 |cons li i L da ch eF kk td aZ=>
   intro aC aE kV;have h':i<li.size:=by omega
   by_cases af:i=y
   ·have ns:∀D,D<y->li.getD D T=O:=λD aa=>by
     obtain⟨e,au,ax,bc⟩:=yx.mask y D (by omega) (by omega) (o9 D aa);have bf:=yx.zX y (by omega) e au ax;have hle:=eF e (by rw[af];exact au) ax;rcases bc with bc|bc
     ·rw[<-bc];exact hle
     ·exact M5 yx kV e.on (by omega) (kV e.on (by omega) hle) D (by omega) bc
    cases td with
    |nil _ _=>exact⟨[],by rw[af];rfl,.nil _ λD aa=>ns D (by omega)⟩
    |cons _ k _ cE c6=>
      exfalso;rw[kX h']at c6;split at c6
      ·cases c6
      ·rename_i Z;rw[ns k (by omega)]at c6;cases c6
   ·obtain⟨pV,e,I⟩:=aZ (by simpa using aC) (by rw[kX h',if_neg (λh=>af h.symm)];exact aE) λD aa ef e he ab=>by
     rw[kX h']at ef;by_cases uz:D=i
     ·subst uz;exact getD_set_true (eF e he ab)
     ·rw[if_neg uz]at ef;exact getD_set_true (kV D aa ef e he ab)
    exact⟨i::pV,by rw[e];rfl,.cons _ _ _ (by omega) ch eF kk I⟩
abbrev z2(dq:Nat->Nat->Prop)(x y:Nat):Nat->Nat->Prop:=λi D=>dq i D\/(i=x/\D=y)
theorem Uv{x y:Nat}{li:Array Bool}{L:List Nat}(aF:lq all dq li L)(aC:li.size=all.size)(aw:li.getD x T=O):lq all (z2 dq x y) li L:=by
 induction aF with
 |nil li h=>exact .nil _ h
 |cons li i L J R ah aD _ aZ=>
   refine .cons _ _ _ J R ah (λD aa=>aa.elim (aD D) λe=>by rw[e.1];exact aw) (aZ (by simpa using aC) ?_);rw[kX (by omega)];split
   ·rfl
   ·exact aw
theorem DZ{x y:Nat}(di:x≠y)(vz:x<all.size){li:Array Bool}{L:List Nat}(aF:lq all dq li L)(aC:li.size=all.size)(aw:li.getD x T=T)(bE:li.getD y T=T):lq all (z2 dq x y) li L\/lq all (z2 dq y x) li L:=by
 induction aF with
 |nil li h=>have:=h x vz;rw[aw]at this;cases this
 |cons li i L J R ah aD ao aZ=>
   have h':i<li.size:=by omega
   by_cases eV:i=x
   ·subst eV;refine .inl (.cons _ _ _ J R ah (λD aa=>aa.elim (aD D) λe=>absurd e.2 di) (Uv ao (by simpa using aC) ?_));rw[kX h',if_pos rfl]
   ·by_cases Nh:i=y
    ·subst Nh;refine .inr (.cons _ _ _ J R ah (λD aa=>aa.elim (aD D) λe=>absurd e.2.symm di) (Uv ao (by simpa using aC) ?_));rw[kX h',if_pos rfl]
    ·rcases aZ (by simpa using aC) (by rw[kX h',if_neg (lP eV)];exact aw) (by rw[kX h',if_neg (lP Nh)];exact bE)with h|h
     ·exact .inl (.cons _ _ _ J R ah (λD aa=>aa.elim (aD D) λe=>absurd e.2 Nh) h)
     ·exact .inr (.cons _ _ _ J R ah (λD aa=>aa.elim (aD D) λe=>absurd e.2 eV) h)
theorem pW(i:Nat):(md all).getD i T=T:=by
 simp only[iL,md];by_cases af:i<all.size
 ·simp[af]
 ·simp[af]
theorem z3{D0:List (Nat×Nat)}(aH:wR D0 all pl=O):ta all pl (λ_=>T) λi D=>(i,D)∈D0:=by
 unfold wR at aH;simp only[hx]at aH;obtain⟨⟨⟨⟨⟨J,R⟩,nZ⟩,ah⟩,aD⟩,bo⟩:=aH;rw[jq]at J R nZ ah bo;have uy:∀k,k<pl.length->pl.getD k default∈pl:=λk Z=>by simp only[dz,fr Z,rf];exact iX Z
 have ma:∀i D,i<D->D<pl.length->Mi D0 all (mQ all) (pl.getD i default) (pl.getD D default)=O:=λi D ho aa=>by have:=bo D (j1.2 aa);rw[jq]at this;exact this i (j1.2 ho)
 have o9:∀i D,(lM (mQ all) i D||D0.contains (i,D))=O->ux all (λi D=>(i,D)∈D0) i D:=λi D h=>by rw[qC]at h;exact h.imp id λh=>by simpa using h
 unfold Mi at ma;simp only[hx,bne_iff_ne,ne_eq]at ma;refine⟨λi af=>?_,λk Z=>?_,λk d Z a7 gL=>?_,λD aa e he ab=>?_,λD i aa af o9=>?_,λi D ho aa=>?_,λi D ho aa=>?_,λi D ho aa=>?_,λi D d ho aa a7=>?_,λi D d ho aa a7 gL=>?_⟩
 ·have:=J i (j1.2 af);rw[List.any_eq_true]at this;obtain⟨q,aW,h⟩:=this;obtain⟨k,Z,rfl⟩:=List.getElem_of_mem aW;exact⟨k,Z,by simpa[dr,dz,Z]using h⟩
 ·have:=R _ (uy k Z);exact of_decide_eq_true this
 ·have:=nZ _ (uy k Z);unfold dc fh dr at a7 gL;rw[a7]at this;simp only[iL,List.getD_eq_getElem?_getD]at gL this;simp[vH,gL]at this
 ·have:=ah D (j1.2 aa);rw[Array.all_eq_true']at this;have:=this e he;simpa[ab]using this
 ·unfold BE at aD;rw[jq]at aD;have:=aD D (j1.2 aa);rw[jq]at this;have:=this i (j1.2 af);rw[o9]at this;simp only[Bool.not_true,Bool.false_or]at this;rw[Option.any_eq_true]at this;obtain⟨I,aF,b9⟩:=this;rw[Array.any_eq_true']at b9;obtain⟨e,he,c4⟩:=b9;simp only[hx,decide_eq_true_eq,qC,beq_iff_eq]at c4;refine⟨e,?_,c4.1.1,c4.2⟩;have:fh all D=I:=by simp[fh,iL,aF]
  rw[this];exact he
 ·exact(ma i D ho aa).1.1.1.1
 ·have:=(ma i D ho aa).1.1.1.2;rw[qC]at this;exact this.imp T' λh=>.inr (o9 _ _ h)
 ·have:=(ma i D ho aa).1.1.2;rw[qC,qC,qC]at this;rcases this with((h|h)|h)|h
  ·exact .inl (T' h)
  ·exact .inr (.inl (by rw[Bool.not_eq_true']at h;exact h))
  ·exact .inr (.inr (.inl (o9 _ _ h)))
  ·exact .inr (.inr (.inr (List.contains_iff_mem.1 h)))
 ·have:=(ma i D ho aa).1.2;unfold dc fh dr at a7 ⊢;rw[a7]at this;simpa[vH]using this
 ·have:=(ma i D ho aa).2;unfold dc fh dr at a7 gL;rw[a7]at this;rw[qC]at this;rcases this with h|h
  ·simp only[iL,List.getD_eq_getElem?_getD]at gL h;simp[vH,gL]at h
  ·exact o9 _ _ h
theorem lq.mono{all:Array bh}{dq Uw:Nat->Nat->Prop}(fX:∀i D,Uw i D->dq i D){li:Array Bool}{L:List Nat}(aF:lq all dq li L):lq all Uw li L:=by
 induction aF with
 |nil li h=>exact .nil _ h
 |cons li i L J R ah aD _ aZ=>exact .cons _ _ _ J R ah (λD aa=>aD D (fX _ _ aa)) aZ
theorem HS{I:bh}(h:rY I=O):∃ty a v,I.op= .store ty a v/\I.guard=ad/\I.dst=ad:=by
 unfold rY at h;split at h
 ·rename_i ty a v J R ah;exact⟨ty,a,v,J,R,ah⟩
 ·cases h
theorem Ux{x:bh}{bZ:List bh}{t1:List E}{J:ag}(aw:rY x=O)(aC:w6 P W f all (x,bZ) t h t1 J):∃ty a v,x.op= .store ty a v/\dl P ty≠0/\eQ (dl P ty) h (bD t a) (bD t v)=o J/\t1=t/\pI P all t J bZ:=by
 obtain⟨ty,a,v,bt,bq,dW⟩:=HS aw;rcases aC with⟨bg,_⟩|⟨_,u,aV,br,bz⟩
 ·simp[bv,bq]at bg
 ·have e:t1=t:=by rw[br,dW];rfl
  subst e;refine⟨ty,a,v,bt,?_⟩;rcases aV with⟨_,aV⟩|⟨g,args,fn,aP,_⟩
  ·simp only[fF,bt]at aV;split at aV
   ·cases aV
   ·rename_i aN;simp only[dN,kh]at aV;obtain⟨R,b8,_,rfl⟩:=aV;exact⟨aN,b8,rfl,bz⟩
  ·simp[fP,bt]at aP
theorem HT{x:bh}{ty:a6}{a v:gy}{J:ag}(aw:rY x=O)(bt:x.op= .store ty a v)(aN:dl P ty≠0)(s:eQ (dl P ty) h (bD t a) (bD t v)=o J):w6 P W f all (x,[]) t h t J:=by obtain⟨uj,eP,bs,Ni,bq,dW⟩:=HS aw;refine .inr ⟨by simp[bv,bq],.az,.inl ⟨by simp[fP,bt],?_⟩,by rw[dW];rfl,trivial⟩;simp only[fF,bt];rw[if_neg aN,s];rfl
theorem Uy{x:bh}{v:E}(aw:rY x=O)(aC:yr P all x t h v F):False:=by
 obtain⟨ty,a,u,bt,bq,dW⟩:=HS aw;obtain⟨_,⟨c,_⟩|⟨g,args,fn,c,_⟩⟩:=aC
 ·simp[nj,bt]at c
 ·simp[fP,bt]at c
theorem Uz{x y:bh}(aw:rY x=O)(bE:rY y=O):∀{pre:List (bh×List bh)} {t:List E} {h:ag} {e:Option E} {dF:List E} {F:ag},oE P W f all (pre++[(x,[]),(y,[x])]) t h e dF F->oE P W f all (pre++[(x,[]),(y,[])]) t h e dF F/\oE P W f all (pre++[(y,[]),(x,[])]) t h e dF F
 |[],t,h,e,dF,F,aH=>by
   cases aH with
   |stop _ _ _ _ _ _ aC=>exact(Uy aw aC).elim
   |step _ _ _ _ t1 J _ _ _ aC aH=>
     obtain⟨ty,a,v,bt,eD,bg,rfl,_⟩:=Ux aw aC;cases aH with
     |stop _ _ _ _ _ _ aC=>exact(Uy bE aC).elim
     |step _ _ _ _ t2 R _ _ _ iZ aH=>
       obtain⟨uj,eP,bs,Ni,UA,aV,rfl,bZ⟩:=Ux bE iZ;cases aH with
       |nil=>obtain⟨_,_,_,_,ch,eF⟩:=HS aw;have pT:=bZ.1;simp only[bv,ch,bt,eF]at pT;obtain⟨kW,cY,gC⟩:=ahe eD bg aV pT;exact⟨.step _ _ _ _ _ _ _ _ _ (HT aw bt eD bg) (.step _ _ _ _ _ _ _ _ _ (HT bE Ni UA aV) (.nil _ _)),.step _ _ _ _ _ _ _ _ _ (HT bE Ni UA cY) (.step _ _ _ _ _ _ _ _ _ (HT aw bt eD gC) (.nil _ _))⟩
 |q::pre,t,h,e,dF,F,aH=>by
   cases aH with
   |stop _ _ _ _ _ _ aC=>exact⟨.stop _ _ _ _ _ _ aC,.stop _ _ _ _ _ _ aC⟩
   |step _ _ _ _ t1 J _ _ _ aC aH=>obtain⟨a,b⟩:=Uz aw bE aH;exact⟨.step _ _ _ _ _ _ _ _ _ aC a,.step _ _ _ _ _ _ _ _ _ aC b⟩
theorem ahj{c1:a6->Bool}{pl:List (Nat×List Nat)}(aH:Mk c1 all pl=O):∃r y,pl=r++[(y,[])]/\y+1=all.size/\(∀i,i<y->lM (mQ all) i y=O)/\Hf y c1 all r=O:=by
 unfold Mk at aH;split at aH
 ·rename_i y r e;simp only[hx,beq_iff_eq]at aH;obtain⟨⟨J,R⟩,ah⟩:=aH;rw[jq]at R;refine⟨r.reverse,y,?_,J,λi af=>R i (j1.2 af),ah⟩;have:=congrArg List.reverse e;simpa using this
 ·cases aH
theorem ahk{pl:List (Nat×List Nat)}(aH:Mj all pl=O):∃r x y,pl=r++[(x,[]),(y,[x])]/\x≠y/\rY (fh all x)=O/\rY (fh all y)=O/\ta all (r++[(x,[]),(y,[])]) (λ_=>T) (λi D=>(i,D)∈[(x,y)])/\ta all (r++[(y,[]),(x,[])]) (λ_=>T) (λi D=>(i,D)∈[(y,x)]):=by
 unfold Mj at aH;split at aH
 ·rename_i y kc x r ao;simp only[hx,beq_iff_eq,bne_iff_ne,ne_eq]at aH;obtain⟨⟨⟨⟨⟨rfl,R⟩,ah⟩,aD⟩,bo⟩,b9⟩:=aH;refine⟨r.reverse,kc,y,?_,R,ah,aD,z3 bo,z3 b9⟩;have:=congrArg List.reverse ao;rw[List.reverse_reverse]at this;rw[this];simp
 ·cases aH
end
section
variable{P:cT}{m a9:eh}{h F:ag}{w ba:dy}
theorem aB.refl(h:ag):aB h h:=⟨b4 _,b4 _,λ_ _=>rfl,λ_ _=>rfl⟩
theorem aB.trans{J R ah:ag}(a:aB J R)(b:aB R ah):aB J ah:=⟨e7 a.n b.n,e7 a.ids b.ids,λk Z=>(b.cell k (fq Z a.n)).trans (a.cell k Z),λk Z=>(b.hw k (fq Z a.ids)).trans (a.hw k Z)⟩
theorem aB.push(h:ag)(es:List (List E)):aB h (h.push es):=⟨by simp[ag.push],by simp[ag.push],λb ab=>by simp[ag.push,show b≠h.n by omega],λ_ _=>rfl⟩
theorem aB.fresh(h:ag)(n:Nat):aB h (h.fresh n):=⟨by simp[ag.fresh],by simp[ag.fresh],λb ab=>rfl,λk Z=>by simp[ag.fresh,show k≠h.ids by omega]⟩
theorem aB.grow{aj h:ag}(g:aB aj h){id n:Nat}(af:aj.ids<=id):aB aj (h.grow id n):=⟨g.n,g.ids,g.cell,λk Z=>by simpa[ag.grow,show k≠id by omega]using g.hw k Z⟩
theorem aB.set{aj h:ag}(g:aB aj h){b:Nat}{es:Option (List (List E))}(ab:aj.n<=b):aB aj (h.set b es):=⟨g.n,g.ids,λk Z=>by simpa[ag.set,show k≠b by omega]using g.cell k Z,g.hw⟩
theorem bX.back(x:Ext m h a9 F)(g:aB h F){v:E}(r:bX P a9 F v u):∀{rm:b1},bX P m h v rm->bX P a9 h v u:=by
 induction r with
 |az v=>intro _ _;exact .az v
 |bool b=>intro _ _;exact .bool b
 |int k n=>intro _ _;exact .int k n
 |str l=>intro _ _;exact .str l
 |e2=>intro _ _;exact .e2
 |ptr b i off ab=>
   intro rm gD;cases gD with
   |ptr _ _ _ oC=>exact .ptr b i off oC
 |gc t b ab a3=>
   intro rm gD;cases gD with
   |gc _ _ oC _=>exact .gc t b oC a3
 |ip e off g I ae af U aZ=>
   intro rm gD;cases gD with
   |ip _ _ rn D1 aJ g9 n4=>exact .ip e off g I ae af (λD aa=>aZ D aa (n4 D aa))
 |aA=>intro _ _;exact .aA
 |b0 id e es xd I cap ae am af U an a3 aZ=>
   intro rm gD;cases gD with
   |b0 _ _ _ rn D1 aw' aJ s6 g9 n4 yg HU=>refine .b0 id e es xd I cap ae am af (λi eR D aa=>aZ i eR D aa (n4 i eR D aa)) an (λk Z=>?_);obtain⟨aR,a5,bp,cA⟩:=a3 k Z;obtain⟨cg,dw,fW,qE⟩:=HU k Z;have:=g.hw k cg;exact⟨cg,a5,fW,λdG=>cA (by omega)⟩
   |nS _ _ _=>exact .b0 ad e [] xd I cap ae (by simp) (λi af=>absurd af (Nat.not_lt_zero _)) (λi af=>absurd af (Nat.not_lt_zero _)) an (λk Z=>by cases Z)
 |nS e a cap=>intro _ _;exact .nS e a cap
 |bn b I n e cap ab he jQ aE kd=>
   intro rm gD;cases gD with
   |bn _ _ _ _ _ oC _ _ _ _=>exact .bn b I n e cap oC he jQ aE kd
 |fn g l c b2 ej J R ah aD yh oy=>
   intro rm gD;cases gD with
   |fn _ _ _ ib cp aR a5 bp cA=>exact .fn g l c b2 ej J R (λD aa dv=>yh D aa dv (bp D aa (by omega))) (λD aa dv=>oy D aa dv (cA D aa (by omega)))
 |nQ=>intro _ _;exact .nQ
 |ig=>intro _ _;exact .ig
 |iface t v bs J aZ=>
   intro rm gD;cases gD with
   |iface _ _ _ aR=>exact .iface t v bs (aZ aR)
 |agg l b2 J ah aZ=>
   intro rm gD;cases gD with
   |agg _ ib aR bp=>exact .agg l b2 J (λD aa dv=>aZ D aa dv (bp D aa (by omega)))
 |bU l b2 J ah aZ=>
   intro rm gD;cases gD with
   |bU _ ib aR bp=>exact .bU l b2 J (λD aa dv=>aZ D aa dv (bp D aa (by omega)))
theorem cc.back(hw:cc P m h w)(x:Ext m h a9 F)(g:aB h F)(k0:cc P a9 F ba):Ext m h a9 h/\cc P a9 h ba:=by
 refine⟨⟨x.base,b4 _,b4 _,x.cm,x.eo,λk Z=>?_,x.gd⟩,?_⟩
 ·obtain⟨aR,a5,bp⟩:=x.l8 k Z;exact⟨aR,b4 _,λ_=>bp (g.hw k Z)⟩
 have up:∀b es,h.cell b=o es->F.cell b=o es:=λb es ab=>by rw[g.cell b (hw.lt b es ab).1];exact ab
 refine⟨k0.size,λb es ab=>⟨(hw.lt b es ab).1,(k0.lt b es (up b es ab)).2⟩,λb es ab=>?_,λb gz es gk ab k9=>k0.inj b gz es gk (up _ _ ab) (up _ _ k9),k0.eo,λb es ab=>k0.sep b es (up _ _ ab),λk Z=>?_,λk Z=>?_,λk Z b es ab=>?_,λk dQ Z np=>?_,k0.cG,λfu y aa=>?_⟩
 ·obtain⟨cs,J,R,ah,aD,bo⟩:=k0.live b es (up _ _ ab);obtain⟨axa,_,_,_,_,gW⟩:=hw.live b es ab;refine⟨cs,J,R,ah,aD,λi af D aa=>?_⟩;obtain⟨v,b9,c4⟩:=bo i af D aa;obtain⟨iq,_,r'⟩:=gW i af D aa;exact⟨v,b9,c4.back x g r'⟩
 ·have:=k0.qu k (fq Z g.ids);rwa [g.hw k Z]at this
 ·have:=k0.o2 k (fq Z g.ids);rwa [g.hw k Z]at this
 ·exact k0.nT k (fq Z g.ids) b es (up _ _ ab)
 ·exact k0.pL k dQ (fq Z g.ids) (fq np g.ids)
 ·obtain⟨aR,a5,bp,cA,et⟩:=k0.gd fu y aa;exact⟨aR,a5,λb es ab=>bp b es (up _ _ ab),λk Z=>cA k (fq Z g.ids),et⟩
theorem D2:∀{l cX:List E},o0 l=o cX->cX.length=l.length/\∀D (aa:D<l.length) (r2:D<cX.length),c7 l[D]=o cX[D]
 |[],cX,he=>by simp[o0]at he;subst he;exact⟨rfl,λD aa=>by simp at aa⟩
 |v::l,cX,he=>by
   simp only[o0]at he;split at he
   ·rename_i bs b2 J R;injection he with he;subst he;obtain⟨aR,a5⟩:=D2 R;refine⟨by simp[aR],λD aa r2=>?_⟩;cases D with
    |zero=>exact J
    |succ D=>exact a5 D (by simpa using aa) (by simpa using r2)
   ·cases he
theorem UB:∀{l cX:List (List E)},qs l=o cX->cX.length=l.length/\∀D (aa:D<l.length) (r2:D<cX.length),o0 l[D]=o cX[D]
 |[],cX,he=>by simp[qs]at he;subst he;exact⟨rfl,λD aa=>by simp at aa⟩
 |v::l,cX,he=>by
   simp only[qs]at he;split at he
   ·rename_i bs b2 J R;injection he with he;subst he;obtain⟨aR,a5⟩:=UB R;refine⟨by simp[aR],λD aa r2=>?_⟩;cases D with
    |zero=>exact J
    |succ D=>exact a5 D (by simpa using aa) (by simpa using r2)
   ·cases he
theorem bX.qF{aj:ag}{v:E}(r:bX P m h v u):∀{cn:E},c7 v=o cn->bX P m aj cn u:=by
 induction r with
 |az v=>intro cn he;simp[c7]at he;subst he;exact .az v
 |bool b=>intro cn he;simp[c7]at he;subst he;exact .bool b
 |int k n=>intro cn he;simp[c7]at he;subst he;exact .int k n
 |str l=>intro cn he;simp[c7]at he;subst he;exact .str l
 |e2=>intro cn he;simp[c7]at he;subst he;exact .e2
 |ptr b i off ab=>intro cn he;simp[c7]at he
 |gc t b ab a3=>intro cn he;simp[c7]at he
 |ip e off g I ae af U aZ=>intro cn he;simp[c7]at he
 |aA=>intro cn he;simp[c7]at he;subst he;exact .aA
 |b0 id e es xd I cap ae am af U an a3 aZ=>
   intro cn he;simp only[c7]at he;obtain⟨xe,J,rfl⟩:=dN.1 he;obtain⟨aR,a5⟩:=UB J;have lo:∀i (af:i<es.length) (il:i<xe.length),xe[i].length=es[i].length:=λi af il=>(D2 (a5 i af il)).1;have:xe.length=es.length:=aR;rw[<-this];refine .b0 ad e xe xd I cap ae (λr ao=>?_) (λi eR D aa=>af i (by omega) D aa) (λi eR D aa=>?_) (by omega) (λk Z=>by cases Z)
   ·obtain⟨i,il,rfl⟩:=List.getElem_of_mem ao;rw[lo i (by omega) il];exact am _ (iX _)
   ·have g9:i<es.length:=by omega
    have r7:D<es[i].length:=by rw[<-lo i g9 eR];exact aa
    exact aZ i g9 D r7 ((D2 (a5 i g9 eR)).2 D r7 aa)
 |nS e a cap=>intro cn he;simp[c7,qs]at he;subst he;exact .nS e a cap
 |bn b I n e cap ab he jQ aE kd=>intro cn he;simp[c7]at he
 |fn g l c b2 ej J R ah aD yh oy=>intro cn he;simp[c7]at he
 |nQ=>intro cn he;simp[c7]at he;subst he;exact .nQ
 |ig=>intro cn he;simp[c7]at he;subst he;exact .ig
 |iface t v bs J aZ=>intro cn he;simp only[c7]at he;obtain⟨hB,J,rfl⟩:=dN.1 he;exact .iface t hB bs (aZ J)
 |agg l b2 J ah aZ=>intro cn he;simp only[c7]at he;obtain⟨cX,R,rfl⟩:=dN.1 he;obtain⟨aR,a5⟩:=D2 R;exact .agg cX b2 (by omega) (λD aa dv=>aZ D (by omega) dv (a5 D (by omega) aa))
 |bU l b2 J ah aZ=>intro cn he;simp only[c7]at he;obtain⟨cX,R,rfl⟩:=dN.1 he;obtain⟨aR,a5⟩:=D2 R;exact .bU cX b2 (by omega) (λD aa dv=>aZ D (by omega) dv (a5 D (by omega) aa))
theorem AC.forget{g:c'}{args:List E}{p:Bool}{q ek:(E⊕E)×ag}(ia:AC P g args h q)(aW:nl p h q=o ek):AC P g args h ek:=by
 unfold nl at aW;split at aW
 ·split at aW
  ·rename_i a8;obtain⟨x,R⟩:=q;intro m w bA hw U;refine(ia m w bA hw U).mono λe ba ⟨a9,b3,dH,f',hI⟩=>?_;obtain⟨fs,jy⟩:=hw.back b3 a8 dH;cases x with
   |inl v=>obtain⟨cn,au,rfl⟩:=dN.1 aW;obtain⟨u,ax,bc⟩:=hI;exact⟨a9,fs,jy,f',u,ax,bc.qF au⟩
   |inr v=>obtain⟨cn,au,rfl⟩:=dN.1 aW;obtain⟨u,ax,bc⟩:=hI;exact⟨a9,fs,jy,f',u,ax,bc.qF au⟩
  ·cases aW
 ·injection aW with aW;subst aW;exact ia
end
open Go Go.RowKit
inductive te(pl:Nat->List (Nat×List Nat))(S:Nat->Bool):List iU->List Item->Prop
 |nil:te pl S [] []
 |code (c:fK) (k:List iU) (K:List Item):iz pl S c=O->te pl S k K->te pl S (.code c::k) (.code c::K)
 |inBlock (id:Nat) (k:List iU) (K:List Item):te pl S k K->te pl S (.inBlock id::k) (.inBlock id::K)
 |inLoop (c:fK) (k:List iU) (K:List Item):iz pl S c=O->te pl S k K->te pl S (.inLoop c::k) (.inLoop c::K)
 |halt (K:List Item) (k:List iU):te pl S (.halt K::k) K
def D3(P:cT)(W:h8)(f:c')(k:List iU)(t:List E)(h:ag)(r:kw×List E×ag):Prop:=∀K,te (W.cz f) (W.e9 f) k K->∀(b:gI) (cs:List gI) (m:eh) (w:dy) (a:Act),cc P m h w->dY P m h t a.tmps->a.defers=b.defers->eS P (W.e9 f) m h w b cs (e3 (b.at a K) cs w) r
def nv(P:cT)(W:h8)(f:c'):List iU->List E->ag->kw×List E×ag->Prop
 |.ops O all l::k,t,h,r=>∃e dF F,oE P W f all l t h e dF F/\(match e with|none=>D3 P W f k dF F r|some v=>r=(.panic v,dF,F))
 |.ops T all l::k,t,h,r=>∀bN:List Nat,l=bN.map (λi=>(fh all i,[]))->(∀i∈bN,i<all.size)->∀K,te (W.cz f) (W.e9 f) k K->∀(b:gI) (cs:List gI) (m:eh) (w:dy) (a:Act),cc P m h w->dY P m h t a.tmps->a.defers=b.defers->eS P (W.e9 f) m h w b cs (e3 (b.at a (.inRegion all bN::K)) cs w) r
 |k,t,h,r=>D3 P W f k t h r
section
variable{P:cT}{W:h8}{f:c'}{k:List iU}{t:List E}{h F:ag}{r:kw×List E×ag}
theorem nv.cG(hm:nv P W f k t h r):D3 P W f k t h r:=by
 rcases k with _|⟨x,k⟩
 ·exact hm
 ·cases x with
  |ops d all l=>intro K eg;cases eg
  |_=>exact hm
theorem ahl{pl:Nat->List (Nat×List Nat)}{S:Nat->Bool}{id:Nat}:∀{k dQ:List iU} {K:List Item},te pl S k K->ow id k=o dQ->∃HV,exitTo id K=o HV/\te pl S dQ HV:=by
 intro k dQ K Z;induction Z with
 |nil=>intro he;simp[ow]at he
 |code c k K _ _ aZ=>intro he;simp only[ow]at he;simpa[exitTo]using aZ he
 |inBlock i k K Z aZ=>
   intro he;simp only[ow]at he;by_cases af:i=id
   ·rw[if_pos af]at he;injection he with he;subst he;exact⟨K,by simp[exitTo,af],Z⟩
   ·rw[if_neg af]at he;simpa[exitTo,af]using aZ he
 |inLoop c k K _ _ aZ=>intro he;simp only[ow]at he;simpa[exitTo]using aZ he
 |halt K k=>intro he;simp[ow]at he
theorem HW(dg:l' P W){I:bh}{v:E}{m:eh}{w:dy}{a:Act}{b:gI}{cs:List gI}{K:List Item}{all:Array bh}{i:Nat}(aF:all[i]? =o I)(kz:bv all t I=o O)(hw:cc P m h w)(a3:dY P m h t a.tmps)(bl:zW P W f t h I v F):∃a9 ba u,Ext m h a9 F/\cc P a9 F ba/\bX P a9 F v u/\Below m.base w ba/\Steps P (e3 (b.at a (.inRegion all (i::rest)::K)) cs w) (e3 (b.at (a.put I.dst u) (.inRegion all rest::K)) cs ba):=by
 have B3:=yp a3 all I kz;rcases bl with⟨_,R⟩|⟨g,args,fn,aP,bu,cd,dU⟩
 ·obtain⟨a9,ba,u,d1,d2,d3,d4,d5⟩:=TW dg.ty hw a3 (W.a' f) R;exact⟨a9,ba,u,d2,d3,d4,d5,MT aF B3 d1⟩
 ·obtain⟨bA,dL,cn⟩:=HF (w:=w) a3 aP bu cd.2 cd.1;obtain⟨e,ba,hi,bS⟩:=DP (b:=b) (cs:=cs) (k:=K) (rest:=rest) aF B3 cn (dU m w bA hw dL) (by rintro ba ⟨a9,_,_,_,gB,h,_⟩;cases h);obtain⟨a9,b3,dH,f',gB,hI,ha⟩:=hi;subst hI;rcases bS with⟨bs,ah,aD⟩|⟨gr,ah,_⟩
  ·injection ah with ah;subst ah;exact⟨a9,ba,gB,b3,dH,ha,f',aD⟩
  ·cases ah
theorem UC{S:Nat->Bool}(dg:l' P W){I:bh}{v:E}{m:eh}{w:dy}{a:Act}{b:gI}{cs:List gI}{K:List Item}{all:Array bh}{i:Nat}(aF:all[i]? =o I)(hw:cc P m h w)(a3:dY P m h t a.tmps)(a7:a.defers=b.defers)(bl:yr P all I t h v F):eS P S m h w b cs (e3 (b.at a (.inRegion all (i::rest)::K)) cs w) (.panic v,t,F):=by
 obtain⟨kz,⟨aP,bu⟩|⟨g,args,fn,aP,bu,cd,dU⟩⟩:=bl
 ·have B3:=yp a3 all I kz;obtain⟨gB,b3,dH⟩:=T3 (w:=w) a3 aP;subst bu;exact⟨m,w,Ext.refl _ _,hw,mv _ _,a,_,gB,⟨t,a3,λ_ _=>rfl⟩,a7,b3,T4 aF B3 dH⟩
 have B3:=yp a3 all I kz;obtain⟨bA,dL,cn⟩:=HF (w:=w) a3 aP bu cd.2 cd.1;obtain⟨e,ba,hi,bS⟩:=DP (b:=b) (cs:=cs) (k:=K) (rest:=rest) aF B3 cn (dU m w bA hw dL) (by rintro ba ⟨a9,_,_,_,gB,h,_⟩;cases h);obtain⟨a9,b3,dH,f',gB,hI,ha⟩:=hi;subst hI;rcases bS with⟨bs,ah,_⟩|⟨gr,ah,todo,aD⟩
 ·cases ah
 ·injection ah with ah;subst ah;exact⟨a9,ba,b3,dH,f',a,todo,gB,⟨t,a3.ext b3,λ_ _=>rfl⟩,a7,ha,aD⟩
theorem Nj(dg:l' P W){g:c'}{fn:Func}{c:fK}{args:List E}(bl:P.funcs[g]? =o fn)(ab:fn.body=o c)(B4:W.use g=O)(a8:D3 P W g [.code c] (args++al (fn.ntmps - args.length) .az) h r):∀q,BF P fn r=o q->AC P g args h q:=by
 have key:∀(m:eh) (w:dy) (bA:List b1),cc P m h w->dT P m h args bA->∀cs,∃b:gI,b.fn=g/\b.kind= .normal/\b.defers=[]/\eS P (W.e9 g) m h w b cs (e3 (j0 P g bA.toArray .normal) cs w) r:=by
  intro m w bA hw U cs;refine⟨j0 P g bA.toArray .normal,rfl,rfl,rfl,?_⟩;have:=a8 [.code c] (.code c _ _ (dg.cz g fn c bl ab B4) .nil) (j0 P g bA.toArray .normal) cs m w {tmps:=(bA++al (fn.ntmps - bA.length) gq).toArray,defers:=[]} hw ?_ rfl
  ·have e:(j0 P g bA.toArray .normal).at {tmps:=(bA++al (fn.ntmps - bA.length) gq).toArray,defers:=[]} [.code c]=j0 P g bA.toArray .normal:=by simp[j0,Frame.at,bl,ab]
   rwa [e]at this
  ·have am:=U.1;have R:dT P m h (args++al (fn.ntmps - args.length) .az) (bA++al (fn.ntmps - bA.length) gq):=by rw[am];exact dT.append U ⟨by simp,λD aa dv=>by simp only[List.getElem_replicate];exact .az _⟩
   refine⟨by simpa using R.1,λi af=>?_⟩;have il:i<(bA++al (fn.ntmps - bA.length) gq).length:=by rw[R.1];exact af
   have:=R.2 i af il;simp only[iL,List.getElem?_toArray,fr il,rf];exact this
 obtain⟨x,dF,F⟩:=r;cases x with
 |ret=>intro q aW;obtain⟨v,U,rfl⟩:=dN.1 aW;intro m w bA hw fl cs;obtain⟨b,mT,nU,ut,a9,ba,J,R,ah,eP,todo,aD,bo,b9⟩:=key m w bA hw fl cs;rw[ut]at bo;obtain⟨u,c4,hh⟩:=yq R aD U;exact⟨.returned u,ba,_,⟨a9,J,R,ah,u,rfl,hh⟩,b9,mT,rfl,bo,nU,fn,by simpa[Frame.at,mT]using bl,c4⟩
 |halt K=>intro q aW;cases aW
 |panic v=>intro q aW;injection aW with aW;subst aW;intro m w bA hw fl cs;obtain⟨b,mT,nU,ut,a9,ba,J,R,ah,eP,todo,u,_,aD,bo,b9⟩:=key m w bA hw fl cs;rw[ut]at aD;exact⟨.panicked _,ba,_,⟨a9,J,R,ah,u,rfl,bo⟩,b9,mT,rfl,aD,fn,by simpa[Frame.at,mT]using bl⟩
theorem nv.ahm{all:Array bh}(hm:nv P W f k t h r):nv P W f (.ops ds all []::k) t h r:=by
 cases ds with
 |true=>exact⟨ad,t,h,.nil t h,hm.cG⟩
 |false=>
   intro bN nw bf K eg b cs m w a hw a3 a7;cases bN with
   |cons i bN=>simp at nw
   |nil=>exact eS.steps (.one step_region_end) (hm.cG K eg b cs m w a hw a3 a7)
theorem nv.HX(dg:l' P W){all:Array bh}{q:bh×List bh}{l:List (bh×List bh)}{t1:List E}{J:ag}(aC:w6 P W f all q t h t1 J)(hm:nv P W f (.ops ds all l::k) t1 J r):nv P W f (.ops ds all (q::l)::k) t h r:=by
 cases ds with
 |true=>obtain⟨e,dF,F,R,ah⟩:=hm;exact⟨e,dF,F,.step _ _ _ _ _ _ _ _ _ aC R,ah⟩
 |false=>
   intro bN nw bf K eg b cs m w a hw a3 a7;cases bN with
   |nil=>simp at nw
   |cons i bN=>
     simp only[kT,xf]at nw;obtain⟨rfl,nw⟩:=nw;have aF:=vI (all:=all) (bf i (by simp));rcases aC with⟨bg,rfl,rfl⟩|⟨bg,v,aV,rfl,_⟩
     ·exact eS.steps (MU aF (yp a3 all _ bg)) (hm bN nw (λD aa=>bf D (by simp[aa])) K eg b cs m w _ hw (a3.put bX.Mq _) (by rw[Act.BY];exact a7))
     ·obtain⟨a9,ba,u,d1,d2,d3,d4,d5⟩:=HW (b:=b) (cs:=cs) (K:=K) (rest:=bN) dg aF bg hw a3 aV;exact eS.steps d5 (eS.after d1 d4 (hm bN nw (λD aa=>bf D (by simp[aa])) K eg b cs a9 ba _ d2 ((a3.ext d1).put d3 _) (by rw[Act.BY];exact a7)))
theorem nv.Nk(dg:l' P W){all:Array bh}{q:bh×List bh}{l:List (bh×List bh)}{v:E}(aC:yr P all q.1 t h v F):nv P W f (.ops ds all (q::l)::k) t h (.panic v,t,F):=by
 cases ds with
 |true=>exact⟨o v,t,F,.stop _ _ _ _ _ _ aC,rfl⟩
 |false=>
   intro bN nw bf K eg b cs m w a hw a3 a7;cases bN with
   |nil=>simp at nw
   |cons i bN=>simp only[kT,xf]at nw;obtain⟨rfl,nw⟩:=nw;exact UC dg (vI (bf i (by simp))) hw a3 a7 aC
theorem ahn(dg:l' P W){id:Nat}{all:Array bh}{d:Bool}(hm:nv P W f (.ops d all (jf d all (W.cz f id))::k) t h r):D3 P W f (.code (.region id all d)::k) t h r:=by
 intro K eg b cs m w a hw a3 a7;cases eg with
 |code _ _ K ao eg=>
 cases d with
 |false=>
   refine eS.steps (.one step_region) (hm (i7 all.size) ?_ (λi af=>j1.1 af) K eg b cs m w a hw a3 a7);simp only[jf,l9,if_false];apply List.ext_getElem (by simp);intro i J R;have af:i<all.size:=by simpa using J
   simp[fh,af]
 |true=>
   simp only[iz,Bool.not_true,Bool.false_or]at ao;rw[hx]at ao;obtain⟨ao,m0⟩:=ao;rw[qC]at ao;rcases ao with ao|ao
   case inr=>
    obtain⟨gD,y,dV,bE,o9,dA⟩:=ahj ao;obtain⟨jZ,yx⟩:=agR (by omega) dA;obtain⟨e,dF,F,aH,he⟩:=hm;rw[dV]at aH;have D4:jf O all (gD++[(y,[])])=jf O all gD++[(fh all y,[])]:=by simp[jf,fh]
    rw[D4]at aH;have Nl:y<all.size:=by omega
    have D5:∀{t1:List E} {J:ag},oE P W f all [(fh all y,[])] t1 J e dF F->∀(cL:eh) (cY:dy) (aR:Act),cc P cL J cY->dY P cL J t1 aR.tmps->aR.defers=b.defers->eS P (W.e9 f) cL J cY b cs (e3 (b.at aR (.inRegion all [y]::K)) cs cY) r:=by
     intro t1 J pb cL cY aR bM bL de;cases pb with
     |step _ _ _ _ t2 R _ _ _ aC qw=>
       cases qw;have kf:∀(c3:eh) (gC:dy) (a5:Act),cc P c3 F gC->dY P c3 F dF a5.tmps->a5.defers=b.defers->eS P (W.e9 f) c3 F gC b cs (e3 (b.at a5 (.inRegion all []::K)) cs gC) r:=λc3 gC a5 eD fR hl=>eS.steps (.one step_region_end) (he K eg b cs c3 gC a5 eD fR hl);rcases aC with⟨bg,rfl,rfl⟩|⟨bg,v,aV,rfl,_⟩
       ·exact eS.steps (MU (vI Nl) (yp bL all _ bg)) (kf cL cY _ bM (bL.put bX.Mq _) (by rw[Act.BY];exact de))
       ·obtain⟨c3,gC,u,d1,d2,d3,d4,d5⟩:=HW (b:=b) (cs:=cs) (K:=K) (rest:=[]) dg (vI Nl) bg bM bL aV;exact eS.steps d5 (eS.after d1 d4 (kf c3 gC _ d2 ((bL.ext d1).put d3 _) (by rw[Act.BY];exact de)))
     |stop _ _ _ _ v _ aC=>have he:r=(.panic v,dF,F):=he;rw[he];exact UC dg (vI Nl) bM bL de aC
    refine eS.steps (.one step_region_draw) (eS.after (Ext.refl _ _) (mv _ _).drew ?_);simp only[Region.schedule,dg.mixed,Bool.true_or,if_true,Region.linearise];obtain⟨pV,aho,UD⟩:=ahi yx jZ bE o9 (HJ yx.zX _ _ (md all) (by simp) (by simp[List.countP_replicate];exact b4 _)) (by simp) (pW y) (λD _ ef=>by rw[pW]at ef;cases ef);rw[aho];rcases Uu aH with⟨t1,J,b3,dH⟩|⟨v,Nm,b3⟩
    ·exact Ut dg yx m0 b3 (λ_=>D5 dH) (λv U=>by cases U) UD hw.drew a3 a7
    ·subst Nm;exact Ut dg yx m0 b3 (λU=>by cases U) (λcn U=>by injection U with U;rw[<-U];exact he) UD hw.drew a3 a7
   rw[qC]at ao;rcases ao with ao|ao
   case inr=>
    obtain⟨pre,x,y,dV,di,bV,Nn,dA,ft⟩:=ahk ao;obtain⟨e,dF,F,aH,he⟩:=hm;rw[dV]at aH;have aw:x<all.size:=by
     obtain⟨bM,bL⟩:pre.length<(pre++[(x,[]),(y,[])]:List (Nat×List Nat)).length/\dr (pre++[(x,[]),(y,[])]) pre.length=x:=by simp[dr]
     rw[<-bL];exact dA.lt _ bM
    have jZ:∀a b:Nat×List Nat,jf O all (pre++[a,b])=jf O all pre++[(fh all a.1,a.2.map (fh all)),(fh all b.1,b.2.map (fh all))]:=by intro a b;simp[jf,fh]
    rw[jZ]at aH;obtain⟨bg,aV⟩:=Uz bV Nn aH;have hA:e=ad->∀(cL:eh) (cY:dy) (aR:Act),cc P cL F cY->dY P cL F dF aR.tmps->aR.defers=b.defers->eS P (W.e9 f) cL F cY b cs (e3 (b.at aR K) cs cY) r:=by intro dV;subst dV;exact λcL cY aR bM bL de=>he K eg b cs cL cY aR bM bL de
    have pU:∀v,e=o v->r=(.panic v,dF,F):=by intro v dV;subst dV;exact he
    have ns:∀L,lq all (λ_ _=>False) (md all) L->eS P (W.e9 f) m h w.drew b cs (e3 (b.at a (.inRegion all L::K)) cs w.drew) r:=by
     intro L aF;rcases DZ di aw aF (by simp) (pW x) (pW y)with aF|aF
     ·refine Ng dg dA m0 (by rw[jZ];exact bg) hA pU (aF.mono λi D aa=>?_) hw.drew a3 a7;simp only[List.mem_singleton,kh]at aa;exact .inr aa
     ·refine Ng dg ft m0 (by rw[jZ];exact aV) hA pU (aF.mono λi D aa=>?_) hw.drew a3 a7;simp only[List.mem_singleton,kh]at aa;exact .inr aa
    refine eS.steps (.one step_region_draw) (eS.after (Ext.refl _ _) (mv _ _).drew ?_);simp only[Region.schedule,dg.mixed,Bool.true_or,if_true,Region.linearise];exact ns _ (HJ dA.zX _ _ _ (by simp) (by simp[List.countP_replicate]))
   have pp:=agT ao;have cO:∀d,W.e9 f d=O->∀k,k<(W.cz f id).length->(dc all (W.cz f id) k).dst≠o d:=λd a7 k Z e=>by have bf:=pp.lt k Z;have hm:=jq.1 m0 (dc all (W.cz f id) k) (Array.mem_toList_iff.2 (Array.mem_of_getElem? (vI bf)));rw[e]at hm;simp[a7]at hm
   obtain⟨e,dF,F,aH,he⟩:=hm;obtain⟨N,cw,aC,J,R,ah,aD,bo,b9⟩:=aH.trace;generalize jZ:W.cz f id=pl at*;have hlen:(jf O all pl).length=pl.length:=by simp[jf]
   have m1:∀i,i<pl.length->(jf O all pl)[i]? =o (dc all pl i,(s' pl i).map (fh all)):=by
    intro i af;simp only[jf,if_true,vF,fr af,hF,hZ];have au:pl.getD i default=pl[i]:=by simp[dz,af]
    simp only[dc,fh,dr,s',au];rfl
   have eT:mb P W f all pl (DA (W.e9 f)) (λ_ _=>False) N cw aC:=⟨pp.toQ,by omega,(λty h=>dg.TY f ty h),λi af=>bo i _ af (m1 i (by omega))⟩;subst R;subst ah;subst aD;refine eS.steps (.one step_region_draw) (eS.after (Ext.refl _ _) (mv _ _).drew ?_);simp only[Region.schedule,dg.mixed,Bool.true_or,if_true,Region.linearise];have w1:m=m.gh m.gd:=rfl;rw[w1];refine Uq (S:=W.e9 f) (aG:=m.gd) pp.len cO (r:=r) (K:=K) (b:=b) (cs:=cs) dg (λe J he=>dg.TX f e J he) eT ?_ ?_ _ (Array.replicate all.size T) 0 (λ_=>0) m a _ (HJ pp.zX _ _ _ (by simp) ?_) ⟨mz _,by simp,λD aa ef=>?_,λD aa ef=>?_,λD aa ef=>?_,λD aa=>by omega,λD _ aa ef=>?_,λD r8 _ _ aa dv ef=>?_,hw.drew,?_,a7,λ_ _ h=>h⟩
   ·cases e with
    |none=>exact .inl (by omega)
    |some v=>
      obtain⟨q,aW,bS⟩:=b9;have eK:N<pl.length:=by have:=(fQ.1 aW).1;omega
      rw[m1 N eK]at aW;injection aW with aW;subst aW;exact .inr ⟨v,F,eK,bS,he⟩
   ·intro eK cL cY aR bM bL de;cases e with
    |none=>obtain⟨_,b9⟩:=b9;subst b9;exact he K eg b cs cL cY aR bM bL de
    |some v=>obtain⟨q,aW,bS⟩:=b9;have:=(fQ.1 aW).1;omega
   ·simp[List.countP_replicate]
   ·rw[pp.len]at aa;simp[iL,aa]at ef
   ·rw[pp.len]at aa;simp[iL,aa]at ef
   ·have:=pp.lt D aa;simp[iL,this]at ef
   ·have:=pp.lt D aa;simp[iL,this]at ef
   ·have:=pp.lt D aa;simp[iL,this]at ef
   ·have am:=eT.len 0 (mz _);refine dY.of (by rw[mZ,<-am];exact a3.1) λd DX=>?_;have DY:d<(cw 0).length:=by rw[mZ]at DX;omega
    by_cases uB:rk all pl (Array.replicate all.size T) 0 d
    ·rw[tb uB];have bc:=eT.g2 d 0 N (by omega) (λD _ aa he=>by
      have ef:D<pl.length:=by omega
      have:=(uB D ef he).2;omega)
     rw[hH]at bc;rw[bc];exact a3.slot DY
    ·rw[BX uB];exact .az _
end
theorem HY{P:cT}{W:h8}(dg:l' P W):∀(f:c') (k:List iU) (t:List E) (h:ag) (r:kw×List E×ag),dJ P W f k t h=o r->nv P W f k t h r:=by
 refine dJ.partial_correctness P W (nv P W) λrun aZ f k t h r ao=>?_;split at ao
 ·injection ao with ao;subst ao;intro K eg b cs m w a hw a3 a7;cases eg;exact⟨m,w,Ext.refl _ _,hw,mv _ _,a,[],a3,a7,.one step_end⟩
 ·rename_i id k;intro K eg b cs m w a hw a3 a7;cases eg with
  |inBlock _ _ K eg=>exact eS.steps (.one step_inBlock) ((aZ _ _ _ _ _ ao).cG K eg b cs m w a hw a3 a7)
 ·rename_i ahp k;injection ao with ao;subst ao;intro K eg b cs m w a hw a3 a7;cases eg;exact⟨m,w,Ext.refl _ _,hw,mv _ _,a,a3,a7,Steps.refl _ _⟩
 ·rename_i c k;intro K eg b cs m w a hw a3 a7;cases eg with
  |inLoop _ _ K an eg=>exact eS.steps (.one step_inLoop) ((aZ _ _ _ _ _ ao).cG _ (.code c _ _ an (.inLoop c _ _ an eg)) b cs m w a hw (a3.clear _) a7)
 ·exact(aZ _ _ _ _ _ ao).ahm
 ·rename_i ds all I bZ l k;split at ao
  ·cases ao
  ·rename_i kz;exact nv.HX dg (.inl ⟨kz,rfl,rfl⟩) (aZ _ _ _ _ _ ao)
  ·rename_i kz;split at ao
   ·rename_i v D4;injection ao with ao;subst ao;exact nv.Nk (q:=(I,bZ)) dg ⟨kz,.inl ⟨D4,rfl⟩⟩
   split at ao
   ·rename_i g args B5;split at ao
    ·rename_i ae dt;obtain⟨⟨x,J⟩,aw,ao⟩:=dK.1 ao;obtain⟨fn,oF,hE,ia⟩:=dg.ext g ae dt;cases x with
     |inl v=>
       simp only at ao;split at ao
       ·rename_i pT;exact nv.HX (q:=(I,bZ)) dg (.inr ⟨kz,v,.inr ⟨g,args,fn,B5,oF,hE,ia args h _ aw⟩,rfl,pT⟩) (aZ _ _ _ _ _ ao)
       ·cases ao
     |inr v=>simp only at ao;injection ao with ao;subst ao;exact nv.Nk dg ⟨kz,.inr ⟨g,args,fn,B5,oF,hE,ia args h _ aw⟩⟩
    ·split at ao
     ·cases ao
     ·rename_i fn oF;split at ao
      ·cases ao
      ·rename_i c an;split at ao
       ·cases ao
       ·rename_i bQ;have B4:W.use g=O:=by simpa using bQ
        obtain⟨bH,aw,ao⟩:=dK.1 ao;obtain⟨bM,HZ,ao⟩:=dK.1 ao;obtain⟨⟨x,J⟩,tf,ao⟩:=dK.1 ao;have ia:=(Nj dg oF an B4 (aZ _ _ _ _ _ aw).cG bM HZ).forget tf;have rl:fn.body.isNone=T/\(fn.name== "runtime.NumGoroutine")=T:=⟨by simp[an],dg.name g fn oF B4⟩;cases x with
        |inl v=>
          simp only at ao;split at ao
          ·rename_i pT;exact nv.HX (q:=(I,bZ)) dg (.inr ⟨kz,v,.inr ⟨g,args,fn,B5,oF,rl,ia⟩,rfl,pT⟩) (aZ _ _ _ _ _ ao)
          ·cases ao
        |inr v=>simp only at ao;injection ao with ao;subst ao;exact nv.Nk dg ⟨kz,.inr ⟨g,args,fn,B5,oF,rl,ia⟩⟩
   ·rename_i B5;obtain⟨⟨v,J⟩,aw,ao⟩:=dK.1 ao;simp only at ao;split at ao
    ·rename_i pT;exact nv.HX (q:=(I,bZ)) dg (.inr ⟨kz,v,.inl ⟨B5,aw⟩,rfl,pT⟩) (aZ _ _ _ _ _ ao)
    ·cases ao
 ·rename_i c k;split at ao
  ·intro K eg b cs m w a hw a3 a7;cases eg with
   |code _ _ K an eg=>exact eS.steps (.one step_skip) ((aZ _ _ _ _ _ ao).cG K eg b cs m w a hw a3 a7)
  ·intro K eg b cs m w a hw a3 a7;cases eg with
   |code _ _ K an eg=>exact eS.steps (.one step_label) ((aZ _ _ _ _ _ ao).cG K eg b cs m w a hw a3 a7)
  ·intro K eg b cs m w a hw a3 a7;cases eg with
   |code _ _ K an eg=>simp only[iz,hx]at an;exact eS.steps (.one step_seq) ((aZ _ _ _ _ _ ao).cG _ (.code _ _ _ an.1 (.code _ _ _ an.2 eg)) b cs m w a hw a3 a7)
  ·rename_i c x y;split at ao
   ·rename_i aO w5;intro K eg b cs m w a hw a3 a7;cases eg with
    |code _ _ K an eg=>
      simp only[iz,hx]at an;have U:=hv a3 c;rw[w5]at U;have ahq:a.eval c= .bool aO:=by revert U;generalize a.eval c=q;intro U;cases U;rfl
      refine eS.steps (.one (step_cond ahq)) ?_;cases aO with
      |true=>exact(aZ _ _ _ _ _ (by simpa using ao)).cG _ (.code _ _ _ an.1 eg) b cs m w a hw a3 a7
      |false=>exact(aZ _ _ _ _ _ (by simpa using ao)).cG _ (.code _ _ _ an.2 eg) b cs m w a hw a3 a7
   ·cases ao
  ·intro K eg b cs m w a hw a3 a7;cases eg with
   |code _ _ K an eg=>exact eS.steps (.one step_block) ((aZ _ _ _ _ _ ao).cG _ (.code _ _ _ (by simpa[iz]using an) (.inBlock _ _ _ eg)) b cs m w a hw a3 a7)
  ·intro K eg b cs m w a hw a3 a7;cases eg with
   |code _ _ K an eg=>have ki:=an;simp only[iz]at ki;exact eS.steps (.one step_loop) ((aZ _ _ _ _ _ ao).cG _ (.code _ _ _ ki (.inLoop _ _ _ ki eg)) b cs m w a hw (a3.clear _) a7)
  ·obtain⟨dQ,np,ao⟩:=dK.1 ao;intro K eg b cs m w a hw a3 a7;cases eg with
   |code _ _ K an eg=>obtain⟨HV,J,R⟩:=ahl eg np;exact eS.steps (.one (step_exit J)) ((aZ _ _ _ _ _ ao).cG HV R b cs m w a hw a3 a7)
  ·injection ao with ao;subst ao;intro K eg b cs m w a hw a3 a7;cases eg with
   |code _ _ K an eg=>exact⟨m,w,Ext.refl _ _,hw,mv _ _,a,_,a3,a7,.one step_ret⟩
  ·exact ahn dg (aZ _ _ _ _ _ ao)
  ·cases ao
theorem UE{P:cT}{W:h8}(dg:l' P W){g:c'}{args:List E}{h:ag}{r:(E⊕E)×ag}(ao:aQ P W g args h=o r):AC P g args h r:=by
 unfold aQ at ao;split at ao
 ·rename_i ae dt;obtain⟨fn,_,_,ia⟩:=dg.ext g ae dt;exact ia args h r ao
 ·split at ao
  ·cases ao
  ·rename_i fn oF;split at ao
   ·cases ao
   ·rename_i c an;split at ao
    ·cases ao
    ·rename_i bQ;have B4:W.use g=O:=by simpa using bQ
     obtain⟨bH,aw,ao⟩:=dK.1 ao;obtain⟨bM,HZ,ao⟩:=dK.1 ao;exact(Nj dg oF an B4 (HY dg _ _ _ _ _ aw).cG bM HZ).forget ao
inductive Arg where
 |v (D:Nat)
 |l (i:Nat)
 |c (a:E)
def arg(V L:List E):Arg->E
 |.v D=>V.getD D .az
 |.l i=>L.getD i .az
 |.c a=>a
inductive e0 where
 |a4 (x:Arg)
 |pick (c x y:Arg)
 |build (z:List E) (pl:List (Nat×Nat)) (parts:List (Nat×Arg))
 |j2 (x:Arg)
 |bin (eI:jP) (op:BinOp) (x y:Arg)
 |yy (eI:jP) (aT:Option (List jP)) (gQ:Bool) (op:BinOp) (x y:Arg)
 |un (op:UnOp) (x:Arg)
 |conv (eI:jP) (x:Arg)
 |D6 (t:a6) (x:Arg)
 |H0 (g:c') (first captured:List Arg)
 |B6 (s:Bool) (e:Option a6) (x:Arg) (ih af:Option Arg)
 |c0 (off:Nat) (x:Arg)
 |D7 (agg:Bool) (n off:Nat) (x:Arg)
 |fG (e:Option a6) (gu:Option (Nat×Nat)) (x k:Arg)
 |bV (s:Bool) (gu:Option (Nat×Nat×Bool)) (x k:Arg)
 |D8 (aS:a6) (ok:Bool) (x:Arg)
 |ext (x:Arg) (i:Nat)
 |len (s:Bool) (e:Option a6) (x:Arg)
 |alloc (z:List E)
 |No (t:a6) (z:List E)
 |kg (ni:Bool) (x y:Arg)
 |box (n:Nat) (x:Arg)
 |Np (t:a6) (n:Nat) (x:Arg)
 |lr (a':Bool) (e:a6) (z:List E) (n len:Nat) (parts:List (Nat×Arg))
 |H2 (e:a6) (z:List E) (n len:Nat) (parts:List (Nat×Arg))
 |load (agg:Bool) (n:Nat) (x:Arg)
 |store (n:Nat) (a x:Arg)
 |H3 (e:a6) (z:List E) (l c:Arg)
 |app (a':Bool) (e:a6) (x y:Arg)
 |apps (a':Bool) (e:a6) (x y:Arg)
 |call (f:Arg) (args:List Arg)
 |yz (x:Arg)
inductive pc where
 |l
 |v (D:Nat)
 |n
structure vK where
 guard:Option (Arg×Bool)
 agg:Bool
 n:Nat
 a:Arg
 d:Arg
inductive ay where
 |i (d:pc) (I:e0)
 |g (a:Arg) (w:Bool) (d:pc) (I:e0)
 |bZ (l:List vK)
inductive be where
 |ops (l:List ay)
 |cond (a:Arg) (x y:List be)
 |block (id:Nat) (b:List be)
 |loop (b:List be)
 |exit (id:Nat)
 |ret
inductive i' where
 |bP (l:List be)
 |ops (l:List ay)
 |cm (id:Nat)
 |e' (b:List be)
 |halt (K:List Item)
inductive n5 where
 |v (D:Nat)
 |cell (agg:Bool) (n:Nat) (D:Nat)
def dO(e:Option a6)(gu:Option (Nat×Nat))(x k:E):Option E:=
 match x,k with
 |.b0 _ el es,.int _ k=>if e=o el/\0<=k then(es[k.toNat]?).map λe=>.ip e 0 else ad
 |.bn b I n el,.int _ k=>if e=o el/\0<=k/\k<n then o (.ptr b (I+k.toNat) 0)else ad
 |.ptr b i off,.int _ k=>gu.bind λq=>if q.2≠0/\0<=k/\k<q.1 then o (.ptr b i (off+k.toNat*q.2))else ad
 |.ip e off,.int _ k=>gu.bind λq=>if q.2≠0/\0<=k/\k<q.1 then o (.ip e (off+k.toNat*q.2))else ad
 |_,_=>ad
def D9(s:Bool)(gu:Option (Nat×Nat×Bool))(x k:E):Option E:=
 match x,k with
 |.str l,.int _ k=>if s=O/\0<=k then(l[k.toNat]?).map λc=>.int .u8 c.toNat else ad
 |.agg cs,.int _ k=>gu.bind λq=>if q.2.1≠0/\0<=k/\k<q.1 then gO q.2.2 q.2.1 cs (k.toNat*q.2.1)else ad
 |_,_=>ad
def j3(s:Bool)(e:Option a6):E->Bool
 |.str _=>s
 |.b0 _ el _=>e==o el
 |.bn _ _ _ el=>e==o el
 |.aA=>e.isSome
 |_=>T
def D':E->Option E
 |.ptr b i off=>o (.ptr b i off)
 |.gc t b=>o (.gc t b)
 |.ip e off=>o (.ip e off)
 |.fn f a c=>o (.fn f a c)
 |.iface q v=>o (.iface q v)
 |_=>ad
def Nq:jP->Bool
 |.iface=>O
 |_=>T
def oG(eI:jP)(aT:Option (List jP))(gQ:Bool)(op:BinOp)(x y:E):Option E:=
 match x,y with
 |.ig,.ig=>if Nq eI&&gQ then(match op with|.eql=>o (.bool O)|.neq=>o (.bool T)|_=>ad)else ad
 |.agg xs,.agg er=>aT.bind λaT=>match op with
   |.eql=>(pH aT xs er).map λb=>.bool b
   |.neq=>(pH aT xs er).map λb=>.bool !b
   |_=>ad
 |a,b=>en eI op a b
def Nr(c x y:E):Option E:=match c with
 |.bool v=>o (if v then x else y)
 |_=>ad
def H4(t:a6)(x:E):Option E:=if x.one then o (.iface t x)else match x with
 |.agg cs=>o (.iface t (.agg cs))
 |_=>ad
def B7(aS:a6)(ok:Bool):E->Option E
 |.iface q v=>if q=aS then o (if ok then .bU [v,.bool O]else v)else ad
 |_=>ad
def Ns(x:E)(i:Nat):Option E:=match x with
 |.bU bA=>bA[i]?
 |_=>ad
def H5(agg:Bool)(n off:Nat):E->Option E
 |.agg cs=>gO agg n cs off
 |_=>ad
def Nt(e:a6)(z:List E)(l c:E)(h:ag):Option (E×ag):=match l,c with
 |.int _ n,.int _ m=>if 0<=n/\n=m/\n<=100000 then o (.bn h.n 0 n.toNat e,h.push (al n.toNat z))else ad
 |_,_=>ad
def hJ(V L:List E)(h:ag):e0->Option (E×ag)
 |.a4 x=>o (arg V L x,h)
 |.pick c x y=>(Nr (arg V L c) (arg V L x) (arg V L y)).map λv=>(v,h)
 |.build z pl parts=>(pF pl z (parts.map λq=>(q.1,arg V L q.2))).map λcs=>(.agg cs,h)
 |.j2 x=>(D' (arg V L x)).map λv=>(v,h)
 |.bin eI op x y=>(en eI op (arg V L x) (arg V L y)).map λv=>(v,h)
 |.yy eI aT gQ op x y=>(oG eI aT gQ op (arg V L x) (arg V L y)).map λv=>(v,h)
 |.un op x=>(zI op (arg V L x)).map λv=>(v,h)
 |.conv eI x=>(yb eI (arg V L x)).map λv=>(v,h)
 |.D6 t x=>(H4 t (arg V L x)).map λv=>(v,h)
 |.H0 g first captured=>o (.fn g (first.map (arg V L)) (captured.map (arg V L)),h)
 |.B6 s e x ih af=>if j3 s e (arg V L x)then(wP (arg V L x) (ih.map (arg V L)) (af.map (arg V L))).map λv=>(v,h)else ad
 |.c0 off x=>(b5 off (arg V L x)).map λv=>(v,h)
 |.D7 agg n off x=>(H5 agg n off (arg V L x)).map λv=>(v,h)
 |.fG e gu x k=>(dO e gu (arg V L x) (arg V L k)).map λv=>(v,h)
 |.bV s gu x k=>(D9 s gu (arg V L x) (arg V L k)).map λv=>(v,h)
 |.D8 aS ok x=>(B7 aS ok (arg V L x)).map λv=>(v,h)
 |.ext x i=>(Ns (arg V L x) i).map λv=>(v,h)
 |.len s e x=>if j3 s e (arg V L x)then(hX (arg V L x)).map λ(n:Nat)=>(Hc n,h)else ad
 |.alloc z=>o (.ptr h.n 0 0,h.push [z])
 |.No t z=>o (.gc t h.n,h.push [z])
 |.kg ni x y=>(yc ni (arg V L x) (arg V L y)).map λv=>(v,h)
 |.box n x=>if(arg V L x).cells.all E.one/\(arg V L x).cells.length=n then o (.ptr h.n 0 0,h.push [(arg V L x).cells])else ad
 |.Np t n x=>if(arg V L x).cells.all E.one/\(arg V L x).cells.length=n then o (.gc t h.n,h.push [(arg V L x).cells])else ad
 |.lr a' e z n len parts=>(pG n (al len z) (parts.map λq=>(q.1,arg V L q.2))).map λes=>if a' then(.bn h.n 0 len e,h.push es)else(.b0 (o h.ids) e es,h.fresh len)
 |.H2 e z n len parts=>(pG n (al len z) (parts.map λq=>(q.1,arg V L q.2))).map λes=>(.b0 ad e es,h)
 |.load agg n x=>(cS agg n h (arg V L x)).map λv=>(v,h)
 |.store n a x=>(eQ n h (arg V L a) (arg V L x)).map λF=>(.az,F)
 |.H3 e z l c=>Nt e z (arg V L l) (arg V L c) h
 |.app a' e x y=>eU a' e (arg V L x) (arg V L y) h
 |.apps a' e x y=>Dy a' e (arg V L x) (arg V L y) h
 |.call _ _=>ad
 |.yz _=>ad
def z4(V L:List E)(a:Arg)(w:Bool):Option Bool:=match arg V L a with
 |.bool b=>o (if w then b else !b)
 |.bU _=>o T
 |_=>ad
def B8(V L:List E):Option (Arg×Bool)->Option Bool
 |none=>o O
 |some (a,w)=>z4 V L a w
def vL(V L:List E)(h:ag):List vK->Prop
 |[]=>True
 |q::r=>(match B8 V L q.guard with
    |some O=>cS q.agg q.n h (arg V L q.a)=o (arg V L q.d)
    |_=>True)/\vL V L h r
def h2(V L:List E):e0->Option (c'×List E)
 |.call f args=>match arg V L f with
   |.fn g first captured=>o (g,first++args.map (arg V L)++captured)
   |_=>ad
 |_=>ad
def yA(V L:List E):e0->Option E
 |.yz x=>match arg V L x with
   |.iface q v=>o (.iface q v)
   |_=>ad
 |_=>ad
def kJ(V:List E)(v:E):pc->List E
 |.v D=>V.set D v
 |_=>V
def ld(L:List E)(v:E):pc->List E
 |.l=>v::L
 |_=>L
def m2(id:Nat):List i'->Option (List i')
 |[]=>ad
 |.cm i::k=>if i=id then o k else m2 id k
 |.halt _::_=>ad
 |_::k=>m2 id k
open Classical in
noncomputable def bB(C:c'->List E->ag->Option ((E⊕E)×ag))(aL:Nat)(k:List i')(V L:List E)(h:ag):Option (kw×List E×ag):=
 match k with
 |[]=>o (.ret,V,h)
 |.bP []::k=>bB C aL k V L h
 |.bP (s::l)::k=>
   match s with
   |.ops bN=>bB C aL (.ops bN::.bP l::k) V [] h
   |.cond a x y=>match arg V [] a with
     |.bool b=>if b then bB C aL (.bP x::.bP l::k) V [] h else bB C aL (.bP y::.bP l::k) V [] h
     |_=>ad
   |.block id b=>bB C aL (.bP b::.cm id::.bP l::k) V L h
   |.loop b=>bB C aL (.e' b::.bP l::k) V L h
   |.exit id=>m2 id k>>= λdQ=>bB C aL dQ V L h
   |.ret=>o (.ret,V,h)
 |.cm _::k=>bB C aL k V L h
 |.halt K::_=>o (.halt K,V,h)
 |.e' b::k=>bB C aL (.bP b::.e' b::k) (cb aL V) L h
 |.ops []::k=>bB C aL k V [] h
 |.ops (.bZ l::bN)::k=>if vL V L h l then bB C aL (.ops bN::k) V L h else ad
 |.ops (.i d I::bN)::k=>
  match yA V L I with
  |some v=>o (.panic v,V,h)
  |none=>
   match h2 V L I with
   |some (g,args)=>C g args h>>= λr=>match r.1 with
     |.inl v=>bB C aL (.ops bN::k) (kJ V v d) (ld L v d) r.2
     |.inr v=>o (.panic v,V,r.2)
   |none=>hJ V L h I>>= λr=>bB C aL (.ops bN::k) (kJ V r.1 d) (ld L r.1 d) r.2
 |.ops (.g a w d I::bN)::k=>
   match z4 V L a w with
   |none=>ad
   |some T=>bB C aL (.ops bN::k) (kJ V (.bU []) d) (ld L (.bU []) d) h
   |some O=>
    match yA V L I with
    |some v=>o (.panic v,V,h)
    |none=>
     match h2 V L I with
     |some (g,args)=>C g args h>>= λr=>match r.1 with
       |.inl v=>bB C aL (.ops bN::k) (kJ V v d) (ld L v d) r.2
       |.inr v=>o (.panic v,V,r.2)
     |none=>hJ V L h I>>= λr=>bB C aL (.ops bN::k) (kJ V r.1 d) (ld L r.1 d) r.2
partial_fixpoint
section
variable(P:cT)
def tg(l:List Nat)(i:Nat):Option Nat:=go l 0
where go:List Nat->Nat->Option Nat
 |[],_=>ad
 |x::l,n=>if x=i then o n else go l (n+1)
def pd(bb lm:List Nat):gy->Option Arg
 |.tmp i=>match tg lm i with
   |some k=>o (.l k)
   |none=>(tg bb i).map .v
 |.const v=>o (.c (zG v))
 |.func f=>o (.c (.fn f [] []))
 |.global _=>ad
def z5(bb lm:List Nat):List gy->Option (List Arg)
 |[]=>o []
 |x::l=>(pd bb lm x).bind λa=>(z5 bb lm l).map (a::·)
def H6(a b:Bool)(e:a6)(z:List E)(n len:Nat)(hj:List (Nat×Arg)):e0:=if a then .lr O e z n len hj else if b then .H2 e z n len hj else .lr T e z n len hj
def B9(bb lm:List Nat):List (Nat×gy)->Option (List (Nat×Arg))
 |[]=>o []
 |x::l=>(pd bb lm x.2).bind λa=>(B9 bb lm l).map ((x.1,a)::·)
def Ea(bb lm:List Nat):Option gy->Option (Option Arg)
 |none=>o ad
 |some x=>(pd bb lm x).map o
def z6:jP->Bool
 |.iface|.agg|.other=>T
 |_=>O
def H7:gy->Bool
 |.const _=>O
 |_=>T
def xg(a':a6->Bool)(bb lm:List Nat)(I:bh):Option e0:=
 let A:=pd bb lm
 match I.op with
 |.move x=>(A x).map .a4
 |.assign x=>(A x).map .a4
 |.pick c x y=>(A c).bind λc=>(A x).bind λx=>(A y).map λy=>.pick c x y
 |.build ty parts=>(kG P ty).bind λz=>(B9 bb lm parts.toList).bind λhj=>match sX P ty with
   |some pl=>if pl.all (λq=>dl P q.2 != 0)then o (.build z (pl.map λq=>(q.1,dl P q.2)) hj)else ad
   |none=>(q9 P ty).bind λq=>if dl P q.2=0 then ad else o (.build z ((i7 q.1).map λi=>(i*dl P q.2,dl P q.2)) hj)
 |.nilCheck x=>(A x).map .j2
 |.binOp op ty x y _=>(A x).bind λkc=>(A y).map λsa=>if z6 (hW P ty)then .bin (hW P ty) op kc sa else .yy (hW P ty) (vw P ty) (H7 y) op kc sa
 |.unOp op _ x=>(A x).map (.un op)
 |.convert src dst x=>if(P.underlying src).isNone then ad else(A x).map (.conv (hW P dst))
 |.makeInterface ty x=>if wM P ty=T then ad else(A x).map (.D6 ty)
 |.makeFunc f first captured=>match f with
   |.func g=>(z5 bb lm first.toList).bind λa=>(z5 bb lm captured.toList).map λc=>.H0 g a c
   |_=>ad
 |.slice ty x ih af ni=>if ni.isSome then ad else(A x).bind λx=>(Ea bb lm ih).bind λih=>(Ea bb lm af).map λaf=>.B6 (oY P ty) (kb P ty) x ih af
 |.fieldAddr s x f=>((sX P s).bind (·[f]?)).bind λq=>if dl P q.2=0 then ad else(A x).map (.c0 q.1)
 |.field s x f=>((sX P s).bind (·[f]?)).bind λq=>if dl P q.2=0\/(P.underlying q.2).isNone then ad else(A x).map (.D7 (kv P q.2) (dl P q.2) q.1)
 |.indexAddr ty x bV=>(A x).bind λx=>(A bV).map λk=>.fG (kb P ty) ((q9 P ty).map λq=>(q.1,dl P q.2)) x k
 |.index ty x bV=>(A x).bind λx=>(A bV).map λk=>.bV (oY P ty) ((q9 P ty).bind λq=>if(P.underlying q.2).isSome then o (q.1,dl P q.2,kv P q.2)else ad) x k
 |.typeAssert x _ aS ok=>if wM P aS=O then(A x).map (.D8 aS ok)else ad
 |.extract x i=>(A x).map λx=>.ext x i
 |.call {callee:=.builtin .len,args,argTypes}=>match args.toList,argTypes.toList with
   |[x],ty::_=>(A x).map (.len (oY P ty) (kb P ty))
   |_,_=>ad
 |.alloc e=>(kG P e).map λz=>if a' e then .No e z else .alloc z
 |.box e x=>(A x).map λx=>if a' e then .Np e (dl P e) x else .box (dl P e) x
 |.buildSlice ty len parts=>(kb P ty).bind λe=>(kG P e).bind λz=>if len*dl P e<=16777216 then(B9 bb lm parts.toList).map (H6 (a' ty) (a' (ty+1000000)) e z (dl P e) len)else ad
 |.load ty a=>if(P.underlying ty).isNone then ad else(A a).map (.load (kv P ty) (dl P ty))
 |.store ty a x=>if dl P ty=0 then ad else(A a).bind λa=>(A x).map (.store (dl P ty) a)
 |.makeSlice ty l c=>(kb P ty).bind λe=>(kG P e).bind λz=>(A l).bind λl=>(A c).map λc=>.H3 e z l c
 |.call {callee:=.builtin .append,args,argTypes}=>match args.toList,argTypes.toList with
   |[x,y],[ty,uj]=>if ty=uj then(kb P ty).bind λe=>if(kG P e).isSome then(A x).bind λx=>(A y).map λy=>.app (a' ty) e x y else ad else if oY P uj then(kb P ty).bind λe=>if Dx P e then(A x).bind λx=>(A y).map λy=>.apps (a' ty) e x y else ad else ad
   |_,_=>ad
 |.call {callee:=.value f,args,..}=>(A f).bind λf=>(z5 bb lm args.toList).map (.call f)
 |.panic x=>(A x).map .yz
 |.call {callee:=.builtin .min,args,..}=>match args.toList with
   |[x,y]=>(A x).bind λx=>(A y).map (.kg T x)
   |_=>ad
 |.call {callee:=.builtin .max,args,..}=>match args.toList with
   |[x,y]=>(A x).bind λx=>(A y).map (.kg O x)
   |_=>ad
 |_=>ad
def B'(bb lm:List Nat)(all:Array bh)(I:bh):Option (Option (Arg×Bool)):=
 match I.guard with
 |none=>o ad
 |some (D,want)=>((all[D]?).bind (·.dst)).bind λd=>(pd bb lm (.tmp d)).map λa=>o (a,want)
def UF(bb lm:List Nat)(all:Array bh)(I:bh):Option vK:=
 match I.op,I.dst with
 |.load ty a,o d=>(B' bb lm all I).bind λg=>(pd bb lm a).bind λa=>(pd bb lm (.tmp d)).map λd=>⟨g,kv P ty,dl P ty,a,d⟩
 |.store ty a x,ad=>(B' bb lm all I).bind λg=>(pd bb lm a).bind λa=>(pd bb lm x).map λd=>⟨g,kv P ty,dl P ty,a,d⟩
 |_,_=>ad
def yB(bb lm:List Nat)(all:Array bh):List bh->Option (List vK)
 |[]=>o []
 |I::l=>(UF P bb lm all I).bind λq=>(yB bb lm all l).map (q::·)
def z7(n:Nat)(bb lm:List Nat):Option Tmp->Option (pc×List Nat)
 |none=>o (.n,lm)
 |some d=>if n<=d\/(tg lm d).isSome then ad else match tg bb d with
   |some D=>o (.v D,lm)
   |none=>o (.l,d::lm)
def UG(g:Option (Arg×Bool))(d:pc)(r:e0):ay:=match g with
 |none=>.i d r
 |some (a,w)=>.g a w d r
def H8(c:List vK)(bN:List ay):List ay:=match c with
 |[]=>bN
 |q::c=>.bZ (q::c)::bN
def nx(a':a6->Bool)(n:Nat)(bb:List Nat)(all:Array bh):List Nat->List (bh×List bh)->Option (List ay)
 |_,[]=>o []
 |lm,(I,bZ)::l=>(xg P a' bb lm I).bind λr=>(B' bb lm all I).bind λg=>(z7 n bb lm I.dst).bind λd=>(yB P bb d.2 all bZ).bind λc=>(nx a' n bb all d.2 l).map λbN=>UG g d.1 r::H8 c bN
def g5(a':a6->Bool)(cz:Nat->List (Nat×List Nat))(n:Nat)(bb:List Nat):fK->List be->Option (List be)
 |.skip,r=>o r
 |.label _,r=>o r
 |.seq a b,r=>(g5 a' cz n bb b r).bind λr=>g5 a' cz n bb a r
 |.cond c x y,r=>(pd bb [] c).bind λc=>(g5 a' cz n bb x []).bind λx=>(g5 a' cz n bb y []).map λy=>.cond c x y::r
 |.block id b,r=>(g5 a' cz n bb b []).map λb=>.block id b::r
 |.loop b,r=>(g5 a' cz n bb b []).map λb=>.loop b::r
 |.exit id,r=>o (.exit id::r)
 |.ret,r=>o (.ret::r)
 |.region id ops d,r=>(nx P a' n bb ops [] (jf d ops (cz id))).map λbN=>.ops bN::r
 |_,_=>ad
def pX(bb:List Nat):List ResultVar->Option (List n5)
 |[]=>o []
 |.tmp i::l=>(tg bb i).bind λD=>(pX bb l).map (.v D::·)
 |.cell i ty::l=>if(P.underlying ty).isNone then ad else(tg bb i).bind λD=>(pX bb l).map (.cell (kv P ty) (dl P ty) D::·)
end
def iF(V:List E)(h:ag):List n5->Option (List E)
 |[]=>o []
 |.v D::rs=>(iF V h rs).map λl=>V.getD D .az::l
 |.cell agg n D::rs=>(cS agg n h (V.getD D .az)).bind λv=>(iF V h rs).map λl=>v::l
structure g6(n:Nat)(bb lm:List Nat)(t V L:List E):Prop where
 len:t.length=n
 bF:V.length=bb.length
 vM:L.length=lm.length
 v:∀D s,bb[D]? =o s->s<n/\t.getD s .az=V.getD D .az
 l:∀D s,lm[D]? =o s->s<n/\t.getD s .az=L.getD D .az
section
variable{P:cT}{W:h8}{f:c'}{n:Nat}{bb lm:List Nat}{t V L:List E}{h:ag}{a':a6->Bool}
theorem UH{i:Nat}:∀(l:List Nat) (m k:Nat),tg.go i l m=o k->m<=k/\l[k - m]? =o i
 |[],m,k,he=>by simp[tg.go]at he
 |x::l,m,k,he=>by
   simp only[tg.go]at he;split at he
   ·rename_i aw;injection he with he;subst he;exact⟨b4 _,by simp[aw]⟩
   ·obtain⟨J,R⟩:=UH l (m+1) k he;refine⟨by omega,?_⟩;rw[show k - m=(k - (m+1))+1 by omega,pS];exact R
theorem Eb{l:List Nat}{i k:Nat}(he:tg l i=o k):l[k]? =o i:=by simpa using(UH l 0 k he).2
theorem Nu{i:Nat}:∀(l:List Nat) (m:Nat),tg.go i l m=ad->i ∉ l
 |[],m,_=>by simp
 |x::l,m,he=>by
   simp only[tg.go]at he;split at he
   ·cases he
   ·rename_i aw;have:=Nu l (m+1) he;simp only[n0,not_or];exact⟨λe=>aw e.symm,this⟩
theorem hr(r:g6 n bb lm t V L){x:gy}{a:Arg}(he:pd bb lm x=o a):bD t x=arg V L a:=by
 cases x with
 |tmp i=>
   simp only[pd]at he;split at he
   ·rename_i k Z;injection he with he;subst he;exact(r.l k i (Eb Z)).2
   ·obtain⟨D,aa,rfl⟩:=dN.1 he;exact(r.v D i (Eb aa)).2
 |const v=>simp only[pd,hZ]at he;subst he;rfl
 |func g=>simp only[pd,hZ]at he;subst he;rfl
 |global g=>simp[pd]at he
theorem H9(r:g6 n bb lm t V L):∀{xs:List gy} {aS:List Arg},z5 bb lm xs=o aS->xs.map (bD t)=aS.map (arg V L)
 |[],aS,he=>by simp[z5]at he;subst he;rfl
 |x::xs,aS,he=>by simp only[z5]at he;obtain⟨a,aX,he⟩:=dK.1 he;obtain⟨Nf,has,rfl⟩:=dN.1 he;simp[hr r aX,H9 r has]
theorem Nv(r:g6 n bb lm t V L):∀{xs:List (Nat×gy)} {aS:List (Nat×Arg)},B9 bb lm xs=o aS->(xs.map λq=>(q.1,bD t q.2))=aS.map λq=>(q.1,arg V L q.2)
 |[],aS,he=>by simp[B9]at he;subst he;rfl
 |x::xs,aS,he=>by simp only[B9]at he;obtain⟨a,aX,he⟩:=dK.1 he;obtain⟨Nf,has,rfl⟩:=dN.1 he;simp[hr r aX,Nv r has]
theorem UI(r:g6 n bb lm t V L){x:Option gy}{a:Option Arg}(he:Ea bb lm x=o a):x.map (bD t)=a.map (arg V L):=by
 cases x with
 |none=>simp[Ea]at he;subst he;rfl
 |some x=>simp only[Ea]at he;obtain⟨a,aX,rfl⟩:=dN.1 he;simp[hr r aX]
theorem UJ(P:cT)(ty:a6)(x:E):wN P ty x=j3 (oY P ty) (kb P ty) x:=by cases x<;>rfl
theorem ahr(P:cT)(ty:a6)(x k:E):qp P ty x k=dO (kb P ty) ((q9 P ty).map λq=>(q.1,dl P q.2)) x k:=by cases x<;>cases k<;>first|rfl|(simp only[qp,dO];cases q9 P ty<;>rfl)
theorem ahs(P:cT)(ty:a6)(x k:E):wQ P ty x k=D9 (oY P ty) ((q9 P ty).bind λq=>if(P.underlying q.2).isSome then o (q.1,dl P q.2,kv P q.2)else ad) x k:=by
 cases x<;>cases k<;>first|rfl|skip
 simp only[wQ,D9];cases q9 P ty with
 |none=>rfl
 |some q=>cases bQ:(P.underlying q.2).isSome<;>simp[bQ]
theorem aht(eI:jP)(op:BinOp):en eI op .ig .ig=ad:=by unfold en;simp only;split<;>(cases eI<;>rfl)
theorem ahu(eI:jP)(op:BinOp)(xs er:List E):en eI op (.agg xs) (.agg er)=ad:=by unfold en;simp only;split<;>(cases eI<;>rfl)
theorem ahv(r:g6 n bb lm t V L){I:bh}{mC:e0}(he:xg P a' bb lm I=o mC):fF P a' t h I=hJ V L h mC/\fP t I=h2 V L mC:=by
 unfold xg at he;simp only at he;split at he
 case h_1 x aF=>
  obtain⟨a,aX,rfl⟩:=dN.1 he;exact⟨by simp[fF,jY,aF,hJ,hr r aX],by simp[fP,h2,aF]⟩
 case h_2 x aF=>
  obtain⟨a,aX,rfl⟩:=dN.1 he;exact⟨by simp[fF,jY,aF,hJ,hr r aX],by simp[fP,h2,aF]⟩
 case h_3 c x y aF=>
  obtain⟨ej,an,he⟩:=dK.1 he;obtain⟨kc,aw,he⟩:=dK.1 he;obtain⟨sa,bE,rfl⟩:=dN.1 he;refine⟨?_,by simp[fP,h2,aF]⟩;simp only[fF,jY,aF,hJ,hr r an,hr r aw,hr r bE];rfl
 case h_4 ty parts aF=>
  obtain⟨z,aN,he⟩:=dK.1 he;obtain⟨hj,yC,he⟩:=dK.1 he;have aH:=Nv r yC;split at he
  ·rename_i pl jZ;split at he
   ·rename_i ns;injection he with he;subst he;exact⟨by simp only[fF,jY,aF,hJ,aN,jZ,c2,ns,if_true,aH,Option.map_map];rfl,by simp[fP,h2,aF]⟩
   ·cases he
  ·rename_i jZ;obtain⟨q,aW,he⟩:=dK.1 he;split at he
   ·cases he
   ·rename_i DO;injection he with he;subst he;exact⟨by simp only[fF,jY,aF,hJ,aN,jZ,aW,c2,DO,if_false,aH,Option.map_map];rfl,by simp[fP,h2,aF]⟩
 case h_5 x aF=>
  obtain⟨a,aX,rfl⟩:=dN.1 he;exact⟨by simp only[fF,jY,aF,hJ,hr r aX];rfl,by simp[fP,h2,aF]⟩
 case h_6 op ty x y s5 aF=>
  obtain⟨kc,aw,he⟩:=dK.1 he;obtain⟨sa,bE,rfl⟩:=dN.1 he;refine⟨?_,by split<;>simp[fP,h2,aF]⟩;have au:hJ V L h (if z6 (hW P ty)then .bin (hW P ty) op kc sa else .yy (hW P ty) (vw P ty) (H7 y) op kc sa)=(if z6 (hW P ty)then en (hW P ty) op (arg V L kc) (arg V L sa)else oG (hW P ty) (vw P ty) (H7 y) op (arg V L kc) (arg V L sa)).map λv=>(v,h):=by split<;>rfl
  rw[au];have Nw:z6 (hW P ty)=O->vw P ty=ad:=by
   intro Z;unfold vw;split
   ·rename_i dD vA;simp[hW,vA,z6]at Z
   ·rfl
  have ax:jY P t I=if z6 (hW P ty)then en (hW P ty) op (arg V L kc) (arg V L sa)else oG (hW P ty) (vw P ty) (H7 y) op (arg V L kc) (arg V L sa):=by
   simp only[jY,aF,hr r aw,hr r bE];generalize arg V L kc=X;generalize arg V L sa=Y;generalize hW P ty=eI at*;generalize vw P ty=aT at*;cases aC:z6 eI
   ·simp only[l9,if_false];cases X<;>first|rfl|skip
    ·cases Y<;>first|rfl|(cases eI<;>cases y<;>cases op<;>rfl)
    ·cases Y<;>rfl
   ·simp only[if_true];have aj:=Nw aC;subst aj;cases X<;>first|rfl|skip
    ·cases Y<;>first|rfl|skip
     rw[aht];cases eI<;>first|rfl|cases aC
    ·cases Y<;>first|rfl|skip
     rw[ahu];rfl
  simp only[fF,aF];rw[ax]
 case h_7 op ty x aF=>
  obtain⟨a,aX,rfl⟩:=dN.1 he;exact⟨by simp only[fF,jY,aF,hJ,hr r aX],by simp[fP,h2,aF]⟩
 case h_8 src dst x aF=>
  split at he
  ·cases he
  ·rename_i aE;obtain⟨a,aX,rfl⟩:=dN.1 he;exact⟨by simp only[fF,jY,aF,hJ,hr r aX,aE];rfl,by simp[fP,h2,aF]⟩
 case h_9 ty x aF=>
  split at he
  ·cases he
  ·rename_i aE;obtain⟨a,aX,rfl⟩:=dN.1 he;exact⟨by simp only[fF,jY,aF,hJ,hr r aX,aE];rfl,by simp[fP,h2,aF]⟩
 case h_10 g first captured aF=>
  split at he
  ·obtain⟨a,aX,he⟩:=dK.1 he;obtain⟨c,an,rfl⟩:=dN.1 he;exact⟨by simp[fF,jY,aF,hJ,H9 r aX,H9 r an],by simp[fP,h2,aF]⟩
  ·cases he
 case h_11 ty x ih af ni aF=>
  split at he
  ·cases he
  ·rename_i kd;obtain⟨a,aX,he⟩:=dK.1 he;obtain⟨axb,Hx,he⟩:=dK.1 he;obtain⟨eR,Hw,rfl⟩:=dN.1 he;refine⟨?_,by simp[fP,h2,aF]⟩;simp only[fF,jY,aF,hJ,hr r aX,UI r Hx,UI r Hw,UJ];cases bl:j3 (oY P ty) (kb P ty) (arg V L a)<;>simp[kd]
 case h_12 s x Ec aF=>
  obtain⟨q,aW,he⟩:=dK.1 he;split at he
  ·cases he
  ·rename_i aE;obtain⟨a,aX,rfl⟩:=dN.1 he;exact⟨by simp only[fF,jY,aF,hJ,hr r aX,aW,c2,aE,if_false],by simp[fP,h2,aF]⟩
 case h_13 s x Ec aF=>
  obtain⟨q,aW,he⟩:=dK.1 he;split at he
  ·cases he
  ·rename_i aE;obtain⟨a,aX,rfl⟩:=dN.1 he;exact⟨by simp only[fF,jY,aF,hJ,hr r aX,aW,c2,aE,if_false];rfl,by simp[fP,h2,aF]⟩
 case h_14 ty x bV aF=>
  obtain⟨a,aX,he⟩:=dK.1 he;obtain⟨k,Z,rfl⟩:=dN.1 he;exact⟨by simp only[fF,jY,aF,hJ,hr r aX,hr r Z,ahr],by simp[fP,h2,aF]⟩
 case h_15 ty x bV aF=>
  obtain⟨a,aX,he⟩:=dK.1 he;obtain⟨k,Z,rfl⟩:=dN.1 he;exact⟨by simp only[fF,jY,aF,hJ,hr r aX,hr r Z,ahs],by simp[fP,h2,aF]⟩
 case h_16 x DH aS ok aF=>
  split at he
  ·rename_i aH;obtain⟨a,aX,rfl⟩:=dN.1 he;refine⟨?_,by simp[fP,h2,aF]⟩;simp only[fF,jY,aF,hJ,hr r aX,aH,true_and];rfl
  ·cases he
 case h_17 x i aF=>
  obtain⟨a,aX,rfl⟩:=dN.1 he;exact⟨by simp only[fF,jY,aF,hJ,hr r aX];rfl,by simp[fP,h2,aF]⟩
 case h_18 args argTypes aF=>
  split at he
  ·rename_i x ty qy au ax;obtain⟨a,aX,rfl⟩:=dN.1 he;refine⟨?_,by simp[fP,h2,aF]⟩;simp only[fF,jY,aF,hJ,au,ax,hr r aX,UJ];split<;>simp[Option.map_map,Function.comp_def]
  ·cases he
 case h_19 e aF=>
  obtain⟨z,aN,rfl⟩:=dN.1 he;refine⟨?_,?_⟩
  ·simp only[fF,aF,aN,hF];split<;>rfl
  ·split<;>simp[fP,h2,aF]
 case h_20 e x aF=>
  obtain⟨a,aX,rfl⟩:=dN.1 he;refine⟨?_,?_⟩
  ·simp only[fF,aF,hr r aX];split<;>split<;>simp_all [hJ]
  ·split<;>simp[fP,h2,aF]
 case h_21 ty len parts aF=>
  obtain⟨e,hA,he⟩:=dK.1 he;obtain⟨z,aN,he⟩:=dK.1 he;split at he
  ·rename_i an;obtain⟨hj,yC,rfl⟩:=dN.1 he;refine⟨?_,?_⟩
   ·simp only[fF,aF,hA,aN,c2,if_pos an,Nv r yC];unfold H6;cases a' ty
    ·cases a' (ty+1000000)
     ·simp only[l9,if_false,hJ]
     ·simp only[l9,if_false,if_true,hJ]
    ·simp only[if_true,hJ]
   ·unfold H6;split
    ·simp[fP,h2,aF]
    ·split<;>simp[fP,h2,aF]
  ·cases he
 case h_22 ty a aF=>
  split at he
  ·cases he
  ·rename_i aE;obtain⟨a,aX,rfl⟩:=dN.1 he;exact⟨by simp only[fF,aF,hJ,hr r aX,aE];rfl,by simp[fP,h2,aF]⟩
 case h_23 ty a x aF=>
  split at he
  ·cases he
  ·rename_i aE;obtain⟨a,aX,he⟩:=dK.1 he;obtain⟨x,aw,rfl⟩:=dN.1 he;exact⟨by simp only[fF,aF,hJ,hr r aX,hr r aw,aE,if_false],by simp[fP,h2,aF]⟩
 case h_24 ty l c aF=>
  obtain⟨e,hA,he⟩:=dK.1 he;obtain⟨z,aN,he⟩:=dK.1 he;obtain⟨a,aX,he⟩:=dK.1 he;obtain⟨k,Z,rfl⟩:=dN.1 he;exact⟨by simp only[fF,aF,hJ,hr r aX,hr r Z,hA,aN,c2];rfl,by simp[fP,h2,aF]⟩
 case h_25 args argTypes aF=>
  split at he
  ·rename_i x y ty uj au ax;split at he
   ·rename_i a3;obtain⟨e,hA,he⟩:=dK.1 he;split at he
    ·rename_i aN;obtain⟨a,aX,he⟩:=dK.1 he;obtain⟨k,Z,rfl⟩:=dN.1 he;exact⟨by simp only[fF,aF,hJ,au,ax,hr r aX,hr r Z,if_pos a3,hA,c2,if_pos aN],by simp[fP,h2,aF]⟩
    ·cases he
   ·rename_i a3;split at he
    ·rename_i bS;obtain⟨e,hA,he⟩:=dK.1 he;split at he
     ·rename_i hh;obtain⟨a,aX,he⟩:=dK.1 he;obtain⟨k,Z,rfl⟩:=dN.1 he;exact⟨by simp only[fF,aF,hJ,au,ax,hr r aX,hr r Z,if_neg a3,if_pos bS,hA,c2,if_pos hh],by simp[fP,h2,aF]⟩
     ·cases he
    ·cases he
  ·cases he
 case h_26 BU args T5 aF=>
  obtain⟨a,aX,he⟩:=dK.1 he;obtain⟨aS,has,rfl⟩:=dN.1 he;refine⟨by simp[fF,jY,aF,hJ],?_⟩;simp only[fP,h2,aF,hr r aX,H9 r has];rfl
 case h_27 x aF=>
  obtain⟨a,aX,rfl⟩:=dN.1 he;exact⟨by simp[fF,jY,aF,hJ],by simp[fP,h2,aF]⟩
 case h_28 args _ aF=>
  split at he
  ·rename_i x y au;obtain⟨a,aX,he⟩:=dK.1 he;obtain⟨k,Z,rfl⟩:=dN.1 he;exact⟨by simp only[fF,jY,aF,au,hJ,hr r aX,hr r Z],by simp[fP,h2,aF]⟩
  ·cases he
 case h_29 args _ aF=>
  split at he
  ·rename_i x y au;obtain⟨a,aX,he⟩:=dK.1 he;obtain⟨k,Z,rfl⟩:=dN.1 he;exact⟨by simp only[fF,jY,aF,au,hJ,hr r aX,hr r Z],by simp[fP,h2,aF]⟩
  ·cases he
 case h_30=>cases he
theorem ahw{I:bh}{x:Arg}(he:xg P a' bb lm I=o (.yz x)):∃y,I.op= .panic y/\pd bb lm y=o x:=by
 unfold xg at he;simp only at he;split at he
 case h_27 y aF=>
  obtain⟨a,aX,e⟩:=dN.1 he;injection e with e;subst e;exact⟨y,aF,aX⟩
 case h_21 ty len parts aF=>
  obtain⟨e,hA,he⟩:=dK.1 he;obtain⟨z,aN,he⟩:=dK.1 he;split at he
  ·obtain⟨hj,yC,he⟩:=dN.1 he;unfold H6 at he;split at he
   ·cases he
   ·split at he<;>cases he
  ·cases he
 all_goals
  exfalso
  try (cases he;done)
  try simp only[dN,dK,reduceCtorEq,and_false,exists_false]at he
 case h_4=>
  obtain⟨_,_,_,_,he⟩:=he;split at he
  ·split at he<;>cases he
  ·obtain⟨_,_,he⟩:=dK.1 he;split at he<;>cases he
 all_goals repeat' (first
   |(cases he;done)
   |split at he
   |(obtain⟨_,_,he⟩:=he)
   |(simp only[dN,dK,reduceCtorEq,and_false,exists_false]at he))
theorem ahx(r:g6 n bb lm t V L){I:bh}{mC:e0}(he:xg P a' bb lm I=o mC):nj t I=yA V L mC:=by
 cases mC with
 |yz x=>obtain⟨y,J,R⟩:=ahw he;simp only[nj,J,yA,hr r R];rfl
 |_=>
   have:nj t I=ad:=by
    unfold nj;split
    ·rename_i x aF;unfold xg at he;rw[aF]at he;simp only at he;obtain⟨a,aX,e⟩:=dN.1 he;cases e
    ·rfl
   rw[this];rfl
end
section
variable{P:cT}{W:h8}{f:c'}{n:Nat}{bb lm:List Nat}{t V L:List E}{h:ag}{a':a6->Bool}{cz:Nat->List (Nat×List Nat)}
theorem ahy{l:List Nat}(h:l.Nodup){i D s:Nat}(af:l[i]? =o s)(aa:l[D]? =o s):i=D:=by
 obtain⟨aR,a5⟩:=fQ.1 af;obtain⟨cg,dw⟩:=fQ.1 aa;have:=List.pairwise_iff_getElem.1 h;rcases Nat.lt_trichotomy i D with h|h|h
 ·exact absurd (a5.trans dw.symm) (this i D aR cg h)
 ·exact h
 ·exact absurd (dw.trans a5.symm) (this D i cg aR h)
theorem ahz(r:g6 n bb lm t V L)(th:bb.Nodup){dst:Option Tmp}{d:pc×List Nat}(he:z7 n bb lm dst=o d)(v:E):g6 n bb d.2 (fj t dst v) (kJ V v d.1) (ld L v d.1):=by
 cases dst with
 |none=>simp only[z7,hZ]at he;subst he;exact r
 |some s=>
   simp only[z7]at he;split at he
   ·cases he
   ·rename_i an;simp only[not_or,Nat.not_le,Option.isSome_iff_ne_none,ne_eq,Classical.not_not]at an;obtain⟨aP,bu⟩:=an;have zU:=Nu lm 0 bu;split at he
    ·rename_i D aa;injection he with he;subst he;have dv:=Eb aa;refine⟨by simp[fj,r.len],by simp[kJ,r.bF],r.vM,λi q aW=>?_,λi q aW=>?_⟩
     ·obtain⟨J,R⟩:=r.v i q aW;refine⟨J,?_⟩;by_cases ho:i=D
      ·subst ho;rw[dv]at aW;injection aW with aW;subst aW;have bf:i<V.length:=by rw[r.bF];exact(fQ.1 dv).1
       rw[wr rfl (by rw[r.len];exact J)];simp[kJ,dz,bf]
      ·have di:s≠q:=by intro e;subst e;exact ho (ahy th aW dv)
       rw[BW (by simpa using di),R];simp[kJ,dz,List.getElem?_set_ne (lP ho)]
     ·obtain⟨J,R⟩:=r.l i q aW;refine⟨J,?_⟩;have di:s≠q:=λe=>zU (by rw[e];exact tc aW);rw[BW (by simpa using di),R];rfl
    ·rename_i aa;injection he with he;subst he;have Ed:=Nu bb 0 aa;refine⟨by simp[fj,r.len],r.bF,by simp[ld,r.vM],λi q aW=>?_,λi q aW=>?_⟩
     ·obtain⟨J,R⟩:=r.v i q aW;have di:s≠q:=λe=>Ed (by rw[e];exact tc aW);exact⟨J,by rw[BW (by simpa using di),R];rfl⟩
     ·cases i with
      |zero=>simp only[mY,hZ]at aW;subst aW;exact⟨aP,by rw[wr rfl (by rw[r.len];exact aP)];rfl⟩
      |succ i=>simp only[pS]at aW;obtain⟨J,R⟩:=r.l i q aW;have di:s≠q:=λe=>zU (by rw[e];exact tc aW);exact⟨J,by rw[BW (by simpa using di),R];rfl⟩
theorem H'(r:g6 n bb lm t V L){all:Array bh}{I:bh}{g:Option (Arg×Bool)}(he:B' bb lm all I=o g):bv all t I=B8 V L g:=by
 unfold B' at he;split at he
 ·rename_i a8;injection he with he;subst he;simp[bv,a8,B8]
 ·rename_i D want a8;obtain⟨d,a7,he⟩:=dK.1 he;obtain⟨a,aX,rfl⟩:=dN.1 he;have:=hr r aX;simp only[bD]at this;simp only[bv,a8,a7,this,B8,z4];rfl
theorem Nx(r:g6 n bb lm t V L){all:Array bh}:∀{l:List bh} {c:List vK},yB P bb lm all l=o c->vL V L h c->pI P all t h l
 |[],c,_,_=>trivial
 |I::l,c,he,an=>by
   simp only[yB]at he;obtain⟨q,aW,he⟩:=dK.1 he;obtain⟨ej,ki,rfl⟩:=dN.1 he;obtain⟨J,R⟩:=an;refine⟨?_,Nx r ki R⟩;unfold UF at aW;split at aW
   ·rename_i ty a d aF a7;obtain⟨g,a8,aW⟩:=dK.1 aW;obtain⟨eP,aX,aW⟩:=dK.1 aW;obtain⟨n1,nW,rfl⟩:=dN.1 aW;rw[H' r a8];have au:=hr r aX;have ax:=hr r nW;simp only[bD]at ax;simp only at J;split at J
    ·rename_i hw;rw[hw];simp only[aF,a7,au,ax];exact J
    ·rename_i hw;split
     ·rename_i k0;exact absurd k0 hw
     ·trivial
   ·rename_i ty a x aF a7;obtain⟨g,a8,aW⟩:=dK.1 aW;obtain⟨eP,aX,aW⟩:=dK.1 aW;obtain⟨n1,nW,rfl⟩:=dN.1 aW;rw[H' r a8];have au:=hr r aX;have ax:=hr r nW;simp only at J;split at J
    ·rename_i hw;rw[hw];simp only[aF,a7,au,ax];exact J
    ·rename_i hw;split
     ·rename_i k0;exact absurd k0 hw
     ·trivial
   ·cases aW
def mD(P:cT)(a':a6->Bool)(cz:Nat->List (Nat×List Nat))(n:Nat)(bb:List Nat):List fK->List be->Option (List be)
 |[],r=>o r
 |c::cs,r=>(mD P a' cz n bb cs r).bind λr=>g5 P a' cz n bb c r
inductive yD(P:cT)(a':a6->Bool)(cz:Nat->List (Nat×List Nat))(n:Nat)(bb:List Nat):fK->be->Prop
 |cond (c:gy) (x y:fK) (a:Arg) (xs er:List be):pd bb [] c=o a->g5 P a' cz n bb x []=o xs->g5 P a' cz n bb y []=o er->yD P a' cz n bb (.cond c x y) (.cond a xs er)
 |block (id:Nat) (b:fK) (uC:List be):g5 P a' cz n bb b []=o uC->yD P a' cz n bb (.block id b) (.block id uC)
 |loop (b:fK) (uC:List be):g5 P a' cz n bb b []=o uC->yD P a' cz n bb (.loop b) (.loop uC)
 |exit (id:Nat):yD P a' cz n bb (.exit id) (.exit id)
 |ret:yD P a' cz n bb .ret .ret
 |region (id:Nat) (all:Array bh) (d:Bool) (bN:List ay):nx P a' n bb all [] (jf d all (cz id))=o bN->yD P a' cz n bb (.region id all d) (.ops bN)
theorem UK(cs iJ:List fK)(r:List be):mD P a' cz n bb (cs++iJ) r=(mD P a' cz n bb iJ r).bind λr=>mD P a' cz n bb cs r:=by
 induction cs with
 |nil=>simp only[lQ,mD];cases mD P a' cz n bb iJ r<;>rfl
 |cons c cs aZ=>simp only[m3,mD,aZ];cases mD P a' cz n bb iJ r<;>rfl
theorem ahA:∀(c:fK) (r l:List be),g5 P a' cz n bb c r=o l->(l=r/\∀k t h,dJ P W f (.code c::k) t h=dJ P W f k t h)\/(∃s b2 aP cs,l=s::b2/\mD P a' cz n bb cs r=o b2/\yD P a' cz n bb aP s/\∀k t h,dJ P W f (.code c::k) t h=dJ P W f (.code aP::(cs.map .code++k)) t h):=by
 intro c;induction c with
 |skip=>intro r l he;simp only[g5,hZ]at he;exact .inl ⟨he.symm,λk t h=>afc⟩
 |label i=>intro r l he;simp only[g5,hZ]at he;exact .inl ⟨he.symm,λk t h=>afd⟩
 |seq a b ahB ahC=>
   intro r l he;simp only[g5]at he;obtain⟨bH,J,R⟩:=dK.1 he;rcases ahB bH l R with⟨au,ax⟩|⟨s,b2,aP,cs,au,ax,bc,bY⟩
   ·subst au;rcases ahC r l J with⟨f1,f2⟩|⟨s,b2,aP,cs,f1,f2,f3,f4⟩
    ·exact .inl ⟨f1,λk t h=>by rw[Mn,ax,f2]⟩
    ·exact .inr ⟨s,b2,aP,cs,f1,f2,f3,λk t h=>by rw[Mn,ax,f4]⟩
   ·refine .inr ⟨s,b2,aP,cs++[b],au,?_,bc,λk t h=>?_⟩
    ·rw[UK];simp only[mD,c2,J,ax]
    ·rw[Mn,bY];simp
 |cond c x y _ _=>intro r l he;simp only[g5]at he;obtain⟨a,aX,he⟩:=dK.1 he;obtain⟨xs,aw,he⟩:=dK.1 he;obtain⟨er,bE,rfl⟩:=dN.1 he;exact .inr ⟨_,_,_,[],rfl,rfl,.cond _ _ _ _ _ _ aX aw bE,λk t h=>rfl⟩
 |block id b _=>intro r l he;simp only[g5]at he;obtain⟨uC,ab,rfl⟩:=dN.1 he;exact .inr ⟨_,_,_,[],rfl,rfl,.block _ _ _ ab,λk t h=>rfl⟩
 |loop b _=>intro r l he;simp only[g5]at he;obtain⟨uC,ab,rfl⟩:=dN.1 he;exact .inr ⟨_,_,_,[],rfl,rfl,.loop _ _ ab,λk t h=>rfl⟩
 |exit id=>intro r l he;simp only[g5,hZ]at he;subst he;exact .inr ⟨_,_,_,[],rfl,rfl,.exit _,λk t h=>rfl⟩
 |ret=>intro r l he;simp only[g5,hZ]at he;subst he;exact .inr ⟨_,_,_,[],rfl,rfl,.ret,λk t h=>rfl⟩
 |region id ops d=>intro r l he;simp only[g5]at he;obtain⟨bN,nw,rfl⟩:=dN.1 he;exact .inr ⟨_,_,_,[],rfl,rfl,.region _ _ _ _ nw,λk t h=>rfl⟩
 |_=>intro r l he;simp[g5]at he
theorem UL:∀(cs:List fK) (l:List be),mD P a' cz n bb cs []=o l->(l=[]/\∀k t h,dJ P W f (cs.map .code++k) t h=dJ P W f k t h)\/(∃s b2 aP g3,l=s::b2/\mD P a' cz n bb g3 []=o b2/\yD P a' cz n bb aP s/\∀k t h,dJ P W f (cs.map .code++k) t h=dJ P W f (.code aP::(g3.map .code++k)) t h):=by
 intro cs;induction cs with
 |nil=>intro l he;simp only[mD,hZ]at he;exact .inl ⟨he.symm,λk t h=>rfl⟩
 |cons c cs aZ=>
   intro l he;simp only[mD]at he;obtain⟨r,J,R⟩:=dK.1 he;rcases ahA (W:=W) (f:=f) c r l R with⟨au,ax⟩|⟨s,b2,aP,Ny,au,ax,bc,bY⟩
   ·subst au;rcases aZ l J with⟨f1,f2⟩|⟨s,b2,aP,g3,f1,f2,f3,f4⟩
    ·exact .inl ⟨f1,λk t h=>by simp only[kT,m3];rw[ax,f2]⟩
    ·exact .inr ⟨s,b2,aP,g3,f1,f2,f3,λk t h=>by simp only[kT,m3];rw[ax,f4]⟩
   ·refine .inr ⟨s,b2,aP,Ny++cs,au,?_,bc,λk t h=>?_⟩
    ·rw[UK,J];exact ax
    ·simp only[kT,m3];rw[bY];simp
inductive pe(P:cT)(a':a6->Bool)(cz:Nat->List (Nat×List Nat))(n:Nat)(bb:List Nat):List iU->List i'->Prop
 |nil:pe P a' cz n bb [] []
 |bP (cs:List fK) (l:List be) (k:List iU) (pf:List i'):mD P a' cz n bb cs []=o l->pe P a' cz n bb k pf->pe P a' cz n bb (cs.map .code++k) (.bP l::pf)
 |cm (id:Nat) (k:List iU) (pf:List i'):pe P a' cz n bb k pf->pe P a' cz n bb (.inBlock id::k) (.cm id::pf)
 |e' (c:fK) (b:List be) (k:List iU) (pf:List i'):g5 P a' cz n bb c []=o b->pe P a' cz n bb k pf->pe P a' cz n bb (.inLoop c::k) (.e' b::pf)
 |halt (K:List Item) (k:List iU) (pf:List i'):pe P a' cz n bb (.halt K::k) (.halt K::pf)
theorem ahD{id:Nat}(cs:List fK)(k:List iU):ow id (cs.map .code++k)=ow id k:=by
 induction cs with
 |nil=>rfl
 |cons c cs aZ=>simp only[kT,m3,ow];exact aZ
theorem ahE{id:Nat}{k:List iU}{pf Ia:List i'}(Z:pe P a' cz n bb k pf)(he:m2 id pf=o Ia):∃dQ,ow id k=o dQ/\pe P a' cz n bb dQ Ia:=by
 induction Z with
 |nil=>simp[m2]at he
 |bP cs l k pf J R aZ=>simp only[m2]at he;obtain⟨dQ,au,ax⟩:=aZ he;exact⟨dQ,by rw[ahD];exact au,ax⟩
 |cm i k pf J aZ=>
   simp only[m2]at he;by_cases af:i=id
   ·rw[if_pos af]at he;injection he with he;subst he;exact⟨k,by simp[ow,af],J⟩
   ·rw[if_neg af]at he;obtain⟨dQ,au,ax⟩:=aZ he;exact⟨dQ,by simp[ow,af];exact au,ax⟩
 |e' c b k pf J R aZ=>simp only[m2]at he;obtain⟨dQ,au,ax⟩:=aZ he;exact⟨dQ,by simp only[ow];exact au,ax⟩
 |halt K k pf=>simp[m2]at he
def oH(P:cT)(W:h8)(f:c')(n:Nat)(bb:List Nat)(gj:List iU)(t:List E)(h:ag)(r:kw×List E×ag):Prop:=∃dF,dJ P W f gj t h=o (r.1,dF,r.2.2)/\g6 n bb [] dF r.2.1 []
def uD(P:cT)(W:h8)(f:c')(n:Nat)(bb:List Nat)(k:List i')(V L:List E)(h:ag)(r:kw×List E×ag):Prop:=(∀gj t,pe P (W.a' f) (W.cz f) n bb gj k->g6 n bb [] t V []->oH P W f n bb gj t h r)/\(∀d all l bN gj lm t dQ,k= .ops bN::dQ->nx P (W.a' f) n bb all lm l=o bN->pe P (W.a' f) (W.cz f) n bb gj dQ->g6 n bb lm t V L->oH P W f n bb (.ops d all l::gj) t h r)/\(∀d all l bN c bZ gj lm t dQ,k= .ops (.bZ c::bN)::dQ->yB P bb lm all bZ=o c->nx P (W.a' f) n bb all lm l=o bN->pe P (W.a' f) (W.cz f) n bb gj dQ->g6 n bb lm t V L->pI P all t h bZ/\oH P W f n bb (.ops d all l::gj) t h r)
theorem oH.eq{UM:List iU}{t dF:List E}{h F:ag}{r:kw×List E×ag}(he:dJ P W f gj t h=dJ P W f UM dF F)(Z:oH P W f n bb UM dF F r):oH P W f n bb gj t h r:=by obtain⟨t2,J,R⟩:=Z;exact⟨t2,he.trans J,R⟩
theorem uD.Ca{k:List i'}{V L:List E}{h:ag}{r:kw×List E×ag}(mX:∀bN dQ,k≠.ops bN::dQ)(Z:∀gj t,pe P (W.a' f) (W.cz f) n bb gj k->g6 n bb [] t V []->oH P W f n bb gj t h r):uD P W f n bb k V L h r:=⟨Z,λd all l bN gj lm t dQ he=>absurd he (mX _ _),λd all l bN c bZ gj lm t dQ he=>absurd he (mX _ _)⟩
theorem g6.drop{L:List E}{lm:List Nat}(r:g6 n bb lm t V L):g6 n bb [] t V []:=⟨r.len,r.bF,rfl,r.v,λD s aC=>by simp at aC⟩
theorem g6.clear{Ib Nz:Nat}(r:g6 n bb [] t V [])(J:∀D s,bb[D]? =o s->(D<Nz↔s<Ib)):g6 n bb [] (cb Ib t) (cb Nz V) []:=by
 refine⟨by rw[<-r.len,cb];simp;omega,by rw[<-r.bF,cb];simp;omega,rfl,λD s aC=>?_,λD s aC=>by simp at aC⟩;obtain⟨aR,a5⟩:=r.v D s aC;refine⟨aR,?_⟩;have aa:D<V.length:=by rw[r.bF];exact(fQ.1 aC).1
 have w7:s<t.length:=by rw[r.len];exact aR
 have get:∀(n:Nat) (x:List E) (i:Nat),i<x.length->(cb n x).getD i .az=if i<n then x.getD i .az else .az:=by
  intro n x i af;unfold cb;by_cases gL:i<n
  ·have:i<(x.take n).length:=by simp;omega
   rw[if_pos gL,dz,o4 this,List.getElem?_take];simp[gL,dz]
  ·rw[if_neg gL,dz,mx (by simp;omega)];simp only[List.getElem?_replicate];split<;>rfl
 rw[get _ _ _ w7,get _ _ _ aa];by_cases bf:D<Nz
 ·rw[if_pos bf,if_pos ((J D s aC).1 bf),a5]
 ·rw[if_neg bf,if_neg (λx=>bf ((J D s aC).2 x))]
end
noncomputable def lT(p:Bool)(rs:List n5)(aj:ag):Option (kw×List E×ag)->Option ((E⊕E)×ag)
 |some (.ret,V,h)=>zJ.gK p aj h ((iF V h rs).map iV)
 |some (.panic v,_,h)=>nl p aj (.inr v,h)
 |some (.halt _,_,_)=>ad
 |none=>ad
section
variable{P:cT}{W:h8}{f:c'}{n aL:Nat}{bb lm:List Nat}{t V L:List E}{h:ag}
theorem NA{d:pc}{bN:List ay}{dQ:List i'}{I:bh}{c:List vK}{bZ:List bh}{l:List (bh×List bh)}{all:Array bh}{oI:List Nat}{v:E}{F:ag}{r:kw×List E×ag}(th:bb.Nodup)(a7:z7 n bb lm I.dst=o (d,oI))(an:yB P bb oI all bZ=o c)(nw:nx P (W.a' f) n bb all oI l=o bN)(Z:pe P (W.a' f) (W.cz f) n bb gj dQ)(cx:g6 n bb lm t V L)(hm:uD P W f n bb (.ops (H8 c bN)::dQ) (kJ V v d) (ld L v d) F r):pI P all (fj t I.dst v) F bZ/\oH P W f n bb (.ops ds all l::gj) (fj t I.dst v) F r:=by
 have uE:=ahz cx th a7 v;cases c with
 |nil=>refine⟨Nx uE an trivial,hm.2.1 ds all l bN gj _ _ dQ rfl nw Z uE⟩
 |cons q c=>exact hm.2.2 ds all l bN (q::c) bZ gj _ _ dQ rfl an nw Z uE
theorem NB{a':a6->Bool}{all:Array bh}{lm:List Nat}{l:List (bh×List bh)}{x:ay}{bN:List ay}(he:nx P a' n bb all lm l=o (x::bN)):∃I bZ b2 mC g d oI c ti,l=(I,bZ)::b2/\xg P a' bb lm I=o mC/\B' bb lm all I=o g/\z7 n bb lm I.dst=o (d,oI)/\yB P bb oI all bZ=o c/\nx P a' n bb all oI b2=o ti/\x=UG g d mC/\bN=H8 c ti:=by
 cases l with
 |nil=>simp[nx]at he
 |cons q b2=>obtain⟨I,bZ⟩:=q;simp only[nx]at he;obtain⟨mC,J,he⟩:=dK.1 he;obtain⟨g,R,he⟩:=dK.1 he;obtain⟨⟨d,oI⟩,ah,he⟩:=dK.1 he;obtain⟨c,aD,he⟩:=dK.1 he;obtain⟨ti,bo,he⟩:=dN.1 he;simp only[xf]at he;exact⟨I,bZ,b2,mC,g,d,oI,c,ti,rfl,J,R,ah,aD,bo,he.1.symm,he.2.symm⟩
theorem ahF{all:Array bh}{I:bh}{bZ:List bh}{l:List (bh×List bh)}{v:E}{F:ag}(hw:bv all t I=o O)(aH:nj t I=ad)(an:fP t I=ad)(he:fF P (W.a' f) t h I=o (v,F))(pT:pI P all (fj t I.dst v) F bZ):dJ P W f (.ops ds all ((I,bZ)::l)::gj) t h=dJ P W f (.ops ds all l::gj) (fj t I.dst v) F:=by rw[DC,hw,Hi,aH,Mo,an,afl,he,afm,Tg pT]
theorem ahG{all:Array bh}{I:bh}{bZ:List bh}{l:List (bh×List bh)}{g:c'}{args:List E}{v:E}{F:ag}(hw:bv all t I=o O)(aH:nj t I=ad)(an:fP t I=o (g,args))(he:aQ P W g args h=o (.inl v,F))(pT:pI P all (fj t I.dst v) F bZ):dJ P W f (.ops ds all ((I,bZ)::l)::gj) t h=dJ P W f (.ops ds all l::gj) (fj t I.dst v) F:=by rw[DC,hw,Hi,aH,Mo,an,Tf,he,afn,Tg pT]
theorem ahH{all:Array bh}{I:bh}{bZ:List bh}{l:List (bh×List bh)}{g:c'}{args:List E}{v:E}{F:ag}(hw:bv all t I=o O)(aH:nj t I=ad)(an:fP t I=o (g,args))(he:aQ P W g args h=o (.inr v,F)):dJ P W f (.ops ds all ((I,bZ)::l)::gj) t h=o (.panic v,t,F):=by rw[DC,hw,Hi,aH,Mo,an,Tf,he,afo]
theorem ahI{all:Array bh}{I:bh}{bZ:List bh}{l:List (bh×List bh)}(hw:bv all t I=o T):dJ P W f (.ops ds all ((I,bZ)::l)::gj) t h=dJ P W f (.ops ds all l::gj) (fj t I.dst (.bU [])) h:=by rw[DC,hw,afk]
theorem Ic(th:bb.Nodup)(kV:∀D s,bb[D]? =o s->(D<aL↔s<W.aL f)):∀(k:List i') (V L:List E) (h:ag) (r:kw×List E×ag),bB (aQ P W) aL k V L h=o r->uD P W f n bb k V L h r:=by
 refine bB.partial_correctness (aQ P W) aL (uD P W f n bb) λrun aZ k V L h r ao=>?_;have wanted:∀{d:pc} {mC:e0} {bN:List ay} {dQ:List i'},(match yA V L mC with
   |some v=>o (.panic v,V,h)
   |none=>match h2 V L mC with
   |some (g,args)=>aQ P W g args h>>= λr=>match r.1 with
     |.inl v=>run (.ops bN::dQ) (kJ V v d) (ld L v d) r.2
     |.inr v=>o (.panic v,V,r.2)
   |none=>hJ V L h mC>>= λr=>run (.ops bN::dQ) (kJ V r.1 d) (ld L r.1 d) r.2)=o r->
   ∀{all I bZ l lm oI c ti gj t ds},xg P (W.a' f) bb lm I=o mC->z7 n bb lm I.dst=o (d,oI)->yB P bb oI all bZ=o c->nx P (W.a' f) n bb all oI l=o ti->bN=H8 c ti->
   pe P (W.a' f) (W.cz f) n bb gj dQ->g6 n bb lm t V L->bv all t I=o O->oH P W f n bb (.ops ds all ((I,bZ)::l)::gj) t h r:=by
  intro d mC bN dQ ao all I bZ l lm oI c ti gj t ds J R ah aD bo Z cx hw;obtain⟨au,ax⟩:=ahv (h:=h) cx J;have dV:=ahx cx J;split at ao
  ·rename_i v D4;injection ao with ao;subst ao;exact⟨t,by rw[DC,hw,Hi,dV,D4,afj],cx.drop⟩
  rename_i Ee;have dV:=dV.trans Ee;split at ao
  ·rename_i g args Ie;obtain⟨⟨x,F⟩,aw,ao⟩:=dK.1 ao;cases x with
   |inl v=>simp only at ao;subst bo;have hm:=aZ _ _ _ _ _ ao;obtain⟨cL,c3⟩:=NA (ds:=ds) th R ah aD Z cx hm;exact c3.eq (ahG hw dV (ax.trans Ie) aw cL)
   |inr v=>simp only at ao;injection ao with ao;subst ao;exact⟨t,ahH hw dV (ax.trans Ie) aw,cx.drop⟩
  ·rename_i Ie;obtain⟨⟨v,F⟩,aw,ao⟩:=dK.1 ao;simp only at ao;subst bo;have hm:=aZ _ _ _ _ _ ao;obtain⟨cL,c3⟩:=NA (ds:=ds) th R ah aD Z cx hm;exact c3.eq (ahF hw dV (ax.trans Ie) (au.trans aw) cL)
 split at ao
 ·injection ao with ao;subst ao;refine uD.Ca (by simp) λgj t Z cx=>?_;cases Z;exact⟨t,ae8,cx⟩
 ·rename_i k;refine uD.Ca (by simp) λgj t Z cx=>?_;cases Z with
  |bP cs _ hy _ js Z=>
    rcases UL (W:=W) (f:=f) cs [] js with⟨_,ax⟩|⟨s,b2,aP,g3,au,_⟩
    ·exact((aZ _ _ _ _ _ ao).1 _ _ Z cx.drop).eq (ax _ _ _)
    ·cases au
 ·rename_i s l k;refine uD.Ca (by simp) λgj t Z cx=>?_;cases Z with
  |bP cs _ hy _ js Z=>
    rcases UL (W:=W) (f:=f) cs (s::l) js with⟨au,_⟩|⟨ew,b2,aP,g3,au,ax,bc,bY⟩
    ·cases au
    ·injection au with au ahJ;subst au;subst ahJ;refine oH.eq (bY _ _ _) ?_;have vN:pe P (W.a' f) (W.cz f) n bb (g3.map .code++hy) (.bP l::k):=.bP g3 l hy k ax Z;cases bc with
     |region id all d bN NC=>exact((aZ _ _ _ _ _ ao).2.1 d all _ bN _ [] t _ rfl NC vN cx).eq afh
     |cond c x y a xs er aX aw bE=>
       simp only at ao;have w5:=hr cx aX;split at ao
       ·rename_i b ab;have UN:bD t c= .bool b:=w5.trans ab;cases b with
        |true=>simp only[if_true]at ao;refine oH.eq (by rw[Te,UN,afp]) ((aZ _ _ _ _ _ ao).1 (.code x::(g3.map .code++hy)) t ?_ cx);exact .bP [x] xs _ _ (by simp[mD,aw]) vN
        |false=>simp only[l9,if_false]at ao;refine oH.eq (by rw[Te,UN,afq]) ((aZ _ _ _ _ _ ao).1 (.code y::(g3.map .code++hy)) t ?_ cx);exact .bP [y] er _ _ (by simp[mD,bE]) vN
       ·cases ao
     |block id b uC ab=>refine oH.eq afe ((aZ _ _ _ _ _ ao).1 (.code b::.inBlock id::(g3.map .code++hy)) t ?_ cx);exact .bP [b] uC _ _ (by simp[mD,ab]) (.cm id _ _ vN)
     |loop b uC ab=>exact oH.eq aff ((aZ _ _ _ _ _ ao).1 (.inLoop b::(g3.map .code++hy)) t (.e' b uC _ _ ab vN) cx)
     |exit id=>obtain⟨Ia,J,ao⟩:=dK.1 ao;obtain⟨dQ,R,ah⟩:=ahE vN (by simpa[m2]using J:m2 id (.bP l::k)=o Ia);exact oH.eq (by rw[afi,R,afr]) ((aZ _ _ _ _ _ ao).1 dQ t ah cx)
     |ret=>injection ao with ao;subst ao;exact⟨t,afg,cx⟩
 ·rename_i id k;refine uD.Ca (by simp) λgj t Z cx=>?_;cases Z with
  |cm _ hy _ Z=>exact oH.eq ae' ((aZ _ _ _ _ _ ao).1 _ _ Z cx)
 ·rename_i ahp k;injection ao with ao;subst ao;refine uD.Ca (by simp) λgj t Z cx=>?_;cases Z with
  |halt _ hy _=>exact⟨t,ae9,cx⟩
 ·rename_i b k;refine uD.Ca (by simp) λgj t Z cx=>?_;cases Z with
  |e' c _ hy _ ab Z=>refine oH.eq afa ((aZ _ _ _ _ _ ao).1 (.code c::.inLoop c::hy) _ ?_ (cx.clear kV));exact .bP [c] b _ _ (by simp[mD,ab]) (.e' c b _ _ ab Z)
 ·rename_i k;refine⟨λgj t Z cx=>(by cases Z),λds all l bN gj lm t dQ he js Z cx=>?_,λds all l bN c bZ gj lm t dQ he=>(by cases he)⟩;injection he with hA pU;injection hA with hA;subst hA;subst pU;cases l with
  |nil=>exact oH.eq afb ((aZ _ _ _ _ _ ao).1 _ _ Z cx.drop)
  |cons q l=>obtain⟨I,bZ⟩:=q;simp only[nx]at js;obtain⟨mC,J,js⟩:=dK.1 js;obtain⟨g,R,js⟩:=dK.1 js;obtain⟨⟨d,oI⟩,ah,js⟩:=dK.1 js;obtain⟨c,aD,js⟩:=dK.1 js;obtain⟨ti,bo,js⟩:=dN.1 js;cases js
 ·rename_i l bN k;split at ao
  ·rename_i pT;refine⟨λgj t Z cx=>(by cases Z),λds all cX Ef gj lm t dQ he js Z cx=>?_,λds all cX Ef c bZ gj lm t dQ he an js Z cx=>?_⟩
   ·injection he with hA pU;injection hA with hA;subst hA;subst pU;obtain⟨I,bZ,b2,mC,g,d,oI,c,ti,_,_,_,_,_,_,aw,_⟩:=NB js;cases g<;>cases aw
   ·injection he with hA pU;injection hA with hA;injection hA with Eg hA;injection Eg with Eg;subst Eg;subst hA;subst pU;exact⟨Nx cx an pT,(aZ _ _ _ _ _ ao).2.1 ds all cX bN gj lm t _ rfl js Z cx⟩
  ·cases ao
 ·rename_i d mC bN k;refine⟨λgj t Z cx=>(by cases Z),λds all l Ef gj lm t dQ he js Z cx=>?_,λds all l Ef c bZ gj lm t dQ he=>(by cases he)⟩;injection he with hA pU;injection hA with hA;subst hA;subst pU;obtain⟨I,bZ,b2,ahK,g,n1,oI,c,ti,rfl,J,R,ah,aD,bo,aw,b9⟩:=NB js;cases g with
  |some g=>cases aw
  |none=>injection aw with xh r6;subst xh;subst r6;exact wanted ao J ah aD bo b9 Z cx (by rw[H' cx R];rfl)
 ·rename_i a w d mC bN k;refine⟨λgj t Z cx=>(by cases Z),λds all l Ef gj lm t dQ he js Z cx=>?_,λds all l Ef c bZ gj lm t dQ he=>(by cases he)⟩;injection he with hA pU;injection hA with hA;subst hA;subst pU;obtain⟨I,bZ,b2,ahK,g,n1,oI,c,ti,rfl,J,R,ah,aD,bo,aw,b9⟩:=NB js;cases g with
  |none=>cases aw
  |some g=>
    injection aw with xh r6 xi ahL;obtain⟨axc,axd⟩:=g;simp only at xh r6;subst xh;subst r6;subst xi;subst ahL;have a8:=H' cx R;simp only[B8]at a8;split at ao
    ·cases ao
    ·rename_i UO;subst b9;obtain⟨_,c3⟩:=NA (ds:=ds) th ah aD bo Z cx (aZ _ _ _ _ _ ao);exact c3.eq (ahI (a8.trans UO))
    ·rename_i fY;exact wanted ao J ah aD bo b9 Z cx (a8.trans fY)
theorem Cb(cx:g6 n bb [] t V []):∀{l:List ResultVar} {rs:List n5},pX P bb l=o rs->qq P t h l=iF V h rs
 |[],rs,he=>by simp only[pX,hZ]at he;subst he;rfl
 |.tmp i::l,rs,he=>by simp only[pX]at he;obtain⟨D,aa,he⟩:=dK.1 he;obtain⟨sb,Cc,rfl⟩:=dN.1 he;simp only[qq,iF,Cb cx Cc,(cx.v D i (Eb aa)).2]
 |.cell i ty::l,rs,he=>by
   simp only[pX]at he;split at he
   ·cases he
   ·rename_i aE;obtain⟨D,aa,he⟩:=dK.1 he;obtain⟨sb,Cc,rfl⟩:=dN.1 he;simp only[qq,iF,Cb cx Cc,(cx.v D i (Eb aa)).2,if_neg aE]
def tj(a n Ib aL:Nat)(bb:List Nat):Bool:=
 decide (a<=bb.length/\a<=n)&&(i7 bb.length).all λD=>let s:=bb.getD D 0
  decide (s<n)&&(decide (D<aL)==decide (s<Ib))&&(if D<a\/s<a then s==D else O)&&(i7 D).all λi=>bb.getD i 0 != s
def cq(P:cT)(W:h8)(g:c')(a aL:Nat)(bb:List Nat)(bP:List be)(rs:List n5)(p:Bool):Prop:=∃fn c,P.funcs[g]? =o fn/\fn.body=o c/\W.ext g=ad/\W.use g=O/\W.pure g=p/\g5 P (W.a' g) (W.cz g) fn.ntmps bb c []=o bP/\tj a fn.ntmps (W.aL g) aL bb=O/\pX P bb fn.results.toList=o rs
theorem a2{g:c'}{a:Nat}{bP:List be}{rs:List n5}{p:Bool}{args:List E}{q:(E⊕E)×ag}(bl:cq P W g a aL bb bP rs p)(aX:args.length=a)(ao:lT p rs h (bB (aQ P W) aL [.bP bP] (args++al (bb.length - args.length) .az) [] h)=o q):aQ P W g args h=o q:=by
 obtain⟨fn,c,J,R,ah,aD,bo,b9,c4,hh⟩:=bl;rw[aft ah J R aD bo];unfold tj at c4;simp only[hx,decide_eq_true_eq,jq,j1,beq_iff_eq,bne_iff_ne,ne_eq]at c4;obtain⟨⟨aR,a5⟩,bp⟩:=c4;have get:∀D s,bb[D]? =o s->D<bb.length/\bb.getD D 0=s:=λD s aa=>⟨(fQ.1 aa).1,by simp[dz,aa]⟩;have th:bb.Nodup:=by rw[List.nodup_iff_pairwise_ne,List.pairwise_iff_getElem];intro i D af aa ho e;have:=(bp D aa).2 i ho;apply this;simp[dz,af,aa,e]
 have kV:∀D s,bb[D]? =o s->(D<aL↔s<W.aL g):=by intro D s aa;obtain⟨da,ch⟩:=get D s aa;have:=(bp D da).1.1.2;rw[ch]at this;exact decide_eq_decide.1 this
 have cx:g6 fn.ntmps bb [] (args++al (fn.ntmps - args.length) .az) (args++al (bb.length - args.length) .az) []:=by
  refine⟨by simp;omega,by simp;omega,rfl,λD s aa=>?_,λD s aa=>by simp at aa⟩;obtain⟨da,ch⟩:=get D s aa;obtain⟨⟨⟨cg,_⟩,dw⟩,_⟩:=bp D da;rw[ch]at cg dw;refine⟨cg,?_⟩;by_cases an:D<a\/s<a
  ·rw[if_pos an]at dw;have:s=D:=by simpa using dw
   subst this;have bf:s<args.length:=by omega
   simp[dz,o4 bf]
  ·have aP:¬D<args.length:=by omega
   have bu:¬s<args.length:=by omega
   simp only[dz,mx (Nat.not_lt.1 aP),mx (Nat.not_lt.1 bu),List.getElem?_replicate];split<;>split<;>rfl
 generalize lN:bB (aQ P W) aL [.bP bP] (args++al (bb.length - args.length) .az) [] h=x at ao;cases x with
 |none=>cases ao
 |some r=>
   have hm:=(Ic (n:=fn.ntmps) (f:=g) th kV _ _ _ _ _ lN).1 [.code c] _ (.bP [c] bP [] [] (by simp[mD,b9]) .nil) cx;obtain⟨dF,au,ax⟩:=hm;rw[au];obtain⟨x,ga,F⟩:=r;cases x with
   |panic v=>exact ao
   |halt K=>cases ao
   |ret=>rw[afs];have:=Cb (h:=F) ax hh;unfold qr;rw[this];exact ao
end
abbrev aM:ay:=.i .l (.load T 1 (.l 0))
abbrev bd:ay:=.i .l (.a4 (.v 0))
abbrev cu:ay:=.i .l (.j2 (.l 0))
abbrev cl:ay:=.i .l (.a4 (.l 0))
abbrev cR:ay:=.i .l (.a4 (.v 3))
abbrev cW:ay:=.i .l (.a4 (.v 1))
abbrev dB:ay:=.i .l (.c0 0 (.l 0))
abbrev kN:ay:=.i .l (.build [.int j 0,.int j 0,.aA] [(0,1),(1,1),(2,1)] [])
abbrev ry:ay:=.i .l (.bin (.int j) .add (.l 0) (.c (.int j 1)))
abbrev fy:ay:=.i .l (.ext (.l 1) 1)
abbrev fx:ay:=.i .l (.ext (.l 0) 0)
abbrev lj:ay:=.i .l (.fG (o 35) ad (.l 0) (.c (.int j 0)))
abbrev fb:ay:=.i .l (.a4 (.v 4))
abbrev mh:ay:=.i .l (.bin (.int j) .sub (.l 0) (.c (.int j 1)))
abbrev gU:ay:=.i .l (.c0 1 (.l 0))
abbrev qM:ay:=.i (.v 3) (.a4 (.c (.int j 0)))
abbrev jk:ay:=.i (.v 3) (.a4 (.l 0))
abbrev xB:ay:=.i (.v 2) (.a4 (.c (.bool T)))
abbrev tr:ay:=.i (.v 4) (.a4 (.c (.int j 0)))
abbrev jd:ay:=.i .l (.load O 3 (.l 0))
abbrev jC:ay:=.i (.v 6) (.a4 (.l 0))
abbrev gT:ay:=.i .l (.a4 (.v 2))
abbrev jl:ay:=.i (.v 4) (.a4 (.l 0))
abbrev rH:ay:=.i .n (.store 3 (.v 5) (.l 1))
abbrev yJ:ay:=.i .l (.build [.int j 0,.int j 0,.int j 0,.int j 0,.aA] [(0,1),(1,1),(2,3)] [(0,(.l 0))])
abbrev hK:ay:=.i .l (.a4 (.v 5))
abbrev oL:ay:=.i .l (.bin (.int j) .lss (.l 0) (.c (.int j 0)))
abbrev po:ay:=.i .l (.call (.c (.fn 90 [] [])) [.l 0])
abbrev y5:ay:=.i .l (.build [.int j 0,.int j 0,.aA] [(0,1),(1,1),(2,1)] [(0,(.c (.int j 1))),(1,(.l 0))])
abbrev j7:ay:=.i .l (.a4 (.v 7))
abbrev l1:ay:=.i .n (.store 1 (.l 0) (.l 2))
abbrev p6:ay:=.i (.v 5) (.a4 (.c (.int j 0)))
abbrev yK:ay:=.i (.v 2) (.a4 (.c (.int j 0)))
abbrev k4:ay:=.g (.l 1) T .l (.load T 1 (.l 0))
abbrev lC:ay:=.i .l (.load O 4 (.l 0))
abbrev jT:ay:=.i (.v 5) (.a4 (.l 0))
abbrev jv:ay:=.i (.v 2) (.a4 (.l 0))
abbrev tp:ay:=.i .l (.bin (.int j) .geq (.l 0) (.c (.int j 0)))
abbrev kn:ay:=.i .l (.c0 2 (.l 0))
abbrev mN:ay:=.i .n (.store 5 (.v 3) (.l 0))
abbrev oM:ay:=.g (.l 1) O .l (.load T 1 (.l 0))
abbrev v6:ay:=.i (.v 5) (.alloc [.int j 0,.int j 0,.aA])
abbrev v5:ay:=.i (.v 4) (.alloc [.int j 0,.int j 0,.aA])
abbrev kA:ay:=.i (.v 8) (.a4 (.l 0))
abbrev qQ:ay:=.i .l (.len T (o 35) (.l 0))
abbrev p9:ay:=.i .n (.store 3 (.v 5) (.l 0))
abbrev pu:ay:=.i .l (.len T (o 109) (.l 0))
abbrev xE:ay:=.i .l (.pick (.l 2) (.c (.bool O)) (.l 0))
abbrev ml:ay:=.i .l (.c0 0 (.v 1))
abbrev awu:ay:=.i .l (.call (.l 0) [.c (.int j 2)])
abbrev uP:ay:=.i .l (.fG ad (o (4,1)) (.l 0) (.l 2))
abbrev rx:ay:=.i (.v 6) (.a4 (.c (.int j 0)))
abbrev mI:ay:=.i (.v 7) (.a4 (.l 0))
abbrev vc:ay:=.i .l (.fG (o 109) ad (.l 1) (.l 0))
abbrev k5:ay:=.i .l (.a4 (.v 6))
abbrev uX:ay:=.i .l (.fG (o 35) ad (.l 1) (.l 0))
abbrev qN:ay:=.i (.v 8) (.a4 (.c (.int j 0)))
abbrev nD:ay:=.i .l (.c0 1 (.v 2))
abbrev uZ:ay:=.i .l (.bin (.int j) .neq (.l 0) (.c (.int j 0)))
abbrev oK:ay:=.i (.v 1) (.a4 (.l 0))
abbrev u7:ay:=.g (.l 0) T .l (.a4 (.v 2))
abbrev qa:ay:=.i .l (.c0 3 (.v 2))
abbrev FE:ay:=.g (.l 1) T .l (.bin (.int j) .lss (.l 0) (.c (.int j 0)))
abbrev Fy:ay:=.g (.l 1) T .l (.bin (.int j) .geq (.l 0) (.c (.int j 4)))
abbrev IF:ay:=.i .l (.build [.int j 0,.int j 0,.int j 0,.int j 0,.aA] [(0,1),(1,1),(2,3)] [(2,(.l 0))])
abbrev ID:ay:=.i .l (.build [.int j 0,.int j 0,.aA] [(0,1),(1,1),(2,1)] [(0,(.c (.int j 4))),(1,(.l 0))])
abbrev Jt:ay:=.i .l (.build [.int j 0,.int j 0,.aA] [(0,1),(1,1),(2,1)] [(0,(.c (.int j 2))),(2,(.l 0))])
abbrev so:ay:=.i .l (.load O 3 (.v 5))
abbrev rE:ay:=.i .l (.load O 3 (.v 4))
abbrev od:ay:=.i .l (.c0 1 (.v 4))
abbrev u3:ay:=.i .n (.store 3 (.v 7) (.l 0))
abbrev Jz:ay:=.i .l (.lr T 137 [.int j 0,.int j 0,.int j 0,.int j 0] 4 1 [(0,(.l 0))])
abbrev sg:ay:=.i .l (.load O 3 (.v 6))
abbrev sn:ay:=.i .l (.load O 3 (.v 3))
abbrev yL:ay:=.i .l (.len T (o 132) (.l 0))
abbrev Oy:ay:=.i .l (.build [.int j 0,.int j 0,.int j 0,.int j 0,.int j 0,.int j 0] [(0,1),(1,1),(2,1),(3,1),(4,1),(5,1)] [])
abbrev GS:ay:=.i .l (.call (.c (.fn 95 [] [])) [.l 7,.l 6,.l 2,.l 1,.l 0])
abbrev u0:ay:=.i (.v 9) (.a4 (.l 0))
abbrev AL:ay:=.i .l (.bin (.int j) .eql (.l 0) (.c (.int j 5)))
abbrev xv:ay:=.g (.l 0) T .l (.a4 (.v 1))
abbrev KJ:ay:=.i .l (.lr T 109 [.int j 0,.int j 0,.int j 0,.aA] 4 1 [(0,(.l 0))])
abbrev uY:ay:=.i .n (.store 3 (.v 4) (.l 0))
abbrev rG:ay:=.i .l (.load O 3 (.v 2))
abbrev rF:ay:=.i .l (.c0 0 (.v 2))
abbrev Jc:ay:=.i (.v 2) (.a4 (.c (.bool O)))
abbrev p7:ay:=.i .l (.a4 (.v 8))
abbrev FJ:ay:=.i (.v 2) (.a4 (.c .aA))
abbrev V6:ay:=.i .l (.lr T 132 [.int j 0,.int j 0,.int j 0,.int j 0,.int j 0,.int j 0] 6 1 [(0,(.l 0))])
abbrev adn:ay:=.i (.v 3) (.alloc [.int j 0,.int j 0,.int j 0,.int j 0,.aA])
abbrev FS:ay:=.i .l (.call (.c (.fn 91 [] [])) [.l 0,.c (.int j 4)])
abbrev xF:ay:=.i .n (.store 3 (.v 7) (.l 1))
abbrev vd:ay:=.i .n (.store 2 (.v 2) (.l 0))
abbrev xt:ay:=.i .n (.store 1 (.l 0) (.l 1))
abbrev xu:ay:=.g (.l 0) O .l (.a4 (.v 0))
abbrev v0:ay:=.i (.v 7) (.a4 (.c (.int j 0)))
abbrev awv:ay:=.i (.v 1) (.a4 (.c (.bool T)))
abbrev Ob:ay:=.i .l (.lr O 35 [.int j 0,.int j 0,.aA] 3 1 [(0,(.c (.agg [.int j 0,.int j 0,.aA])))])
abbrev Co:ay:=.i .l (.pick (.l 5) (.l 0) (.c (.bool T)))
abbrev AK:ay:=.i .l (.pick (.l 3) (.l 0) (.c (.bool T)))
abbrev VW:ay:=.i .l (.build [.int j 0,.int j 0,.int j 0,.int j 0,.int j 0,.int j 0] [(0,1),(1,1),(2,1),(3,1),(4,1),(5,1)] [(0,(.c (.int j (-1)))),(1,(.l 2)),(2,(.l 1)),(3,(.l 0)),(4,(.c (.int j (-1))))])
abbrev si:ay:=.i .l (.un .not (.l 0))
abbrev tq:ay:=.i .l (.c0 2 (.v 2))
abbrev u1:ay:=.i (.v 10) (.a4 (.l 0))
abbrev Jv:ay:=.i .l (.lr T 35 [.int j 0,.int j 0,.aA] 3 1 [(0,(.l 0))])
abbrev sp:ay:=.i .l (.a4 (.v 10))
abbrev Fv:ay:=.i .l (.bin (.int j) .eql (.l 0) (.c (.int j 0)))
abbrev Ax:ay:=.i (.v 1) (.box 3 (.v 0))
abbrev CE:ay:=.i .l (.fG ad (o (4,5)) (.l 0) (.l 2))
abbrev Fi:ay:=.i (.v 9) (.alloc [.int j 0,.int j 0,.aA])
abbrev Fm:ay:=.i (.v 7) (.alloc [.int j 0,.int j 0,.aA])
abbrev EB:ay:=.i (.v 6) (.alloc [.int j 0,.int j 0,.aA])
abbrev Fb:ay:=.i (.v 2) (.alloc [.int j 0,.int j 0,.aA])
abbrev E9:ay:=.i (.v 1) (.alloc [.int j 0,.int j 0,.aA])
abbrev tB:ay:=.i .l (.j2 (.l 1))
abbrev V0:ay:=.i .l (.build [.int j 0,.int j 0,.int j 0,.int j 0,.int j 0,.int j 0] [(0,1),(1,1),(2,1),(3,1),(4,1),(5,1)] [(0,(.c (.int j (-1)))),(1,(.l 3)),(2,(.l 2)),(4,(.l 1)),(5,(.l 0))])
abbrev EL:ay:=.i .l (.lr T 3 [.int j 0] 1 1 [(0,(.l 0))])
abbrev Pp:ay:=.i (.v 6) (.alloc [.int j 0,.int j 0,.int j 0,.int j 0,.int j 0,.int j 0])
abbrev Oz:ay:=.i (.v 4) (.alloc [.int j 0,.int j 0,.int j 0,.int j 0,.int j 0,.int j 0])
abbrev u2:ay:=.i .l (.c0 7 (.l 0))
abbrev u':ay:=.i .l (.c0 2 (.v 1))
abbrev qR:ay:=.i .l (.c0 0 (.v 3))
abbrev CF:ay:=.g (.l 3) T .l (.load T 1 (.l 0))
abbrev V4:ay:=.i .l (.build [.int j 0,.int j 0,.int j 0,.int j 0,.int j 0,.int j 0] [(0,1),(1,1),(2,1),(3,1),(4,1),(5,1)] [(0,(.l 2)),(1,(.l 1)),(2,(.l 0)),(4,(.c (.int j (-1))))])
abbrev tz:ay:=.i (.v 17) (.a4 (.l 0))
abbrev Af:ay:=.i (.v 1) (.a4 (.c (.int j 0)))
abbrev I2:ay:=.g (.l 2) O .l (.bin (.int j) .lss (.l 0) (.c (.int j 0)))
abbrev AJ:ay:=.g (.l 0) T .l (.c0 0 (.v 1))
abbrev Ff:ay:=.i .l (.call (.c (.fn 114 [] [])) [.l 1,.l 0])
abbrev Cn:ay:=.g (.l 3) O .l (.load T 1 (.l 0))
abbrev Qo:ay:=.i .l (.call (.c (.fn 79 [] [])) [.l 4,.l 0])
abbrev vZ:ay:=.i .l (.j2 (.l 2))
abbrev tA:ay:=.i .l (.a4 (.v 9))
abbrev P3:ay:=.i .l (.build [.int j 0,.int j 0,.aA] [(0,1),(1,1),(2,1)] [(0,(.l 2)),(1,(.l 0))])
abbrev yM:ay:=.i .l (.load O 6 (.l 0))
abbrev nG:ay:=.i .l (.c0 1 (.v 3))
abbrev Jp:ay:=.i .l (.call (.c (.fn 91 [] [])) [.l 0,.c (.int j 1)])
abbrev Jj:ay:=.i .l (.call (.c (.fn 89 [] [])) [.l 0,.c (.int j 2)])
abbrev AM:ay:=.i .l (.pick (.l 3) (.c (.bool O)) (.l 0))
abbrev xA:ay:=.i (.v 11) (.a4 (.l 0))
abbrev aww:ay:=.i (.v 1) (.a4 (.c .aA))
abbrev JE:ay:=.i (.v 8) (.bin (.int j) .neq (.l 0) (.c (.int j 0)))
abbrev LF:ay:=.i .l (.call (.l 1) [.l 0])
abbrev FG:ay:=.i .l (.bin (.int j) .lss (.l 3) (.l 0))
abbrev Az:ay:=.i (.v 3) (.box 3 (.v 1))
abbrev Ke:ay:=.i (.v 2) (.box 3 (.v 1))
abbrev Ct:ay:=.i .l (.len T (o 3) (.l 0))
abbrev Oj:ay:=.i (.v 4) (.a4 (.c (.int j 1)))
abbrev EH:ay:=.i .l (.fG (o 132) ad (.l 1) (.l 0))
abbrev Pj:ay:=.i .l (.call (.c (.fn 88 [] [])) [.l 0])
abbrev GM:ay:=.i .l (.call (.c (.fn 57 [] [])) [.l 0])
abbrev wa:ay:=.i .l (.a4 (.v 11))
abbrev awx:ay:=.i .l (.bin (.int j) .add (.v 9) (.c (.int j 1)))
abbrev sq:ay:=.i .l (.c0 0 (.v 4))
abbrev AT:ay:=.g (.l 6) T .l (.load T 1 (.l 0))
abbrev Sd:ay:=.i .l (.fG (o 109) ad (.l 0) (.c (.int j 1)))
abbrev Sc:ay:=.i .l (.fG (o 109) ad (.l 0) (.c (.int j 0)))
abbrev Ji:ay:=.i (.v 3) (.alloc [.int j 0,.int j 0,.aA])
abbrev LD:ay:=.i .l (.fG (o 35) ad (.l 0) (.c (.int j 1)))
abbrev EF:ay:=.g (.l 2) O .l (.load T 1 (.l 0))
abbrev y8:ay:=.i (.v 12) (.a4 (.l 0))
abbrev y9:ay:=.i .l (.j2 (.l 4))
abbrev XL:ay:=.i .l (.lr O 126 [.int j 0,.int j 0,.int j 0,.int j 0,.int j 0,.aA,.aA,.aA,.bool T,.aA] 10 1 [(0,(.l 0))])
abbrev Ay:ay:=.i .n (.store 3 (.v 2) (.l 0))
abbrev ED:ay:=.g (.l 0) O .l (.a4 (.v 1))
abbrev Js:ay:=.i .l (.call (.c (.fn 89 [] [])) [.l 1,.l 0])
abbrev awy:ay:=.i (.v 10) (.bin (.int j) .lss (.v 9) (.v 8))
abbrev Jg:ay:=.i .l (.len T (o 126) (.l 0))
abbrev IU:ay:=.i (.v 5) (.bin (.int j) .lss (.l 2) (.l 0))
abbrev IV:ay:=.i (.v 4) (.bin (.int j) .neq (.l 2) (.l 0))
abbrev I1:ay:=.i .l (.pick (.l 4) (.l 0) (.c (.bool T)))
abbrev IS:ay:=.i .l (.pick (.l 2) (.l 0) (.c (.bool T)))
abbrev ada:ay:=.i .l (.build [.int j 0,.int j 0,.int j 0,.int j 0,.aA] [(0,1),(1,1),(2,3)] [(0,(.l 2)),(1,(.l 1)),(2,(.l 0))])
abbrev CP:ay:=.i (.v 9) (.a4 (.c (.int j 0)))
abbrev EK:ay:=.i (.v 3) (.a4 (.c (.bool T)))
abbrev AA:ay:=.i (.v 13) (.a4 (.l 0))
abbrev PX:ay:=.g (.l 2) O .l (.bin (.int j) .neq (.l 0) (.c (.int j 0)))
abbrev GP:ay:=.g (.l 2) T .l (.c0 0 (.l 0))
abbrev CC:ay:=.i .l (.load O 3 (.v 1))
abbrev Cq:ay:=.i (.v 6) (.un .not (.l 0))
abbrev FI:ay:=.g (.l 0) O .l (.c0 1 (.v 1))
abbrev JW:ay:=.i .l (.bin (.int j) .sub (.l 4) (.l 0))
abbrev P8:ay:=.i .l (.bin (.int j) .sub (.l 1) (.l 0))
abbrev Fa:ay:=.i .l (.bin (.int j) .neq (.l 1) (.l 0))
abbrev Ai:ay:=.i (.v 5) (.a4 (.l 1))
abbrev Ah:ay:=.i (.v 4) (.a4 (.l 1))
abbrev Fq:ay:=.i (.v 7) (.load T 1 (.l 0))
abbrev Fu:ay:=.i (.v 6) (.load T 1 (.l 0))
abbrev ac9:ay:=.i .l (.build [.int j 0,.int j 0,.int j 0,.int j 0,.aA] [(0,1),(1,1),(2,3)] [(0,(.c (.int j 8)))])
abbrev adf:ay:=.i .l (.build [.int j 0,.int j 0,.int j 0,.int j 0,.aA] [(0,1),(1,1),(2,3)] [(0,(.c (.int j 2)))])
abbrev adb:ay:=.i .l (.build [.int j 0,.int j 0,.int j 0,.int j 0,.aA] [(0,1),(1,1),(2,3)] [(0,(.c (.int j 1)))])
abbrev LA:ay:=.i .l (.fG (o 82) ad (.l 1) (.l 0))
abbrev Bp:ay:=.i .l (.c0 3 (.v 5))
abbrev FX:ay:=.i .l (.build [.int j 0,.int j 0] [(0,1),(1,1)] [])
abbrev IY:ay:=.g (.l 4) T .l (.load T 1 (.l 0))
abbrev PO:ay:=.i (.v 16) (.bin (.int j) .neq (.l 0) (.c (.int j 0)))
abbrev Ov:ay:=.i (.v 11) (.bin (.int j) .eql (.l 0) (.c (.int j 0)))
abbrev I0:ay:=.i .l (.fG (o 3) ad (.l 1) (.l 0))
abbrev EC:ay:=.i .n (.store 3 (.v 6) (.l 0))
abbrev FT:ay:=.i .n (.store 3 (.v 4) (.l 1))
abbrev CB:ay:=.i .n (.store 3 (.v 3) (.l 0))
abbrev E':ay:=.i .n (.store 3 (.v 1) (.l 0))
abbrev N6:ay:=.i (.v 7) (.bin (.int j) .neq (.l 0) (.c (.int j 0)))
abbrev CG:ay:=.i (.v 15) (.a4 (.l 0))
abbrev Dh:ay:=.i .l (.a4 (.v 17))
abbrev AP:ay:=.i .l (.a4 (.v 13))
abbrev FY:ay:=.i .l (.bin (.int j) .lss (.l 0) (.c (.int j 1)))
abbrev awz:ay:=.i .l (.bin (.int j) .add (.v 8) (.c (.int j 1)))
abbrev PS:ay:=.i (.v 12) (.alloc [.int j 0,.int j 0,.aA])
abbrev VN:ay:=.g (.l 6) O .l (.bin (.int j) .lss (.l 5) (.l 0))
abbrev P7:ay:=.g (.l 2) O .l (.bin (.int j) .leq (.l 1) (.l 0))
abbrev Cl:ay:=.i .l (.c0 19 (.l 0))
abbrev XJ:ay:=.i .l (.build [.int j 0,.int j 0,.aA] [(0,1),(1,1),(2,1)] [(0,(.c (.int j 5))),(1,(.l 0))])
abbrev Cr:ay:=.i (.v 0) (.a4 (.l 0))
abbrev F0:ay:=.i .l (.load O 4 (.v 4))
abbrev Fj:ay:=.i .l (.load O 3 (.v 9))
abbrev CI:ay:=.i .l (.load O 1 (.v 3))
abbrev V8:ay:=.i (.v 5) (.alloc [.int j 0,.int j 0,.int j 0,.int j 0,.int j 0,.int j 0])
abbrev Wb:ay:=.i (.v 2) (.alloc [.int j 0,.int j 0,.int j 0,.int j 0,.int j 0,.int j 0])
abbrev II:ay:=.g (.l 4) O .l (.un .not (.l 0))
abbrev De:ay:=.i .l (.c0 6 (.v 2))
abbrev awA:ay:=.i (.v 3) (.a4 (.c .aA))
abbrev awB:ay:=.i (.v 0) (.a4 (.c .e2))
abbrev Oe:ay:=.i .l (.len T (o 4) (.l 0))
abbrev Jy:ay:=.i (.v 5) (.a4 (.c (.bool T)))
abbrev Jk:ay:=.i (.v 4) (.a4 (.c (.bool T)))
abbrev awC:ay:=.i (.v 3) (.a4 (.c (.int j 9)))
abbrev awD:ay:=.i (.v 3) (.a4 (.c (.int j 1)))
abbrev OM:ay:=.i .l (.call (.c (.fn 154 [] [])) [.l 1,.l 0])
abbrev Pr:ay:=.i .l (.call (.c (.fn 114 [] [])) [.l 5,.l 0])
abbrev Yl:ay:=.i (.v 7) (.pick (.l 2) (.c (.bool O)) (.l 0))
abbrev Qv:ay:=.i (.v 2) (.box 4 (.v 0))
abbrev FW:ay:=.i (.v 1) (.box 1 (.v 0))
abbrev Qz:ay:=.i (.v 2) (.alloc [.int j 0,.int j 0])
abbrev Oq:ay:=.i (.v 9) (.bin (.int j) .lss (.v 8) (.v 7))
abbrev QB:ay:=.i (.v 5) (.bin (.int j) .lss (.l 3) (.l 0))
abbrev VO:ay:=.i .l (.pick (.l 7) (.l 0) (.c (.bool T)))
abbrev LI:ay:=.i .l (.a4 (.v 22))
abbrev awE:ay:=.i (.v 2) (.bin .slice .eql (.l 0) (.c .aA))
abbrev CR:ay:=.g (.l 2) T .l (.a4 (.v 0))
abbrev IX:ay:=.g (.l 1) T .l (.a4 (.v 0))
abbrev AB:ay:=.i (.v 16) (.a4 (.l 0))
abbrev Fl:ay:=.i (.v 14) (.a4 (.l 0))
abbrev IN:ay:=.i .n (.store 6 (.v 4) (.l 0))
abbrev IL:ay:=.i .n (.store 6 (.v 2) (.l 0))
abbrev Jx:ay:=.i .n (.store 3 (.v 9) (.l 0))
abbrev J7:ay:=.g (.l 1) O .l (.a4 (.v 1))
abbrev Fw:ay:=.i .l (.c0 12 (.l 0))
abbrev Po:ay:=.i .l (.call (.c (.fn 115 [] [])) [.l 0])
abbrev Pi:ay:=.i .l (.lr T 35 [.int j 0,.int j 0,.aA] 3 2 [(0,(.l 2)),(1,(.l 0))])
abbrev PN:ay:=.i .n (.store 1 (.v 8) (.c (.int j 0)))
abbrev Qm:ay:=.i .l (.fG (o 109) ad (.v 7) (.v 9))
abbrev Ol:ay:=.i .l (.call (.c (.fn 96 [] [])) [.l 0])
abbrev Qd:ay:=.i .l (.call (.c (.fn 53 [] [])) [.l 0])
abbrev PR:ay:=.i .l (.call (.c (.fn 48 [] [])) [.l 0])
abbrev Pm:ay:=.i .l (.call (.c (.fn 47 [] [])) [.l 0])
abbrev Si:ay:=.g (.l 10) T .l (.load T 1 (.l 0))
abbrev Z':ay:=.i .l (.build [.int j 0,.int j 0] [(0,1),(1,1)] [(0,(.l 1)),(1,(.l 0))])
abbrev Vq:ay:=.i (.v 5) (.alloc [.int j 0,.int j 0,.int j 0,.int j 0,.aA])
abbrev acZ:ay:=.i (.v 4) (.alloc [.int j 0,.int j 0,.int j 0,.int j 0,.aA])
abbrev Fk:ay:=.i .l (.c0 3 (.l 0))
abbrev CN:ay:=.i .l (.c0 2 (.v 3))
abbrev IQ:ay:=.i .l (.box 2 (.l 0))
abbrev Qp:ay:=.i (.v 8) (.len T (o 109) (.v 7))
abbrev IG:ay:=.i (.v 3) (.un .not (.l 0))
abbrev VM:ay:=.g (.l 4) O .l (.load T 1 (.l 0))
abbrev Cm:ay:=.i .l (.j2 (.l 6))
abbrev GR:ay:=.i .l (.a4 (.v 14))
abbrev Jh:ay:=.i (.v 2) (.box 3 (.v 0))
abbrev S4:ay:=.i .l (.len T (o 137) (.l 0))
abbrev YF:ay:=.g (.l 1) T .l (.bin (.int j) .gtr (.l 0) (.c (.int j 2000)))
abbrev Lz:ay:=.i .l (.len T (o 82) (.l 0))
abbrev P2:ay:=.i (.v 11) (.a4 (.c (.int j 0)))
abbrev adN:ay:=.i .l (.H2 35 [.int j 0,.int j 0,.aA] 3 1 [(0,(.l 0))])
abbrev ZU:ay:=.i (.v 6) (.alloc [.int j 0,.int j 0,.int j 0,.aA])
abbrev Z8:ay:=.i (.v 4) (.alloc [.int j 0,.int j 0,.int j 0,.aA])
abbrev adC:ay:=.g (.l 4) T .l (.bin (.int j) .neq (.l 0) (.c (.int j 1)))
abbrev aac:ay:=.g (.l 3) T .l (.bin (.int j) .gtr (.l 0) (.c (.int j 6)))
abbrev JZ:ay:=.g (.l 2) T .l (.bin (.int j) .gtr (.l 0) (.c (.int j 5)))
abbrev Qy:ay:=.g (.l 1) O .l (.bin (.int j) .eql (.l 0) (.c (.int j 12)))
abbrev awF:ay:=.g (.l 1) T .l (.bin (.int j) .geq (.l 0) (.c (.int j 6)))
abbrev Pz:ay:=.i .l (.len T (o 2) (.l 0))
abbrev On:ay:=.i (.v 6) (.a4 (.c (.int j 1)))
abbrev EG:ay:=.i (.v 5) (.a4 (.c (.int j 1)))
abbrev LH:ay:=.i (.v 22) (.a4 (.l 0))
abbrev Jw:ay:=.i (.v 20) (.a4 (.l 0))
abbrev P1:ay:=.i (.v 2) (.a4 (.c (.int j 5)))
abbrev adp:ay:=.g (.l 3) O .l (.bin (.int j) .eql (.l 0) (.c (.int j 1)))
abbrev Kw:ay:=.g (.l 2) O .l (.bin (.int j) .neq (.l 0) (.c (.int j 2)))
abbrev YK:ay:=.g (.l 1) O .l (.bin (.int j) .geq (.l 0) (.c (.int j 0)))
abbrev Z6:ay:=.g (.l 1) O .l (.bin (.int j) .eql (.l 0) (.c (.int j 1)))
abbrev xG:ay:=.g (.l 0) T .l (.c0 1 (.v 3))
abbrev awG:ay:=.i .l (.build [.e2,.aA] [(0,1),(1,1)] [(0,(.l 1)),(1,(.l 0))])
abbrev adB:ay:=.g (.l 1) T .l (.fG (o 35) ad (.l 0) (.c (.int j 1)))
abbrev Sh:ay:=.g (.l 8) T .l (.j2 (.l 0))
abbrev Sf:ay:=.g (.l 4) T .l (.j2 (.l 0))
abbrev Oi:ay:=.g (.l 2) O .l (.c0 1 (.l 0))
abbrev Se:ay:=.g (.l 1) T .l (.j2 (.l 0))
abbrev P5:ay:=.g (.l 0) O .l (.c0 1 (.v 2))
abbrev awH:ay:=.i .l (.lr O 4 [.bool T] 1 1 [(0,(.c (.bool T)))])
abbrev Jr:ay:=.i (.v 6) (.a4 (.l 1))
abbrev adO:ay:=.i .l (.call (.c (.fn 65 [] [])) [.l 3,.l 2,.l 1,.l 0])
abbrev ade:ay:=.i .l (.call (.c (.fn 59 [] [])) [.l 4,.l 2,.l 1,.l 0])
abbrev VL:ay:=.g (.l 2) O .l (.j2 (.l 0))
abbrev Oh:ay:=.g (.l 1) O .l (.j2 (.l 0))
abbrev PT:ay:=.i .n (.store 3 (.v 12) (.l 1))
abbrev IE:ay:=.i .l (.j2 (.l 10))
abbrev v4:ay:=.i .l (.c0 6 (.l 0))
abbrev Lx:ay:=.i .l (.c0 5 (.v 2))
abbrev Jq:ay:=.i .l (.c0 4 (.v 6))
abbrev Lv:ay:=.i .l (.c0 4 (.v 2))
abbrev KB:ay:=.i .l (.c0 3 (.v 3))
abbrev J2:ay:=.i .l (.c0 1 (.v 1))
abbrev awI:ay:=.i .l (.call (.c (.fn 89 [] [])) [.l 0,.c (.int j 4)])
abbrev Sg:ay:=.g (.l 7) T .l (.a4 (.v 3))
abbrev PW:ay:=.g (.l 0) T .l (.a4 (.v 3))
abbrev ZA:ay:=.i (.v 18) (.bin (.int j) .neq (.l 0) (.c (.int j 0)))
abbrev KF:ay:=.i (.v 15) (.bin (.int j) .neq (.l 0) (.c (.int j 0)))
abbrev RV:ay:=.i .n (.store 5 (.v 4) (.l 0))
abbrev ac1:ay:=.i (.v 8) (.bin (.int j) .geq (.l 0) (.c (.int j 0)))
abbrev Zz:ay:=.i (.v 6) (.bin (.int j) .neq (.l 0) (.c (.int j 0)))
abbrev Y0:ay:=.i (.v 5) (.bin (.int j) .eql (.l 0) (.c (.int j 4)))
abbrev Wc:ay:=.i (.v 5) (.bin (.int j) .eql (.l 0) (.c (.int j 0)))
abbrev PZ:ay:=.g (.l 7) T .l (.pick (.l 3) (.l 0) (.c (.bool T)))
abbrev VK:ay:=.g (.l 1) O .l (.a4 (.v 0))
abbrev P6:ay:=.g (.l 0) O .l (.a4 (.v 4))
abbrev Pt:ay:=.i .l (.j2 (.l 7))
abbrev VQ:ay:=.i .l (.bin (.int j) .neq (.l 0) (.c (.int j (-1))))
abbrev PQ:ay:=.i .l (.load T 1 (.v 11))
abbrev ac5:ay:=.g (.l 7) T .l (.fG ad (o (4,1)) (.l 0) (.l 2))
abbrev ac8:ay:=.g (.l 10) T .l (.bin (.int j) .geq (.l 8) (.l 0))
abbrev XX:ay:=.i .l (.bin (.int j) .eql (.v 10) (.c (.int j 6)))
abbrev XV:ay:=.i .l (.bin (.int j) .eql (.v 10) (.c (.int j 4)))
abbrev XT:ay:=.i .l (.bin (.int j) .eql (.v 10) (.c (.int j 3)))
abbrev XS:ay:=.i .l (.bin (.int j) .eql (.v 10) (.c (.int j 2)))
abbrev XR:ay:=.i .l (.bin (.int j) .eql (.v 10) (.c (.int j 1)))
abbrev awJ:ay:=.i .l (.bin (.int j) .eql (.l 0) (.c (.int j 20)))
abbrev YR:ay:=.i .l (.bin (.int j) .add (.v 11) (.c (.int j 1)))
abbrev PP:ay:=.g (.l 6) T .l (.bin (.int j) .geq (.l 5) (.l 0))
abbrev Jf:ay:=.i .n (.yz (.l 0))
abbrev LG:ay:=.i .l (.a4 (.v 15))
abbrev PM:ay:=.i .l (.load T 1 (.v 6))
abbrev Zh:ay:=.i .l (.bin (.int j) .eql (.v 6) (.c (.int j 5)))
abbrev JA:ay:=.i .l (.bin (.int j) .eql (.v 4) (.c (.int j 4)))
abbrev Wg:ay:=.i .l (.bin (.int j) .add (.v 7) (.c (.int j 1)))
abbrev Y5:ay:=.i .l (.bin (.int j) .add (.v 5) (.c (.int j 1)))
abbrev X4:ay:=.i (.v 10) (.alloc [.int j 0,.int j 0,.aA])
abbrev Y':ay:=.g (.l 4) O .l (.bin (.int j) .eql (.l 2) (.l 0))
abbrev ZT:ay:=.i .l (.fG (o 109) ad (.l 0) (.c (.int j 2)))
abbrev X1:ay:=.i (.v 8) (.alloc [.int j 0,.int j 0,.aA])
abbrev RZ:ay:=.i .l (.load O 9 (.v 2))
abbrev Qs:ay:=.i .l (.load O 4 (.v 6))
abbrev Pw:ay:=.i .l (.load O 3 (.v 7))
abbrev Qt:ay:=.i .l (.load O 1 (.v 1))
abbrev RY:ay:=.i .l (.load O 1 (.l 0))
abbrev VF:ay:=.g (.l 5) O .l (.fG (o 4) ad (.l 1) (.l 0))
abbrev XD:ay:=.i .l (.call (.c (.fn 145 [] [])) [.l 1,.l 0])
abbrev adF:ay:=.i .l (.call (.c (.fn 138 [] [])) [.l 1,.l 0])
abbrev Zx:ay:=.i .l (.call (.c (.fn 128 [] [])) [.l 1,.l 0])
abbrev XZ:ay:=.i .l (.call (.c (.fn 114 [] [])) [.l 8,.l 0])
abbrev XU:ay:=.i .l (.call (.c (.fn 114 [] [])) [.l 4,.l 0])
abbrev ZS:ay:=.i .l (.call (.c (.fn 107 [] [])) [.l 1,.l 0])
abbrev Wr:ay:=.i .l (.call (.c (.fn 100 [] [])) [.l 1,.l 0])
abbrev Zc:ay:=.i (.v 6) (.pick (.l 3) (.l 0) (.c (.bool T)))
abbrev YL:ay:=.i (.v 5) (.pick (.l 2) (.l 0) (.c (.bool T)))
abbrev YQ:ay:=.i (.v 12) (.bin (.int j) .lss (.v 11) (.v 10))
abbrev Wv:ay:=.i .l (.call (.c (.fn 99 [] [])) [.l 4,.l 0])
abbrev Vz:ay:=.i .l (.call (.c (.fn 98 [] [])) [.l 1,.l 0])
abbrev VX:ay:=.i .l (.call (.c (.fn 97 [] [])) [.l 4,.l 0])
abbrev ZP:ay:=.i .l (.call (.c (.fn 79 [] [])) [.l 1,.l 0])
abbrev adm:ay:=.i .l (.call (.c (.fn 26 [] [])) [.l 1,.l 0])
abbrev aad:ay:=.i (.v 6) (.pick (.l 4) (.c (.bool O)) (.l 0))
abbrev awK:ay:=.i (.v 2) (.box 9 (.v 1))
abbrev WA:ay:=.g (.l 5) T .l (.len T (o 132) (.l 0))
abbrev aab:ay:=.g (.l 2) T .l (.len T (o 109) (.l 0))
abbrev WD:ay:=.i (.v 10) (.bin (.int j) .lss (.l 2) (.l 0))
abbrev ac7:ay:=.g (.l 9) T .l (.len T (o 35) (.l 0))
abbrev We:ay:=.i (.v 8) (.bin (.int j) .lss (.v 7) (.v 6))
abbrev Y3:ay:=.i (.v 6) (.bin (.int j) .lss (.v 5) (.v 4))
abbrev VI:ay:=.i .l (.pick (.l 8) (.l 0) (.c (.bool T)))
abbrev adR:ay:=.i .l (.pick (.l 14) (.c (.bool O)) (.l 0))
abbrev awL:ay:=.g (.l 5) O .l (.len T (o 4) (.l 0))
abbrev Wk:ay:=.i .l (.build [.aA,.aA] [(0,1),(1,1)] [])
abbrev Sa:ay:=.i (.v 23) (.a4 (.l 0))
abbrev Fp:ay:=.i (.v 19) (.a4 (.l 0))
abbrev Fo:ay:=.i (.v 18) (.a4 (.l 0))
abbrev adI:ay:=.i .l (.fG ad (o (4,3)) (.l 0) (.l 2))
abbrev R':ay:=.i .l (.c0 4 (.v 21))
abbrev Zl:ay:=.i .l (.call (.c (.fn 165 [] [])) [.l 0])
abbrev IH:ay:=.i .l (.call (.c (.fn 120 [] [])) [.l 0])
abbrev X0:ay:=.i .l (.call (.c (.fn 116 [] [])) [.l 0])
abbrev aal:ay:=.i .l (.call (.c (.fn 111 [] [])) [.l 0])
abbrev XW:ay:=.i .l (.bin (.int j) .sub (.l 2) (.l 0))
abbrev awM:ay:=.i .l (.bin (.int j) .mul (.l 1) (.l 0))
abbrev Jl:ay:=.i .l (.bin (.int j) .lss (.l 1) (.l 0))
abbrev Y8:ay:=.i .l (.bin (.int j) .eql (.l 2) (.l 0))
abbrev XC:ay:=.i .l (.bin (.int j) .eql (.l 1) (.l 0))
abbrev WN:ay:=.i .l (.bin (.int j) .and (.l 1) (.l 0))
abbrev Zd:ay:=.i .l (.bin (.int j) .add (.l 9) (.l 0))
abbrev awN:ay:=.i .l (.bin (.int j) .add (.l 1) (.l 0))
abbrev Pn:ay:=.i (.v 3) (.a4 (.l 1))
abbrev Ph:ay:=.i (.v 2) (.a4 (.v 0))
abbrev ae0:ay:=.i .l (.fG (o 137) ad (.l 1) (.l 0))
abbrev WE:ay:=.i .l (.fG (o 132) ad (.l 4) (.l 0))
abbrev Zf:ay:=.i .l (.call (.c (.fn 94 [] [])) [.l 0])
abbrev YO:ay:=.i .l (.call (.c (.fn 87 [] [])) [.l 0])
abbrev adG:ay:=.i .l (.call (.c (.fn 68 [] [])) [.l 0])
abbrev XI:ay:=.i .l (.call (.c (.fn 63 [] [])) [.l 0])
abbrev N8:ay:=.i .n (.store 1 (.l 0) (.c (.bool O)))
abbrev ac':ay:=.i .l (.fG (o 35) ad (.l 2) (.l 0))
abbrev Jn:ay:=.i .l (.c0 3 (.v 4))
abbrev Ot:ay:=.i .l (.c0 1 (.v 5))
abbrev PA:ay:=.i .l (.c0 0 (.v 5))
abbrev ac6:ay:=.g (.l 8) T .l (.load T 1 (.l 0))
abbrev YJ:ay:=.g (.l 7) T .l (.load T 1 (.l 0))
abbrev awO:ay:=.i .l (.fG (o 4) ad (.l 1) (.l 0))
abbrev Yg:ay:=.i .l (.fG (o 2) ad (.l 1) (.l 0))
abbrev adJ:ay:=.i .l (.bin .ptr .eql (.l 0) (.c .e2))
abbrev VG:ay:=.g (.l 6) O .l (.load T 1 (.l 0))
abbrev If:ay:=.i .l (.a4 (.v 12))
abbrev P4:ay:=.i (.v 2) (.a4 (.c (.int j (-1))))
abbrev ZY:ay:=.i (.v 1) (.a4 (.c (.int j (-1))))
abbrev adQ:ay:=.g (.l 13) T .l (.un .not (.l 0))
abbrev ZN:ay:=.i .l (.len T (o 184) (.l 0))
abbrev adk:ay:=.i .l (.call (.c (.fn 24 [] [])) [])
abbrev adE:ay:=.i .l (.app T 137 (.l 9) (.l 0))
abbrev Yb:ay:=.i .l (.app T 137 (.l 5) (.l 0))
abbrev awP:ay:=.i .l (.app T 132 (.l 2) (.l 0))
abbrev aam:ay:=.i .l (.app T 109 (.l 7) (.l 0))
abbrev X6:ay:=.i .l (.len T (o 35) (.l 1))
abbrev ZB:ay:=.i .l (.app T 35 (.l 2) (.l 0))
abbrev VT:ay:=.i (.v 4) (.a4 (.c (.int j 11)))
abbrev Vt:ay:=.i (.v 2) (.a4 (.c (.int j 11)))
abbrev VH:ay:=.g (.l 7) O .l (.un .not (.l 0))
abbrev Wf:ay:=.i .l (.app T 3 (.l 3) (.l 0))
abbrev YY:ay:=.i .l (.app T 3 (.l 2) (.l 0))
abbrev V3:ay:=.i (.v 5) (.a4 (.c (.int j 8)))
abbrev F2:ay:=.i (.v 5) (.a4 (.c (.int j 5)))
abbrev VS:ay:=.i (.v 4) (.a4 (.c (.int j 8)))
abbrev VA:ay:=.i (.v 2) (.a4 (.c (.int j 8)))
abbrev YN:ay:=.i (.v 2) (.a4 (.c (.int j 3)))
abbrev YT:ay:=.i (.v 2) (.a4 (.c (.int j 2)))
abbrev YU:ay:=.i (.v 2) (.a4 (.c (.int j 1)))
abbrev adj:ay:=.i (.v 0) (.a4 (.c (.bool T)))
abbrev YI:ay:=.g (.l 6) T .l (.c0 1 (.l 0))
abbrev adP:ay:=.g (.l 5) T .l (.c0 1 (.l 0))
abbrev Kz:ay:=.g (.l 5) T .l (.c0 0 (.l 0))
abbrev Ky:ay:=.g (.l 4) T .l (.c0 0 (.l 0))
abbrev ac3:ay:=.g (.l 3) T .l (.c0 1 (.v 2))
abbrev Wz:ay:=.g (.l 3) T .l (.c0 0 (.l 0))
abbrev ac2:ay:=.g (.l 0) T .l (.c0 4 (.v 2))
abbrev awQ:ay:=.i .l (.app O 4 (.l 1) (.l 0))
abbrev Y4:ay:=.i (.v 7) (.call (.l 4) [.l 0])
abbrev Yc:ay:=.i (.v 5) (.a4 (.c (.bool O)))
abbrev Wd:ay:=.i (.v 3) (.a4 (.c (.bool O)))
abbrev XQ:ay:=.i (.v 10) (.load T 1 (.l 0))
abbrev adT:ay:=.i (.v 1) (.a4 (.c (.bool O)))
abbrev ac4:ay:=.g (.l 5) T .l (.j2 (.l 2))
abbrev awR:ay:=.g (.l 3) O .l (.c0 1 (.l 0))
abbrev YH:ay:=.g (.l 3) T .l (.j2 (.l 1))
abbrev Kx:ay:=.g (.l 3) T .l (.j2 (.l 0))
abbrev Zb:ay:=.g (.l 2) O .l (.c0 2 (.v 3))
abbrev Y9:ay:=.g (.l 2) O .l (.c0 1 (.v 3))
abbrev Wy:ay:=.g (.l 2) T .l (.j2 (.l 0))
abbrev VR:ay:=.g (.l 1) O .l (.c0 1 (.v 2))
abbrev ado:ay:=.g (.l 1) O .l (.c0 0 (.l 0))
abbrev Za:ay:=.g (.l 0) O .l (.c0 2 (.v 2))
abbrev QA:ay:=.g (.l 0) O .l (.c0 0 (.v 4))
abbrev OC:ay:=.i .l (.conv (.int .u64) (.l 0))
abbrev YV:ay:=.i (.v 9) (.load T 1 (.l 0))
abbrev PY:ay:=.g (.l 3) T .l (.a4 (.l 0))
abbrev YG:ay:=.g (.l 2) T .l (.a4 (.v 1))
abbrev adS:ay:=.g (.l 1) T .l (.a4 (.v 7))
abbrev WG:ay:=.g (.l 0) T .l (.a4 (.v 0))
abbrev XG:ay:=.i .n (.store 6 (.v 6) (.l 0))
abbrev V9:ay:=.i .n (.store 6 (.v 5) (.l 0))
abbrev Vr:ay:=.i .n (.store 5 (.v 5) (.l 0))
abbrev ZV:ay:=.i .n (.store 4 (.v 6) (.l 0))
abbrev Z9:ay:=.i .n (.store 4 (.v 4) (.l 0))
abbrev XO:ay:=.i .n (.store 3 (.v 9) (.l 1))
abbrev X2:ay:=.i .n (.store 3 (.v 8) (.l 0))
abbrev awS:ay:=.i .n (.store 3 (.v 4) (.l 2))
abbrev X9:ay:=.i .n (.store 3 (.v 1) (.l 1))
abbrev Ym:ay:=.i .n (.store 3 (.l 0) (.l 3))
abbrev ZW:ay:=.i .n (.store 2 (.v 3) (.l 0))
abbrev X7:ay:=.i .n (.store 1 (.l 0) (.l 3))
abbrev VE:ay:=.g (.l 4) O .l (.a4 (.v 1))
abbrev WH:ay:=.g (.l 0) O .l (.a4 (.v 3))
abbrev Qx:ay:=.g (.l 0) O .l (.a4 (.v 2))
abbrev tY:be:=.ops [j7,awu,fx,fy,rH,jC]
abbrev mg:be:=.ops [xB]
abbrev p8:be:=.ops [qM]
abbrev yQ:be:=.ops [cR,ry,jk]
abbrev sh:be:=.ops [yK]
abbrev AI:be:=.ops [fb,ry,jl]
abbrev VU:be:=.ops [bd,bd,cu,dB,aM,.i .l (.load O 6 (.v 2)),V6,.bZ [⟨ad,T,1,.l 3,(.l 2)⟩],awP,Pt,dB,l1]
abbrev ts:be:=.ops [tr]
abbrev yN:be:=.ops [cR,jv]
abbrev R9:be:=.ops [j7,LI,LF,fx,fy,rH,jC]
abbrev EO:be:=.ops [hK,ry,jT]
abbrev VZ:be:=.ops [cW,oL,cl,xv,Fy,xE,cl,u7,FE,xE,cl,u7,awF,Yl]
abbrev yO:be:=.ops [aww]
abbrev Vy:be:=.ops [cW,tp,cl,ED,VK,VL,awR,VM,awL,VN,VO,jv]
abbrev yP:be:=.ops [awv]
abbrev yR:be:=.ops [Jc]
abbrev FL:be:=.ops [fb,jk]
abbrev Aj:be:=.ops [FJ]
abbrev Vu:be:=.ops [bd,bd,cu,gU,aM,awH,awQ,Cm,gU,l1]
abbrev yS:be:=.ops [p6]
abbrev Kd:be:=.ops [awx,u0]
abbrev JX:be:=.ops [Ax,yK]
abbrev XY:be:=.ops [bd,po,bd,po,v5,v6,awS,p9]
abbrev X5:be:=.ops [bd,cu,kn,aM,mh,y9,kn,l1]
abbrev Vv:be:=.ops [bd,cu,gU,aM,Oe,mh,oK,yK]
abbrev IJ:be:=.ops [tr,p6]
abbrev VV:be:=.ops [bd,cu,dB,aM,yL,mh,jk,tr]
abbrev adH:be:=.ops [j7,Dh,LF,fx,fy,rH,jC]
abbrev EM:be:=.ops [awB]
abbrev EI:be:=.ops [awA]
abbrev Fe:be:=.ops [Ke]
abbrev XK:be:=.ops [bd,cu,gU,aM,Jg,awJ,awI]
abbrev Pv:be:=.ops [bd,Pj,jk]
abbrev VB:be:=.ops [bd,cu,gU,aM,cW,awO,N8]
abbrev VP:be:=.ops [.i (.v 2) (.box 6 (.v 1)),qM,tr]
abbrev ZQ:be:=.ops [bd,qa,aM,Sc,lC,Qo]
abbrev ZR:be:=.ops [bd,qa,aM,Sd,lC,Qo]
abbrev X8:be:=.ops [cR,od,aM,vZ,kn,l1]
abbrev XF:be:=.ops [Az,.i (.v 4) (.box 3 (.v 2))]
abbrev Yk:be:=.ops [.i (.v 3) (.box 1 (.v 2)),tr]
abbrev RW:be:=.ops [awK,adn]
abbrev Qw:be:=.ops [Qv,qM]
abbrev Jm:be:=.ops [awD]
abbrev Kg:be:=.ops [awC]
abbrev Ow:be:=.ops [awz,kA]
abbrev abe:be:=.ops [bd,gT,awG,IQ,mI]
abbrev Kc:be:=.ops [awy]
abbrev JC:be:=.ops [Oj]
abbrev OB:be:=.ops [bd,awE]
abbrev Z5:be:=.ops [.i (.v 3) (.box 4 (.v 1))]
abbrev Xz:be:=.ops [cW,gT,awN,jk]
abbrev XB:be:=.ops [cW,gT,awM,jk]
abbrev XA:be:=.ops [cW,gT,P8,jk]
abbrev mJ:e0:=.bin (.int j) .neq (.l 0) (.c (.int j 0))
abbrev EN:e0:=.alloc [.int j 0,.int j 0,.int j 0,.int j 0,.int j 0,.int j 0]
abbrev oc:e0:=.load T 1 (.l 0)
abbrev Di:e0:=.alloc [.int j 0,.int j 0,.aA]
abbrev Cu:e0:=.pick (.l 3) (.l 0) (.c (.bool T))
abbrev GQ:e0:=.bin (.int j) .neq (.l 0) (.c (.int j 4))
abbrev Fs:e0:=.bin (.int j) .eql (.l 0) (.c (.int j 0))
abbrev nE:e0:=.a4 (.l 0)
abbrev u9:e0:=.un .not (.l 0)
abbrev IP:e0:=.bin (.int j) .geq (.l 0) (.c (.int j 0))
abbrev J8:e0:=.bin (.int j) .eql (.l 0) (.c (.int j 4))
abbrev J0:e0:=.bin (.int j) .eql (.l 0) (.c (.int j 2))
abbrev FO:e0:=.bin (.int j) .lss (.l 3) (.l 0)
abbrev Qn:e0:=.alloc [.int j 0,.int j 0,.int j 0,.aA]
abbrev IW:e0:=.pick (.l 2) (.c (.bool O)) (.l 0)
abbrev JD:e0:=.alloc [.int j 0,.int j 0]
abbrev Kj:e0:=.bin (.int j) .lss (.l 2) (.l 0)
abbrev JB:e0:=.bin (.int j) .lss (.l 1) (.l 0)
abbrev Of:e0:=.bin (.int j) .eql (.l 0) (.c (.int j 20))
abbrev OK:e0:=.bin (.int j) .lss (.l 0) (.c (.int j 4))
abbrev JY:e0:=.bin (.int j) .lss (.l 0) (.c (.int j 0))
abbrev OL:e0:=.bin (.int j) .gtr (.l 0) (.c (.int j 0))
abbrev vb:e0:=.a4 (.l 1)
abbrev Ox:e0:=.call (.c (.fn 158 [] [])) [.l 1,.l 0]
abbrev CQ:e0:=.len T (o 109) (.l 0)
abbrev Ou:e0:=.pick (.l 5) (.l 0) (.c (.bool T))
abbrev KA:e0:=.pick (.l 2) (.l 0) (.c (.bool T))
abbrev RX:e0:=.pick (.l 11) (.c (.bool O)) (.l 0)
abbrev OI:e0:=.pick (.l 7) (.c (.bool O)) (.l 0)
abbrev Al:e0:=.pick (.l 4) (.c (.bool O)) (.l 0)
abbrev adl:e0:=.alloc [.int j 0,.int j 0,.int j 0,.int j 0,.aA]
abbrev CT:e0:=.bin (.int j) .gtr (.l 1) (.l 0)
abbrev FN:e0:=.a4 (.c (.int j 2))
abbrev Oa:e0:=.len T (o 35) (.l 0)
abbrev EE:e0:=.c0 0 (.l 0)
abbrev adA:e0:=.bin (.int j) .neq (.l 0) (.c (.int j 1))
abbrev Zj:e0:=.bin (.int j) .eql (.l 0) (.c (.int j 3))
abbrev F1:e0:=.a4 (.c (.int j 1))
abbrev PL:e0:=.alloc [.int j 0]
abbrev V2:e0:=.call (.c (.fn 112 [] [])) [.l 1,.l 0]
abbrev adL:e0:=.pick (.l 17) (.c (.bool O)) (.l 0)
abbrev P0:e0:=.pick (.l 8) (.c (.bool O)) (.l 0)
abbrev XN:e0:=.pick (.l 6) (.c (.bool O)) (.l 0)
abbrev adD:e0:=.pick (.l 5) (.c (.bool O)) (.l 0)
abbrev Wu:e0:=.pick (.l 3) (.c (.bool O)) (.l 0)
abbrev Sj:e0:=.load O 3 (.l 0)
abbrev FQ:e0:=.c0 2 (.v 4)
abbrev JS:e0:=.box 3 (.v 3)
abbrev adK:e0:=.fG ad (o (4,1)) (.l 0) (.l 2)
abbrev Zn:e0:=.call (.c (.fn 164 [] [])) [.l 0]
abbrev YX:e0:=.call (.c (.fn 143 [] [])) [.l 0]
abbrev X3:e0:=.bin (.int j) .neq (.l 4) (.l 0)
abbrev Zi:e0:=.bin (.int j) .neq (.l 1) (.l 0)
end Go.Proofs.YtkdbjfncchmmpaaGreat
