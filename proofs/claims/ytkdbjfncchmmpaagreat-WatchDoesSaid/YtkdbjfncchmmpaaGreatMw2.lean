/- A call does in memory what the plain model says: what is to be shown, and the steps of the machine. Statements whose order Go leaves open: the plain facts. Statements whose order Go leaves open: the run of a plan, step by step, and what of it is true in every order. The run of a plan seen from its end: what each operation looks at stays. In every order that Go leaves open a statement comes to what its plan comes to. The memory that a call made may be forgotten. What the plain model says of a call is what the machine does. -/
import Derived.Test.YtkdbjfncchmmpaaGreatMw1
import Derived.Orders
set_option linter.unusedSimpArgs false
set_option linter.unusedVariables false
set_option maxHeartbeats 4000000
set_option maxRecDepth 1000000
open List renaming replicate→ap,getElem?_eq_some_iff→fO,getElem?_eq_getElem→fT,getD→cZ,length_cons→ho,getElem?_append_right→l1,getElem_mem→jl,getElem?_append_left→l0,all_eq_true→jW,append_assoc→kS,getElem?_eq_none→mE,mem_range→kD,map_cons→kf,getElem?_cons_zero→oq,nil_append→l3,range→jG,mem_of_getElem?→o6,cons_append→nz,mem_cons→mJ,append_nil→ou,mem_map→nt,getElem?_cons_succ→sz,contains_eq_mem→tw,getElem?_set_ne→uP,getElem?_take_of_lt→v1,mem_singleton→xq,getElem?_map→xl
open Nat renaming le_refl→b9,lt_of_lt_of_le→fS,le_trans→e6,zero_add→ir,zero_le→mI,lt_or_ge→oj,add_assoc→rC
open Go.IntKind renaming i64→j
open Option renaming some→o,none→ag,bind_eq_some_iff→dX,map_eq_some_iff→ed,bind_some→du,map_some→i3,getD_some→qT
open Bool renaming false→U,true→J,and_eq_true→gv,false_eq_true→mF,or_eq_true→o3
open Go renaming TypeId→a9,Oper→bm,Program→c',Value→b',FuncId→di,World→dO,Operand→g7,execOp→f',undef→g0,Frame→g',lone→fr,Code→gu
open Array renaming getD_eq_getD_getElem?→jo
open Option.some renaming injEq→iF
open Go.Result renaming andThen_ok→i2
open Go.Sem renaming run_bind→i',run_pure→mD
open Prod.mk renaming injEq→kW
open Go.Op renaming operands→jb
open Go.Frame renaming enter→kC
open Go.Region renaming binds→lF,before→nQ
open Classical renaming not_not→rM
open Go.RowKit.Below renaming refl→nq
open Ne renaming symm→mG
open List.cons renaming injEq→yY
namespace Go.Proofs.YtkdbjfncchmmpaaGreat
variable{rest:List Nat}{u:b'}{dI:Bool}{gP:List jt}
open Go Go.RowKit
def AC(P:c')(g:di)(args:List F)(h:ai)(r:(F⊕F)×ai):Prop:=∀(m:ey) (w:dO) (bI:List b'),cp P m h w->eb P m h args bI->Calls P g bI.toArray w λe bj=>∃bf,Ext m h bf r.2/\cp P bf r.2 bj/\Below m.base w bj/\
   match r.1 with
   |.inl v=>∃u,e= .returned u/\b8 P bf r.2 v u
   |.inr v=>∃u,e= .panicked [{v:=u,recovered:=U}]/\b8 P bf r.2 v u
structure m0(P:c')(aa:iQ):Prop where
 ty:qR P
 name:∀(g:Nat) (fn:Func),P.funcs[g]? =o fn->aa.use g=J->(fn.name== "runtime.NumGoroutine")=U
 ext:∀g ah,aa.ext g=o ah->∃fn,P.funcs[g]? =o fn/\(fn.body.isNone=U/\(fn.name== "runtime.NumGoroutine")=U)/\∀args h r,ah args h=o r->AC P g args h r
 cM:∀(g:Nat) (fn:Func) (c:gu),P.funcs[g]? =o fn->fn.body=o c->aa.use g=J->i9 (aa.cM g) (aa.fy g) c=J
 mixed:P.follows .mixedOrders=J
 XJ:∀g e,e<2000000->aa.fy g (1000000+e)=J->(lp P e).isSome=J
 XK:∀g ty,aa.fy g (1000000+(ty+2000000))=J->aa.bh g ty=U/\aa.bh g (ty+1000000)=J
def fc(P:c')(S:Nat->Bool)(m:ey)(h:ai)(w:dO)(b:g')(cs:List g')(Ad:Machine)(r:k8×List F×ai):Prop:=∃bf bj,Ext m h bf r.2.2/\cp P bf r.2.2 bj/\Below m.base w bj/\
   match r.1 with
   |.ret=>∃(eR:Act) (todo:List Item),ep P bf r.2.2 r.2.1 eR.tmps/\eR.defers=b.defers/\Steps P Ad (fr {b.at eR todo with mode:=.returning} cs bj)
   |.panic v=>∃(eR:Act) (todo:List Item) (u:b'),(∃vX,ep P bf r.2.2 vX eR.tmps/\∀d,S d=J->vX.getD d .aD=r.2.1.getD d .aD)/\eR.defers=b.defers/\b8 P bf r.2.2 v u/\Steps P Ad (fr {b.at eR todo with mode:=.panicking [{v:=u,recovered:=U}]} cs bj)
   |.halt K=>∃(eR:Act),ep P bf r.2.2 r.2.1 eR.tmps/\eR.defers=b.defers/\Steps P Ad (fr (b.at eR K) cs bj)
section
variable{P:c'}{m cO bf:ey}{h I E:ai}{w cx bj:dO}{t:List F}{a:Act}{O:bm}{b:g'}{cs:List g'}{Ad XL:Machine}{r:k8×List F×ai}
theorem fc.steps{S:Nat->Bool}(aC:Steps P Ad XL)(aK:fc P S m h w b cs XL r):fc P S m h w b cs Ad r:=by
 obtain⟨bf,bj,I,R,aj,aH⟩:=aK;refine⟨bf,bj,I,R,aj,?_⟩;split at aH
 ·rename_i au;obtain⟨eR,todo,cF,cA,dK⟩:=aH;exact⟨eR,todo,cF,cA,aC.trans dK⟩
 ·rename_i v au;obtain⟨eR,todo,u,h5,cF,cA,dK⟩:=aH;exact⟨eR,todo,u,h5,cF,cA,aC.trans dK⟩
 ·rename_i K au;obtain⟨eR,cF,cA,dK⟩:=aH;exact⟨eR,cF,cA,aC.trans dK⟩
theorem fc.after{S:Nat->Bool}(aF:Ext m h cO I)(ad:Below m.base w cx)(aK:fc P S cO I cx b cs Ad r):fc P S m h w b cs Ad r:=by obtain⟨bf,bj,cF,cA,dK,dR⟩:=aK;exact⟨bf,bj,aF.trans cF,cA,ad.trans (by rw[<-aF.base];exact dK),dR⟩
theorem ep.clear(a6:ep P m h t a.tmps)(n:Nat):ep P m h (b2 n t) a.tmps:=by
 refine⟨by rw[a6.1,b2];simp;omega,λi af=>?_⟩;unfold b2 at af ⊢;by_cases ga:i<(t.take n).length
 ·rw[List.getElem_append_left ga,List.getElem_take];exact a6.2 i _
 ·rw[List.getElem_append_right (by omega)];simp only[List.getElem_replicate];exact .aD _
theorem Pw{all:Array bm}{i:Nat}{k:List Item}(aK:all[i]? =o O)(lb:Region.wanted O (yielded all a.tmps)=J)(au:(f' a.eval O).run P w= .ok (.value u) bj\/((f' a.eval O).run P w= .ok .skip bj/\u=g0)):Steps P (fr (b.at a (.inRegion all (i::rest)::k)) cs w) (fr (b.at (a.put O.dst u) (.inRegion all rest::k)) cs bj):=by
 have a5:=stepG_op (P:=P) (b:=b) (k:=k) (cs:=cs) (w:=w) (rest:=rest) aK lb;have pC:∀v,(b.at a (.inRegion all (i::rest)::k)).finish v=b.at (a.put O.dst v) (.inRegion all rest::k):=by intro v;rw[Frame.finish_at,aK];rfl
 refine .one (step_lone_go ?_);rcases au with au|⟨au,rfl⟩
 ·rw[a5,<-pC];simp[stepG.apply,au]
 ·rw[a5,<-pC];simp[stepG.apply,au]
theorem Px{all:Array bm}{i:Nat}{k:List Item}(aK:all[i]? =o O)(lb:Region.wanted O (yielded all a.tmps)=U):Steps P (fr (b.at a (.inRegion all (i::rest)::k)) cs w) (fr (b.at (a.put O.dst g0) (.inRegion all rest::k)) cs w):=by have aC:=step_op_skip (P:=P) (b:=b) (a:=a) (k:=k) (cs:=cs) (w:=w) (ops:=all) (i:=i) (rest:=rest) (by simp[aK];simpa using lb);simp only[aK,du]at aC;exact .one aC
theorem F3{all:Array bm}{i:Nat}{k:List Item}{f:di}{args:Array b'}{cJ:Ending->dO->Prop}(aK:all[i]? =o O)(lb:Region.wanted O (yielded all a.tmps)=J)(au:(f' a.eval O).run P w= .ok (.enter f args) w)(an:Calls P f args w cJ)(m1:∀bj,¬cJ .outgrown bj):∃e bj,cJ e bj/\((∃v,e= .returned v/\Steps P (fr (b.at a (.inRegion all (i::rest)::k)) cs w) (fr (b.at (a.put O.dst v) (.inRegion all rest::k)) cs bj))\/(∃hv,e= .panicked hv/\∃todo,Steps P (fr (b.at a (.inRegion all (i::rest)::k)) cs w) (fr {b.at a todo with mode:=.panicking hv} cs bj))):=by
 have a5:=stepG_op (P:=P) (b:=b) (k:=k) (cs:=cs) (w:=w) (rest:=rest) aK lb;have pC:∀v,(b.at a (.inRegion all (i::rest)::k)).finish v=b.at (a.put O.dst v) (.inRegion all rest::k):=by intro v;rw[Frame.finish_at,aK];rfl
 obtain⟨e,aoL,aM,hS,XM,_,XN⟩:=an (b.at a (.inRegion all (i::rest)::k)::cs);have XO:step P (fr (b.at a (.inRegion all (i::rest)::k)) cs w)= .next (fr (kC P f args .normal) (b.at a (.inRegion all (i::rest)::k)::cs) w):=step_lone_go (by rw[a5];simp[stepG.apply,au,Frame.at]);refine⟨e,aoL,hS,?_⟩;cases e with
 |returned v=>left;refine⟨v,rfl,.head XO (Steps.trans XM (.one ?_))⟩;rw[<-pC];exact step_leave_returned XN
 |panicked chain=>right;refine⟨chain,rfl,.inRegion all (i::rest)::k,.head XO (Steps.trans XM (.one ?_))⟩;rw[<-Frame.raise_at];exact step_leave_panicked XN
 |outgrown=>exact absurd hS (m1 _)
theorem Ae(a6:ep P m h t a.tmps)(all:Array bm)(O:bm){x:Bool}(hw:jk all t O=o x):Region.wanted O (yielded all a.tmps)=x:=by
 unfold jk at hw;unfold Region.wanted;split at hw
 ·rename_i a5;rw[a5];injection hw
 ·rename_i D want a5;rw[a5];simp only;split at hw
  ·rename_i d bg;have ba:t.getD d .aD≠.aD->d<t.length:=by
    intro ad;rcases oj d t.length with I|I
    ·exact I
    ·rw[cZ,mE I]at ad;exact absurd rfl ad
   have Z:=a6.get d;split at hw
   ·rename_i a0 ad;injection hw with hw;rw[ad]at Z;have Py:d<a.tmps.size:=by rw[a6.1];exact ba (by rw[ad];simp)
    have yO:a.tmps.getD d g0= .bool a0:=by revert Z;generalize a.tmps.getD d g0=q;intro Z;cases Z;rfl
    have aw:a.tmps[d]? =o (.bool a0):=by rw[<-yO];simp[Array.getD,Py]
    simp only[yielded,bg,du,aw];rw[<-hw];cases want<;>cases a0<;>rfl
   ·rename_i bI ad;injection hw with hw;rw[ad]at Z;have Py:d<a.tmps.size:=by rw[a6.1];exact ba (by rw[ad];simp)
    obtain⟨us,yO⟩:∃us,a.tmps.getD d g0= .tuple us:=by revert Z;generalize a.tmps.getD d g0=q;intro Z;cases Z;exact⟨_,rfl⟩
    have aw:a.tmps[d]? =o (.tuple us):=by rw[<-yO];simp[Array.getD,Py]
    simp only[yielded,bg,du,aw];rw[<-hw];cases want<;>rfl
   ·cases hw
  ·cases hw
theorem XP(a6:ep P m h t a.tmps){v:F}(az:oe t O=o v):∃u,b8 P m h v u/\(f' a.eval O).run P w= .halt (.panic u) w:=by
 unfold oe at az;split at az
 ·rename_i x aK;split at az
  ·rename_i q a' tu;injection az with az;subst az;have Z:=h4 a6 x;rw[tu]at Z;obtain⟨u,bV⟩:∃u,a.eval x=u:=⟨_,rfl⟩;rw[bV]at Z;cases Z with
   |iface _ _ g8 I=>refine⟨_,.iface q a' g8 I,?_⟩;unfold f';rw[aK];simp only[bV,Instr.panic];rfl
  ·cases az
 ·cases az
theorem XQ{all:Array bm}{i:Nat}{k:List Item}(aK:all[i]? =o O)(lb:Region.wanted O (yielded all a.tmps)=J)(au:(f' a.eval O).run P w= .halt (.panic u) w):Steps P (fr (b.at a (.inRegion all (i::rest)::k)) cs w) (fr {b.at a (.inRegion all (i::rest)::k)with mode:=.panicking [{v:=u,recovered:=U}]} cs w):=by have a5:=stepG_op (P:=P) (b:=b) (k:=k) (cs:=cs) (w:=w) (rest:=rest) aK lb;refine .one (step_lone_go ?_);rw[a5,<-Frame.raise_at];simp[stepG.apply,au]
theorem J5(a6:ep P m h t a.tmps){g:di}{args:List F}(an:gz t O=o (g,args)){fn:Func}(bo:P.funcs[g]? =o fn)(aA:(fn.name== "runtime.NumGoroutine")=U)(ad:fn.body.isNone=U):∃bI:List b',eb P m h args bI/\(f' a.eval O).run P w= .ok (.enter g bI.toArray) w:=by
 unfold gz at an;split at an
 ·rename_i DO DP XR aK;split at an
  ·rename_i fH first captured tu
   injection an with an;injection an with I R;subst I;subst R;have Z:=h4 a6 DO;rw[tu]at Z;obtain⟨u,bV⟩:∃u,a.eval DO=u:=⟨_,rfl⟩;rw[bV]at Z;cases Z with
   |fn _ l c ch eo aw ay be b1=>
     refine⟨ch++DP.toList.map a.eval++eo,eb.append (eb.append ⟨aw,be⟩ (eb.map λx _=>h4 a6 x)) ⟨ay,b1⟩,?_⟩;have c4:(ch.toArray++DP.map a.eval)++eo.toArray=(ch++DP.toList.map a.eval++eo).toArray:=by apply Array.ext';simp
     simp only[f',aK,bV,resolve,Deferred.ofValue,i',mD,i2,invoke,callFunc,run_program,bo,aA,ad,mF,if_false,c4]
  ·cases an
 ·cases an
theorem Af(hw:cp P m h w)(a6:ep P m h t a.tmps){fn:Func}{v:F}(Z:ry fn t h P=o v):∃u,(results fn a.tmps).run P w= .ok u w/\b8 P m h v u:=by
 unfold ry at Z;obtain⟨bI,fQ,rfl⟩:=ed.1 Z;have key:∀(rs:List ResultVar) (bI:List F),rx P t h rs=o bI->∃us:List b',(rs.mapM λ(x:ResultVar)=>(match x with
   |.tmp t=>pure (a.tmps.getD t g0)
   |.cell c t=>do loadVar t (<-asAddr (a.tmps.getD c g0)):Sem b')).run P w= .ok us w/\eb P m h bI us:=by
  intro rs;induction rs with
  |nil=>intro bI fQ;simp[rx]at fQ;subst fQ;exact⟨[],by simp,eb.nil⟩
  |cons x rs aR=>
    intro bI fQ;cases x with
    |tmp i=>simp only[rx]at fQ;obtain⟨l,am,rfl⟩:=ed.1 fQ;obtain⟨us,I,R⟩:=aR l am;exact⟨_,by simp only[List.mapM_cons,i',mD,i2,I],eb.cons (a6.get i) R⟩
    |cell i ty=>
      simp only[rx]at fQ;split at fQ
      ·cases fQ
      ·rename_i aA;obtain⟨v,Z,fQ⟩:=dX.1 fQ;obtain⟨l,am,rfl⟩:=ed.1 fQ;obtain⟨us,I,R⟩:=aR l am;have aF:=a6.get i;obtain⟨d,bg⟩:=Option.isSome_iff_exists.1 (by cases l2:P.underlying ty<;>simp_all:(P.underlying ty).isSome=J);obtain⟨i0,hg⟩:=Xe bg;have Pz:∃u,(do loadVar ty (<-asAddr (a.tmps.getD i g0)):Sem b').run P w= .ok u w/\b8 P m h v u:=by
        revert aF Z;generalize a.tmps.getD i g0=JN;generalize t.getD i .aD=ex;intro Z aF;obtain⟨W',vZ,dw,am,_⟩:=aF.O2;rw[<-am]at Z;cases vZ with
        |gM t b _ _=>exact absurd rfl (dw t b)
        |ptr b i off ad=>
          simp only[cR]at Z;rcases au:h.row b i with _|e
          ·simp[au]at Z
          ·simp only[au,du]at Z;obtain⟨ah,dJ⟩:=W9 hw au;obtain⟨u,I,R⟩:=JM (w:=w) ty bg (by rw[hg];simp) (m.cu b) (i*P.cellsOf (m.hQ b)) off e ah dJ Z;exact⟨u,by simp[asAddr,I],R⟩
        |ip e off g fP ah fb k'=>simp only[cR]at Z;obtain⟨u,I,R⟩:=JM (w:=w) (h:=h) (m:=m) ty bg (by rw[hg];simp) g fP off e ah (λD ae=>⟨hw.eP _ _ _ (fb D ae),k' D ae⟩) Z;exact⟨u,by simp[asAddr,I],R⟩
        |_=>simp[cR]at Z
       obtain⟨u,ns,l2⟩:=Pz;exact⟨_,by simp only[List.mapM_cons,i',i2,ns,I,mD],eb.cons l2 R⟩
 obtain⟨us,I,R⟩:=key _ _ fQ;unfold results;rw[Array.mapM_eq_mapM_toList];have mC:(do
   let bI <-(List.toArray<$>(fn.results.toList.mapM λ(x:ResultVar)=>(match x with
    |.tmp t=>pure (a.tmps.getD t g0)
    |.cell c t=>do loadVar t (<-asAddr (a.tmps.getD c g0)):Sem b')))
   pure (if h:bI.size=1 then bI[0]else .tuple bI):Sem b').run P w= .ok (if h:us.toArray.size=1 then us.toArray[0]else .tuple us.toArray) w:=by
  simp[I, -jo]
 refine⟨_,mC,?_⟩;by_cases am:us.length=1
 ·obtain⟨u,rfl⟩:=List.length_eq_one_iff.1 am;have BE:bI.length=1:=R.1.symm;obtain⟨v,rfl⟩:=List.length_eq_one_iff.1 BE;have:=R.2 0 (by simp) (by simp);simpa[ju]using this
 ·have BE:bI.length≠1:=by rw[<-R.1];exact am
  have aw:ju bI= .bS bI:=by
   unfold ju;split
   ·simp at BE
   ·rfl
  rw[aw,dif_neg (by simpa using am)];exact .bS _ _ R.1 R.2
end
open Go Go.RowKit
section
variable{P:c'}{t gG:List F}{h E:ai}{O:bm}{all:Array bm}{M:Array Nat}
theorem aoM{x:g7}(aF:∀d,x= .tmp d->t.getD d .aD=gG.getD d .aD):bM t x=bM gG x:=by
 cases x with
 |tmp d=>exact aF d rfl
 |_=>rfl
theorem J6(am:∀d∈O.looksAt all,t.getD d .aD=gG.getD d .aD):∀x∈O.op.operands,bM t x=bM gG x:=by intro x aF;refine aoM λd bg=>am d ?_;subst bg;exact List.mem_append_left _ (List.mem_filterMap.2 ⟨.tmp d,by simpa using aF,rfl⟩)
theorem J7(am:∀d∈O.looksAt all,t.getD d .aD=gG.getD d .aD):jk all t O=jk all gG O:=by
 unfold jk;split
 ·rfl
 ·rename_i D want a5;split
  ·rename_i d bg;rw[am d (List.mem_append_right _ (by simp[a5,bg]))]
  ·rfl
theorem PA(am:∀d∈O.looksAt all,t.getD d .aD=gG.getD d .aD):gz t O=gz gG O:=by
 have gD:=J6 am;unfold gz;split
 ·rename_i DO DP XR aK;rw[aK]at gD;have I:bM t DO=bM gG DO:=gD _ (by simp[jb,Call.operands]);have R:DP.toList.map (bM t)=DP.toList.map (bM gG):=List.map_congr_left λx aF=>gD _ (by simp[jb,Call.operands];exact .inr (by simpa using aF));rw[I,R]
 ·rfl
theorem aoN(am:∀d∈O.looksAt all,t.getD d .aD=gG.getD d .aD):oe t O=oe gG O:=by
 have gD:=J6 am;unfold oe;split
 ·rename_i x aK;rw[gD x (by simp[aK,jb])]
 ·rfl
theorem XS(e7:List (Nat×g7))(az:∀x∈e7.map (·.2),bM t x=bM gG x):(e7.map λq=>(q.1,bM t q.2))=e7.map λq=>(q.1,bM gG q.2):=List.map_congr_left λp hm=>by rw[az p.2 (nt.2 ⟨p,hm,rfl⟩)]
theorem XT(xs:Array g7)(az:∀x∈xs,bM t x=bM gG x):xs.toList.map (bM t)=xs.toList.map (bM gG):=List.map_congr_left λx aF=>az x (by simpa using aF)
theorem aoO(gD:∀x∈O.op.operands,bM t x=bM gG x):kB P t O=kB P gG O:=by
 unfold kB;split
 ·rename_i x aK;rw[gD x (by simp[aK,jb])]
 ·rename_i x aK;rw[gD x (by simp[aK,jb])]
 ·rename_i c x y aK;rw[gD c (by simp[aK,jb]),gD x (by simp[aK,jb]),gD y (by simp[aK,jb])]
 ·rename_i ty parts aK;rw[XS parts.toList λx aF=>gD x (by rw[aK];simp only[jb];simpa using aF)]
 ·rename_i x aK;rw[gD x (by simp[aK,jb])]
 ·rename_i op ty x y uG aK;rw[gD x (by simp[aK,jb]),gD y (by simp[aK,jb])]
 ·rename_i op ty x aK;rw[gD x (by simp[aK,jb])]
 ·rename_i src dst x aK;rw[gD x (by simp[aK,jb])]
 ·rename_i ty x aK;rw[gD x (by simp[aK,jb])]
 ·rename_i f first captured aK
  rw[XT first λx aF=>gD x (by simp[aK,jb,aF]),XT captured λx aF=>gD x (by simp[aK,jb,aF])]
 ·rename_i ty x iP af od aK;have I:bM t x=bM gG x:=gD x (by simp[aK,jb]);have R:iP.map (bM t)=iP.map (bM gG):=by
   cases iP with
   |none=>rfl
   |some l=>simp only[i3];rw[gD l (by simp[aK,jb])]
  have aj:af.map (bM t)=af.map (bM gG):=by
   cases af with
   |none=>rfl
   |some l=>simp only[i3];rw[gD l (by simp[aK,jb])]
  rw[I,R,aj]
 ·rename_i s x f aK;rw[gD x (by simp[aK,jb])]
 ·rename_i s x f aK;rw[gD x (by simp[aK,jb])]
 ·rename_i ty x bJ aK;rw[gD x (by simp[aK,jb]),gD bJ (by simp[aK,jb])]
 ·rename_i ty x bJ aK;rw[gD x (by simp[aK,jb]),gD bJ (by simp[aK,jb])]
 ·rename_i x FV aS ok aK;rw[gD x (by simp[aK,jb])]
 ·rename_i x i aK;rw[gD x (by simp[aK,jb])]
 ·rename_i args argTypes aK;have eA:∀x∈args.toList,bM t x=bM gG x:=λx aF=>gD x (by rw[aK];simp[jb,Call.operands];simpa using aF);split
  ·rename_i x ty rG aV tq;rw[eA x (by rw[aV];simp)]
  ·rfl
 ·rename_i args argTypes aK;have eA:∀x∈args.toList,bM t x=bM gG x:=λx aF=>gD x (by rw[aK];simp[jb,Call.operands];simpa using aF);split
  ·rename_i x y aV;rw[eA x (by rw[aV];simp),eA y (by rw[aV];simp)]
  ·rfl
 ·rename_i args argTypes aK;have eA:∀x∈args.toList,bM t x=bM gG x:=λx aF=>gD x (by rw[aK];simp[jb,Call.operands];simpa using aF);split
  ·rename_i x y aV;rw[eA x (by rw[aV];simp),eA y (by rw[aV];simp)]
  ·rfl
 ·rfl
theorem XU(bh:a9->Bool)(am:∀d∈O.looksAt all,t.getD d .aD=gG.getD d .aD):gk P bh t h O=gk P bh gG h O:=by
 have gD:=J6 am;have az:=aoO (P:=P) gD;clear am;unfold gk;split
 ·rfl
 ·rename_i e x aK;rw[gD x (by simp[aK,jb])]
 ·rename_i ty len parts aK;rw[XS parts.toList λx aF=>gD x (by rw[aK];simp only[jb];simpa using aF)]
 ·rename_i ty x aK;rw[gD x (by simp[aK,jb])]
 ·rename_i ty x y aK;rw[gD x (by simp[aK,jb]),gD y (by simp[aK,jb])]
 ·rename_i ty x y aK;rw[gD x (by simp[aK,jb]),gD y (by simp[aK,jb])]
 ·rename_i args argTypes aK;have eA:∀x∈args.toList,bM t x=bM gG x:=λx aF=>gD x (by rw[aK];simp[jb,Call.operands];simpa using aF);split
  ·rename_i x y ty vT aV tq;rw[eA x (by rw[aV];simp),eA y (by rw[aV];simp)]
  ·rfl
 ·rw[az]
theorem XV(bh:a9->Bool)(aC:og O=J)(aA:uA O=U)(h:ai):gk P bh t h O=(kB P t O).map λv=>(v,h):=by
 unfold gk;split
 all_goals first
  |rfl
  |(rename_i aK;simp[og,aK]at aC;done)
  |(rename_i aK;simp[uA,aK]at aA;done)
theorem aoP(bh:a9->Bool)(aC:og O=J){v:F}(he:gk P bh t h O=o (v,E)):E=h:=by
 by_cases aA:uA O=J
 ·unfold uA at aA;split at aA
  ·rename_i ty a aK;unfold gk at he;rw[aK]at he;simp only at he;split at he
   ·cases he
   ·obtain⟨u,_,he⟩:=ed.1 he;injection he with I R;exact R.symm
  ·cases aA
 ·rw[XV bh aC (by simpa using aA)]at he;obtain⟨u,_,he⟩:=ed.1 he;injection he with I R;exact R.symm
theorem aoQ(bh:a9->Bool)(aC:og O=J)(aA:uA O=U){v:F}(he:gk P bh t h O=o (v,h))(R:ai):gk P bh t R O=o (v,R):=by rw[XV bh aC aA]at he ⊢;obtain⟨u,bV,he⟩:=ed.1 he;injection he with I _;rw[bV,<-I];rfl
def o4(bh:a9->Bool)(O:bm):Bool:=og O||(match O.op with|.buildSlice ty _ _=> !bh ty&&bh (ty+1000000)|_=>U)
theorem PB{bh:a9->Bool}(aX:o4 bh O=J):og O=J\/∃ty len parts,O.op= .buildSlice ty len parts/\bh ty=U/\bh (ty+1000000)=J:=by
 unfold o4 at aX;rw[o3]at aX;refine aX.imp id λh=>?_;split at h
 ·rename_i ty len parts aK;rw[gv,Bool.not_eq_true']at h;exact⟨ty,len,parts,aK,h.1,h.2⟩
 ·cases h
theorem XW{dd:a9->Bool}(h:og O=J):uB dd O=J:=by unfold uB;rw[h];rfl
theorem PC{dd bh:a9->Bool}(F4:∀ty,dd (ty+2000000)=J->bh ty=U/\bh (ty+1000000)=J)(aX:uB dd O=J):o4 bh O=J:=by
 unfold uB at aX;unfold o4;rw[o3]at aX ⊢;refine aX.imp id λh=>?_;split at h
 ·rename_i ty len parts aK;rw[aK];obtain⟨a,b⟩:=F4 _ h;simp[a,b]
 ·cases h
theorem XX{bh:a9->Bool}{ty:a9}{len:Nat}{parts:Array (Nat×g7)}(aK:O.op= .buildSlice ty len parts)(I:bh ty=U)(R:bh (ty+1000000)=J)(h:ai):gk P bh t h O=((kN P ty).bind λe=>(lp P e).bind λz=>if len*dA P e<=16777216 then (qM (dA P e) (ap len z) (parts.toList.map λq=>(q.1,bM t q.2))).map λes=>.b5 ag e es else ag).map λv=>(v,h):=by
 unfold gk;rw[aK];simp only[I,R,if_true,mF,if_false];cases kN P ty with
 |none=>rfl
 |some e=>
   simp only[du];cases lp P e with
   |none=>rfl
   |some z=>
     simp only[du];split
     ·rw[Option.map_map];rfl
     ·rfl
theorem aoR(bh:a9->Bool)(aC:o4 bh O=J){v:F}(he:gk P bh t h O=o (v,E)):E=h:=by
 rcases PB aC with aC|⟨ty,len,parts,aK,I,R⟩
 ·exact aoP bh aC he
 ·rw[XX aK I R]at he;obtain⟨u,_,he⟩:=ed.1 he;injection he with I R;exact R.symm
theorem aoS(bh:a9->Bool)(aC:o4 bh O=J)(aA:uA O=U){v:F}(he:gk P bh t h O=o (v,h))(R:ai):gk P bh t R O=o (v,R):=by
 rcases PB aC with aC|⟨ty,len,parts,aK,aj,aH⟩
 ·exact aoQ bh aC aA he R
 ·rw[XX aK aj aH]at he ⊢;obtain⟨u,bV,he⟩:=ed.1 he;injection he with I _;rw[bV,<-I];rfl
end
open Go Go.RowKit
def BF(P:c')(aa:iQ)(f:di)(t:List F)(h:ai)(O:bm)(v:F)(E:ai):Prop:=(gz t O=ag/\gk P (aa.bh f) t h O=o (v,E))\/∃g args fn,gz t O=o (g,args)/\P.funcs[g]? =o fn/\(fn.body.isNone=U/\(fn.name== "runtime.NumGoroutine")=U)/\AC P g args h (.inl v,E)
def yP(P:c')(aa:iQ)(f:di)(all:Array bm)(q:bm×List bm)(t:List F)(h:ai)(dQ:List F)(E:ai):Prop:=(jk all t q.1=o U/\dQ=fN t q.1.dst (.bS [])/\E=h)\/(jk all t q.1=o J/\∃v,BF P aa f t h q.1 v E/\dQ=fN t q.1.dst v/\qN P all dQ E q.2)
def Ag(P:c')(all:Array bm)(O:bm)(t:List F)(h:ai)(v:F)(E:ai):Prop:=jk all t O=o J/\((oe t O=o v/\E=h)\/∃g args fn,gz t O=o (g,args)/\P.funcs[g]? =o fn/\(fn.body.isNone=U/\(fn.name== "runtime.NumGoroutine")=U)/\AC P g args h (.inr v,E))
inductive pD(P:c')(aa:iQ)(f:di)(all:Array bm):List (bm×List bm)->List F->ai->Option F->List F->ai->Prop
 |nil (t:List F) (h:ai):pD P aa f all [] t h ag t h
 |step (q:bm×List bm) (l:List (bm×List bm)) (t:List F) (h:ai) (t1:List F) (I:ai) (e:Option F) (dQ:List F) (E:ai):
   yP P aa f all q t h t1 I->pD P aa f all l t1 I e dQ E->pD P aa f all (q::l) t h e dQ E
 |stop (q:bm×List bm) (l:List (bm×List bm)) (t:List F) (h:ai) (v:F) (E:ai):Ag P all q.1 t h v E->pD P aa f all (q::l) t h (o v) t E
theorem pD.trace{P:c'}{aa:iQ}{f:di}{all:Array bm}{l:List (bm×List bm)}{t:List F}{h:ai}{e:Option F}{dQ:List F}{E:ai}(az:pD P aa f all l t h e dQ E):∃(N:Nat) (cK:Nat->List F) (aC:Nat->ai),N<=l.length/\cK 0=t/\aC 0=h/\cK N=dQ/\(∀i q,i<N->l[i]? =o q->yP P aa f all q (cK i) (aC i) (cK (i+1)) (aC (i+1)))/\(match e with|none=>N=l.length/\aC N=E|some v=>∃q,l[N]? =o q/\Ag P all q.1 (cK N) (aC N) v E):=by
 induction az with
 |nil t h=>exact⟨0,λ_=>t,λ_=>h,b9 _,rfl,rfl,rfl,λi q af=>by omega,rfl,rfl⟩
 |step q l t h t1 I e dQ E bW _ aR=>
   obtain⟨N,cK,aC,lJ,R,aj,aH,bq,cq⟩:=aR;refine⟨N+1,fun|0=>t|i+1=>cK i,fun|0=>h|i+1=>aC i,by simpa using lJ,rfl,rfl,aH,λi fk af aX=>?_,?_⟩
   ·cases i with
    |zero=>simp only[oq,iF]at aX;subst aX;show yP P aa f all q t h (cK 0) (aC 0);rw[R,aj];exact bW
    |succ i=>simp only[sz]at aX;exact bq i fk (by omega) aX
   ·cases e with
    |none=>exact⟨by simp[cq.1],cq.2⟩
    |some v=>obtain⟨fk,aX,yQ⟩:=cq;exact⟨fk,by simpa using aX,yQ⟩
 |stop q l t h v E bW=>exact⟨0,λ_=>t,λ_=>h,mI _,rfl,rfl,rfl,λi q af=>by omega,q,rfl,bW⟩
section
variable(all:Array bm)(pl:List (Nat×List Nat))
def fI(i:Nat):bm:=all.getD i default
def dG(k:Nat):Nat:=(pl.getD k default).1
def uN(k:Nat):List Nat:=(pl.getD k default).2
def dr(k:Nat):bm:=fI all (dG pl k)
def v3(all:Array bm)(dD:Nat->Nat->Prop)(i D:Nat):Prop:=mB (nQ all) i D=J\/dD i D
structure uO(dd:a9->Bool)(dD:Nat->Nat->Prop):Prop where
 cover:∀i,i<all.size->∃k,k<pl.length/\dG pl k=i
 lt:∀k,k<pl.length->dG pl k<all.size
 self:∀k d,k<pl.length->(dr all pl k).dst=o d->d ∉ (dr all pl k).looksAt all
 BG:∀D,D<all.size->∀e∈(fI all D).after,lF .any e=J->e.on<D
 mask:∀D i,D<all.size->i<all.size->mB (nQ all) i D=J->∃e∈(fI all D).after,lF .any e=J/\(e.on=i\/mB (nQ all) i e.on=J)
 ne:∀i D,i<D->D<pl.length->dG pl i≠dG pl D
 still:∀i D,i<D->D<pl.length->uB dd (dr all pl i)=J\/vU dd (dr all pl D)=J\/v3 all dD (dG pl i) (dG pl D)
 load:∀i D,i<D->D<pl.length->uB dd (dr all pl D)=J\/uA (dr all pl i)=U\/v3 all dD (dG pl i) (dG pl D)\/dG pl i∈uN pl D
 dst:∀i D d,i<D->D<pl.length->(dr all pl D).dst=o d->d ∉ (dr all pl i).looksAt all/\(dr all pl i).dst≠o d
 data:∀i D d,i<D->D<pl.length->(dr all pl i).dst=o d->d∈(dr all pl D).looksAt all->v3 all dD (dG pl i) (dG pl D)
structure xm(dd:a9->Bool)(dD:Nat->Nat->Prop):Prop where
 size:pl.length<=all.size
 cover:∀i,i<pl.length->∃k,k<pl.length/\dG pl k=i
 lt:∀k,k<pl.length->dG pl k<pl.length
 self:∀k d,k<pl.length->(dr all pl k).dst=o d->d ∉ (dr all pl k).looksAt all
 BG:∀D,D<all.size->∀e∈(fI all D).after,lF .any e=J->e.on<D
 mask:∀D i,D<all.size->i<all.size->mB (nQ all) i D=J->∃e∈(fI all D).after,lF .any e=J/\(e.on=i\/mB (nQ all) i e.on=J)
 ne:∀i D,i<D->D<pl.length->dG pl i≠dG pl D
 still:∀i D,i<D->D<pl.length->uB dd (dr all pl i)=J\/vU dd (dr all pl D)=J\/v3 all dD (dG pl i) (dG pl D)
 load:∀i D,i<D->D<pl.length->uB dd (dr all pl D)=J\/uA (dr all pl i)=U\/v3 all dD (dG pl i) (dG pl D)\/dG pl i∈uN pl D
 dst:∀i D d,i<D->D<pl.length->(dr all pl D).dst=o d->d ∉ (dr all pl i).looksAt all/\(dr all pl i).dst≠o d
 data:∀i D d,i<D->D<pl.length->(dr all pl i).dst=o d->d∈(dr all pl D).looksAt all->v3 all dD (dG pl i) (dG pl D)
end
theorem PD(dd:a9->Bool)(all:Array bm)(M:Array Nat):∀(pl:List (Nat×List Nat)),FM dd all M pl=J->∀i D,i<D->D<pl.length->JE dd all M (pl.getD i default) (pl.getD D default)=J
 |[],_,i,D,_,ae=>by simp at ae
 |x::r,az,i,D,hY,ae=>by
   simp only[FM,gv,jW]at az;obtain⟨D,rfl⟩:∃tv,D=tv+1:=⟨D - 1,by omega⟩;have dM:D<r.length:=by simpa using ae
   cases i with
   |zero=>have:r[D]∈r:=jl dM;have:=az.1 _ this;simpa[cZ,dM]using this
   |succ i=>have:=PD dd all M r az.2 i D (by omega) dM;simpa[cZ]using this
theorem aoT{n:Nat}{dd:a9->Bool}{all:Array bm}{pl:List (Nat×List Nat)}(aA:n<=all.size)(az:JF n dd all pl=J):pl.length=n/\xm all pl dd λ_ _=>False:=by
 unfold JF at az;simp only[gv]at az;obtain⟨⟨⟨⟨⟨⟨ak,I⟩,R⟩,o5⟩,aj⟩,aH⟩,bq⟩:=az;have ak:pl.length=n:=by simpa using ak
 rw[jW]at I R o5 aj;have v4:∀k,k<pl.length->pl.getD k default∈pl:=λk ab=>by simp only[cZ,fT ab,qT];exact jl ab
 have m2:∀i D,i<D->D<pl.length->_:=λi D hY ae=>PD dd all (nQ all) pl bq i D hY ae;unfold JE at m2;simp only[gv,bne_iff_ne,ne_eq]at m2;refine⟨ak,by omega,λi af=>?_,λk ab=>?_,λk d ab bg ga=>?_,λD ae e he ad=>?_,λD i ae af qd=>?_,λi D hY ae=>?_,λi D hY ae=>?_,λi D hY ae=>?_,λi D d hY ae bg=>?_,λi D d hY ae bg ga=>?_⟩
 ·have:=I i (kD.2 (by omega));rw[List.any_eq_true]at this;obtain⟨q,aX,h⟩:=this;obtain⟨k,ab,rfl⟩:=List.getElem_of_mem aX;exact⟨k,ab,by simpa[dG,cZ,ab]using h⟩
 ·have:=R _ (v4 k ab);have:=of_decide_eq_true this;rw[ak];exact this
 ·have:=o5 _ (v4 k ab);unfold dr fI dG at bg ga;rw[bg]at this;simp only[jo,List.getD_eq_getElem?_getD]at ga this;simp[tw,ga]at this
 ·have:=aj D (kD.2 ae);rw[Array.all_eq_true']at this;have:=this e he;simpa[ad]using this
 ·unfold DA at aH;rw[jW]at aH;have:=aH D (kD.2 ae);rw[jW]at this;have:=this i (kD.2 af);rw[qd]at this;simp only[Bool.not_true,Bool.false_or]at this;rw[Option.any_eq_true]at this;obtain⟨O,aK,cq⟩:=this;rw[Array.any_eq_true']at cq;obtain⟨e,he,de⟩:=cq;simp only[gv,decide_eq_true_eq,o3,beq_iff_eq]at de;refine⟨e,?_,de.1.1,de.2⟩;have:fI all D=O:=by simp[fI,jo,aK]
  rw[this];exact he
 ·exact(m2 i D hY ae).1.1.1.1.1.1
 ·have:=(m2 i D hY ae).1.1.1.2;have:(uB dd (dr all pl i)=J\/vU dd (dr all pl D)=J)\/mB (nQ all) (dG pl i) (dG pl D)=J:=by simpa[dr,fI,dG]using this
  exact this.elim (λh=>h.imp id .inl) λh=>.inr (.inr (.inl h))
 ·have:=(m2 i D hY ae).1.1.2;simp only[o3,Bool.not_eq_true',tw,decide_eq_true_eq]at this;unfold dr fI dG uN;rcases this with((h|h)|h)|h
  ·exact .inl h
  ·exact .inr (.inl h)
  ·exact .inr (.inr (.inl (.inl h)))
  ·exact .inr (.inr (.inr h))
 ·have:=(m2 i D hY ae).1.2;unfold dr fI dG at bg ⊢;rw[bg]at this;simpa[tw]using this
 ·have:=(m2 i D hY ae).2;unfold dr fI dG at bg ga;rw[bg]at this;simp only[jo,List.getD_eq_getElem?_getD]at ga this;exact .inl (by simpa[tw,ga,dG]using this)
open Go Go.RowKit
theorem XY{l m:List Nat}(h:l.Nodup)(aC:∀x∈l,x∈m):l.length<=m.length:=by
 induction l generalizing m with
 |nil=>simp
 |cons x l aR=>
   have aF:=aC x (by simp);rw[List.nodup_cons]at h;have R:∀y∈l,y∈m.erase x:=λy bH=>by have yR:=aC y (by simp[bH]);refine(List.mem_erase_of_ne ?_).2 yR;rintro rfl;exact h.1 bH
   have:=aR h.2 R;rw[List.length_erase_of_mem aF]at this;have:0<m.length:=List.length_pos_of_mem aF;simp only[ho];omega
theorem uO.len{dd:a9->Bool}{dD:Nat->Nat->Prop}{all:Array bm}{pl:List (Nat×List Nat)}(pp:uO all pl dd dD):pl.length=all.size:=by
 have fA:((jG pl.length).map (dG pl)).Nodup:=by rw[List.Nodup,List.pairwise_map];refine List.Pairwise.imp_of_mem ?_ List.pairwise_lt_range;intro a b _ ad sA;exact pp.ne a b sA (kD.1 ad)
 have I:=XY fA (m:=jG all.size) λx aF=>by obtain⟨k,ab,rfl⟩:=nt.1 aF;exact kD.2 (pp.lt k (kD.1 ab))
 have R:=XY (l:=jG all.size) List.nodup_range (m:=(jG pl.length).map (dG pl)) λx aF=>by obtain⟨k,ab,e⟩:=pp.cover x (kD.1 aF);exact nt.2 ⟨k,kD.2 ab,e⟩
 simp at I R;omega
theorem uO.toQ{dd:a9->Bool}{dD:Nat->Nat->Prop}{all:Array bm}{pl:List (Nat×List Nat)}(pp:uO all pl dd dD):xm all pl dd dD:=by have am:=pp.len;exact⟨by omega,λi af=>pp.cover i (by omega),λk ab=>by have:=pp.lt k ab;omega,pp.self,pp.BG,pp.mask,pp.ne,pp.still,pp.load,pp.dst,pp.data⟩
theorem aoU{dd:a9->Bool}{all:Array bm}{pl:List (Nat×List Nat)}(az:OU dd all pl=J):uO all pl dd λ_ _=>False:=by
 unfold OU at az;simp only[gv]at az;obtain⟨⟨⟨⟨I,R⟩,aj⟩,aH⟩,bq⟩:=az;rw[jW]at I R aj;have v4:∀k,k<pl.length->pl.getD k default∈pl:=λk ab=>by simp only[cZ,fT ab,qT];exact jl ab
 have m2:∀i D,i<D->D<pl.length->_:=λi D hY ae=>PD dd all (nQ all) pl bq i D hY ae;unfold JE at m2;simp only[gv,bne_iff_ne,ne_eq]at m2;refine⟨λi af=>?_,λk ab=>?_,λk d ab bg ga=>?_,λD ae e he ad=>?_,λD i ae af qd=>?_,λi D hY ae=>?_,λi D hY ae=>?_,λi D hY ae=>?_,λi D d hY ae bg=>?_,λi D d hY ae bg ga=>?_⟩
 ·have:=I i (kD.2 af);rw[List.any_eq_true]at this;obtain⟨q,aX,h⟩:=this;obtain⟨k,ab,rfl⟩:=List.getElem_of_mem aX;exact⟨k,ab,by simpa[dG,cZ,ab]using h⟩
 ·have:=R _ (v4 k ab);simp only[gv,decide_eq_true_eq]at this;exact this.1
 ·have:=R _ (v4 k ab);simp only[gv,decide_eq_true_eq]at this;have:=this.2;unfold dr fI dG at bg ga;rw[bg]at this;simp only[jo,List.getD_eq_getElem?_getD]at ga this;simp[tw,ga]at this
 ·have:=aj D (kD.2 ae);rw[Array.all_eq_true']at this;have:=this e he;simpa[ad]using this
 ·unfold DA at aH;rw[jW]at aH;have:=aH D (kD.2 ae);rw[jW]at this;have:=this i (kD.2 af);rw[qd]at this;simp only[Bool.not_true,Bool.false_or]at this;rw[Option.any_eq_true]at this;obtain⟨O,aK,cq⟩:=this;rw[Array.any_eq_true']at cq;obtain⟨e,he,de⟩:=cq;simp only[gv,decide_eq_true_eq,o3,beq_iff_eq]at de;refine⟨e,?_,de.1.1,de.2⟩;have:fI all D=O:=by simp[fI,jo,aK]
  rw[this];exact he
 ·exact(m2 i D hY ae).1.1.1.1.1.1
 ·have:=(m2 i D hY ae).1.1.1.2;have:(uB dd (dr all pl i)=J\/vU dd (dr all pl D)=J)\/mB (nQ all) (dG pl i) (dG pl D)=J:=by simpa[dr,fI,dG]using this
  exact this.elim (λh=>h.imp id .inl) λh=>.inr (.inr (.inl h))
 ·have:=(m2 i D hY ae).1.1.2;simp only[o3,Bool.not_eq_true',tw,decide_eq_true_eq]at this;unfold dr fI dG uN;rcases this with((h|h)|h)|h
  ·exact .inl h
  ·exact .inr (.inl h)
  ·exact .inr (.inr (.inl (.inl h)))
  ·exact .inr (.inr (.inr h))
 ·have:=(m2 i D hY ae).1.2;unfold dr fI dG at bg ⊢;rw[bg]at this;simpa[tw]using this
 ·have:=(m2 i D hY ae).2;unfold dr fI dG at bg ga;rw[bg]at this;simp only[jo,List.getD_eq_getElem?_getD]at ga this;exact .inl (by simpa[tw,ga,dG]using this)
open Go Go.RowKit
def yS(gG:List F)(O:bm)(v:F):Prop:=∀d,O.dst=o d->d<gG.length->gG.getD d .aD=v
def Ah(P:c')(aa:iQ)(f:di)(all:Array bm)(gG:List F)(O:bm)(h:ai):Prop:=o4 (aa.bh f) O=J/\((jk all gG O=o U/\yS gG O (.bS []))\/(jk all gG O=o J/\∃v,gk P (aa.bh f) gG h O=o (v,h)/\yS gG O v))
theorem PE{t:List F}{d:Option Tmp}{v:F}:(fN t d v).length=t.length:=by cases d<;>simp[fN]
theorem DQ{t:List F}{d:Option Tmp}{v:F}{D:Nat}(h:d≠o D):(fN t d v).getD D .aD=t.getD D .aD:=by
 cases d with
 |none=>rfl
 |some d=>have:d≠D:=λe=>h (by rw[e]);simp[fN,cZ,uP this]
theorem J8{t:List F}{d:Option Tmp}{v:F}{D:Nat}(h:d=o D)(ae:D<t.length):(fN t d v).getD D .aD=v:=by subst h;simp[fN,cZ,ae]
section
variable{P:c'}{aa:iQ}{f:di}{all:Array bm}{pl:List (Nat×List Nat)}{dd:a9->Bool}{dD:Nat->Nat->Prop}{N:Nat}{cK:Nat->List F}{aC:Nat->ai}
structure m3(P:c')(aa:iQ)(f:di)(all:Array bm)(pl:List (Nat×List Nat))(dd:a9->Bool)(dD:Nat->Nat->Prop)(N:Nat)(cK:Nat->List F)(aC:Nat->ai):Prop where
 cM:xm all pl dd dD
 le:N<=pl.length
 F4:∀ty,dd (ty+2000000)=J->aa.bh f ty=U/\aa.bh f (ty+1000000)=J
 step:∀k,k<N->yP P aa f all (dr all pl k,(uN pl k).map (fI all)) (cK k) (aC k) (cK (k+1)) (aC (k+1))
theorem yP.put{q:bm×List bm}{t dQ:List F}{h E:ai}(aC:yP P aa f all q t h dQ E):∃v,dQ=fN t q.1.dst v:=by
 rcases aC with⟨_,I,_⟩|⟨_,v,_,I,_⟩
 ·exact⟨_,I⟩
 ·exact⟨_,I⟩
theorem m3.len(T:m3 P aa f all pl dd dD N cK aC):∀k,k<=N->(cK k).length=(cK N).length:=by
 have:∀d k,k+d=N->(cK k).length=(cK N).length:=by
  intro d;induction d with
  |zero=>intro k ab;rw[<-ab];rfl
  |succ d aR=>intro k ab;rw[<-aR (k+1) (by omega)];obtain⟨v,Z⟩:=(T.step k (by omega)).put;rw[Z,PE]
 exact λk ab=>this (N - k) k (by omega)
theorem m3.g9(T:m3 P aa f all pl dd dD N cK aC)(d:Nat):∀cF n,cF+n<=N->(∀D,cF<=D->D<cF+n->(dr all pl D).dst≠o d)->(cK (cF+n)).getD d .aD=(cK cF).getD d .aD:=by
 intro cF n;induction n with
 |zero=>intro _ _;rfl
 |succ n aR=>intro hle m1;rw[<-aR (by omega) (λD I R=>m1 D I (by omega))];obtain⟨v,Z⟩:=(T.step (cF+n) (by omega)).put;rw[<-rC,Z];exact DQ (m1 (cF+n) (by omega) (by omega))
theorem xm.after(pp:xm all pl dd dD){k d:Nat}(ab:k<pl.length)(bg:d∈(dr all pl k).looksAt all){D:Nat}(I:k<=D)(R:D<pl.length):(dr all pl D).dst≠o d:=by
 intro he;rcases oj k D with h|h
 ·exact(pp.dst k D d h R he).1 bg
 ·obtain rfl:k=D:=by omega
  exact pp.self k d ab he bg
theorem m3.look(T:m3 P aa f all pl dd dD N cK aC){k:Nat}(ab:k<=N)(F5:k<pl.length){i:Nat}(Xj:k<=i)(af:i<=N):∀d∈(dr all pl k).looksAt all,(cK i).getD d .aD=(cK N).getD d .aD:=by intro d bg;have:=T.g9 d i (N - i) (by omega) (λD I R=>T.cM.after F5 bg (by omega) (by have:=T.le;omega));rw[show i+(N - i)=N by omega]at this;exact this.symm
theorem m3.res(T:m3 P aa f all pl dd dD N cK aC){k:Nat}(ab:k<N){v:F}(Z:cK (k+1)=fN (cK k) (dr all pl k).dst v):yS (cK N) (dr all pl k) v:=by intro d bg ba;have am:=T.le;have:=T.g9 d (k+1) (N - (k+1)) (by omega) (λD I R he=>(T.cM.dst k D d (by omega) (by omega) he).2 bg);rw[show k+1+(N - (k+1))=N by omega]at this;rw[this,Z];exact J8 bg (by rw[T.len k (by omega)];exact ba)
theorem m3.at(T:m3 P aa f all pl dd dD N cK aC){k:Nat}(ab:k<N):(jk all (cK N) (dr all pl k)=o U/\yS (cK N) (dr all pl k) (.bS [])/\aC (k+1)=aC k)\/(jk all (cK N) (dr all pl k)=o J/\∃v,BF P aa f (cK N) (aC k) (dr all pl k) v (aC (k+1))/\yS (cK N) (dr all pl k) v/\qN P all (cK (k+1)) (aC (k+1)) ((uN pl k).map (fI all))):=by
 have am:=T.le;have tx:=T.look (k:=k) (by omega) (by omega) (b9 k) (by omega);rcases T.step k ab with⟨I,R,aj⟩|⟨I,v,R,aj,aH⟩
 ·exact .inl ⟨by rw[<-J7 tx];exact I,T.res ab R,aj⟩
 ·refine .inr ⟨by rw[<-J7 tx];exact I,v,?_,T.res ab aj,aH⟩;rcases R with⟨aW,bD⟩|⟨g,args,fn,aW,bD⟩
  ·exact .inl ⟨by rw[<-PA tx];exact aW,by rw[<-XU (aa.bh f) tx];exact bD⟩
  ·exact .inr ⟨g,args,fn,by rw[<-PA tx];exact aW,bD⟩
theorem aoV{t:List F}{O:bm}(aC:og O=J):gz t O=ag:=by
 unfold gz;split
 ·rename_i aK;simp[og,aK]at aC
 ·rfl
theorem XZ{bh:a9->Bool}{t:List F}{O:bm}(aC:o4 bh O=J):gz t O=ag:=by
 rcases PB aC with aC|⟨ty,len,parts,aK,_⟩
 ·exact aoV aC
 ·simp[gz,aK]
theorem BF.still{t:List F}{h E:ai}{O:bm}{v:F}(aK:BF P aa f t h O v E)(aC:o4 (aa.bh f) O=J):gk P (aa.bh f) t h O=o (v,h)/\E=h:=by
 rcases aK with⟨_,R⟩|⟨g,args,fn,I,_⟩
 ·have:=aoR (aa.bh f) aC R;subst this;exact⟨R,rfl⟩
 ·rw[XZ aC]at I;cases I
theorem m3.same(T:m3 P aa f all pl dd dD N cK aC){k:Nat}(ab:k<N)(bW:o4 (aa.bh f) (dr all pl k)=J):aC (k+1)=aC k:=by
 rcases T.at ab with⟨_,_,h⟩|⟨_,v,h,_⟩
 ·exact h
 ·exact(h.still bW).2
theorem m3.late(T:m3 P aa f all pl dd dD N cK aC){k:Nat}(ab:k<N)(bW:o4 (aa.bh f) (dr all pl k)=J):Ah P aa f all (cK N) (dr all pl k) (aC k):=by
 refine⟨bW,?_⟩;rcases T.at ab with⟨I,R,_⟩|⟨I,v,R,aj,_⟩
 ·exact .inl ⟨I,R⟩
 ·exact .inr ⟨I,v,(R.still bW).1,aj⟩
theorem X0{bh:a9->Bool}{t:List F}{h:ai}{O:bm}:∀{l:List bm},o4 bh O=J->qN P all t h l->O∈l->jk all t O=o J->∃ty a d,O.op= .load ty a/\O.dst=o d/\cR (k7 P ty) (dA P ty) h (bM t a)=o (t.getD d .aD)
 |x::l,bW,an,hm,hw=>by
   unfold qN at an;rcases mJ.1 hm with rfl|hm
   ·have:=an.1;rw[hw]at this;simp only at this;split at this
    ·rename_i ty a d I R;exact⟨ty,a,d,I,R,this⟩
    ·rename_i I _;simp[o4,og,I]at bW
    ·exact this.elim
   ·exact X0 bW an.2 hm hw
theorem m3.JK(T:m3 P aa f all pl dd dD N cK aC){i k:Nat}(aoW:i<k)(ab:k<N)(az:¬v3 all dD (dG pl i) (dG pl k))(am:Ah P aa f all (cK N) (dr all pl i) (aC k)):Ah P aa f all (cK N) (dr all pl i) (aC (k+1)):=by
 have hle:=T.le;by_cases bW:o4 (aa.bh f) (dr all pl k)=J
 ·rw[T.same ab bW];exact am
 obtain⟨cD,c9⟩:=am;refine⟨cD,?_⟩;rcases c9 with c9|⟨c9,v,jx,ts⟩
 ·exact .inl c9
 refine .inr ⟨c9,?_⟩;rcases T.cM.load i k aoW (by omega)with h|h|h|h
 ·exact absurd (PC T.F4 h) bW
 ·exact⟨v,aoS (aa.bh f) cD h jx _,ts⟩
 ·exact absurd h az
 ·rcases T.at ab with⟨_,_,aj⟩|⟨_,a',_,_,qW⟩
  ·rw[aj];exact⟨v,jx,ts⟩
  ·have tx:=T.look (k:=i) (i:=k+1) (by omega) (by omega) (by omega) (by omega);obtain⟨ty,a,d,aw,ay,be⟩:=X0 cD qW (O:=dr all pl i) (nt.2 ⟨_,h,rfl⟩) (by rw[J7 tx];exact c9);have aoX:bM (cK (k+1)) a=bM (cK N) a:=J6 tx a (by simp[aw,jb]);have DJ:(cK (k+1)).getD d .aD=(cK N).getD d .aD:=by have:=T.g9 d (k+1) (N - (k+1)) (by omega) (λD I R he=>(T.cM.dst i D d (by omega) (by omega) he).2 ay);rw[show k+1+(N - (k+1))=N by omega]at this;exact this.symm
   refine⟨(cK N).getD d .aD,?_,λmf o1 _=>?_⟩
   ·unfold gk at jx ⊢;simp only[aw]at jx ⊢;split at jx
    ·cases jx
    ·rename_i aA;rw[if_neg aA,<-aoX,be,DJ];rfl
   ·rw[ay]at o1;injection o1 with o1;rw[o1]
end
open Go Go.RowKit
section
variable{P:c'}{aa:iQ}{f:di}{all:Array bm}{pl:List (Nat×List Nat)}{dd:a9->Bool}{dD:Nat->Nat->Prop}{N:Nat}{cK:Nat->List F}{aC:Nat->ai}
 {m bf:ey} {h E:ai} {w bj:dO} {t gG:List F} {a:Act} {b:g'} {cs:List g'} {K:List Item} {r:k8×List F×ai}
def sB(all:Array bm)(pl:List (Nat×List Nat))(li:Array Bool)(p:Nat)(d:Nat):Prop:=∀k,k<pl.length->(dr all pl k).dst=o d->li.getD (dG pl k) U=J/\k<p
open Classical in
noncomputable def qe(all:Array bm)(pl:List (Nat×List Nat))(li:Array Bool)(p:Nat)(gG:List F):List F:=(jG gG.length).map λd=>if sB all pl li p d then gG.getD d .aD else .aD
theorem nU{li:Array Bool}{p:Nat}:(qe all pl li p gG).length=gG.length:=by simp[qe]
theorem uQ{li:Array Bool}{p d:Nat}(au:sB all pl li p d):(qe all pl li p gG).getD d .aD=gG.getD d .aD:=by
 by_cases bg:d<gG.length
 ·simp[qe,cZ,bg,au]
 ·simp[qe,cZ,bg]
theorem DR{li:Array Bool}{p d:Nat}(au:¬sB all pl li p d):(qe all pl li p gG).getD d .aD= .aD:=by
 by_cases bg:d<gG.length
 ·simp[qe,cZ,bg,au]
 ·simp[qe,cZ,bg]
theorem aoY{li PF:Array Bool}{p i4:Nat}(h:∀d,sB all pl li p d↔sB all pl PF i4 d):qe all pl li p gG=qe all pl PF i4 gG:=by
 unfold qe;congr 1;funext d;by_cases au:sB all pl li p d
 ·rw[if_pos au,if_pos ((h d).1 au)]
 ·rw[if_neg au,if_neg λx=>au ((h d).2 x)]
theorem ep.of{bf:ey}{E:ai}{dQ:List F}{aS:Array b'}(am:aS.size=dQ.length)(Z:∀d,d<dQ.length->b8 P bf E (dQ.getD d .aD) (aS.getD d g0)):ep P bf E dQ aS:=by refine⟨am,λi af=>?_⟩;have:=Z i af;simpa[cZ,af]using this
theorem ep.slot{bf:ey}{E:ai}{dQ:List F}{aS:Array b'}(a6:ep P bf E dQ aS){d:Nat}(bg:d<dQ.length):b8 P bf E (dQ.getD d .aD) (aS.getD d g0):=by have:=a6.2 d bg;simpa[cZ,bg]using this
theorem Act.PG{a:Act}{d:Option Tmp}{D:Nat}(h:d≠o D):(a.put d u).tmps.getD D g0=a.tmps.getD D g0:=by
 cases d with
 |none=>rfl
 |some d=>have:d≠D:=λe=>h (by rw[e]);simp[Act.put,jo,Array.getElem?_setIfInBounds_ne this]
theorem lK{li:Array Bool}{i D:Nat}(af:i<li.size):(li.setIfInBounds i J).getD D U=if D=i then J else li.getD D U:=by
 by_cases ae:D=i
 ·subst ae;simp[jo,af]
 ·simp[jo,ae,Array.getElem?_setIfInBounds_ne (mG ae)]
theorem aoZ(pp:xm all pl dd dD){li:Array Bool}{p i4 k:Nat}(ab:k<pl.length)(ao0:dG pl k<li.size)(J9:p<=i4)(m1:∀D,p<=D->D<i4->D≠k->li.getD (dG pl D) U=U)(x:Ext m h bf E)(a6:ep P m h (qe all pl li p gG) a.tmps){v:F}(Z:b8 P bf E v u)(lr:yS gG (dr all pl k) v):ep P bf E (qe all pl (li.setIfInBounds (dG pl k) J) i4 gG) (a.put (dr all pl k).dst u).tmps:=by
 have I:=(a6.ext x).put (a:=a) Z (dr all pl k).dst;have hlen:(a.put (dr all pl k).dst u).tmps.size=gG.length:=by rw[I.1,PE,nU]
 refine ep.of (by rw[hlen,nU]) λd bg=>?_;have o1:d<gG.length:=by rw[nU]at bg;exact bg
 have R:=I.slot (d:=d) (by rw[PE,nU];exact o1);by_cases au:sB all pl (li.setIfInBounds (dG pl k) J) i4 d
 ·rw[uQ au];by_cases he:(dr all pl k).dst=o d
  ·rw[J8 he (by rw[nU];exact o1)]at R;rw[lr d he o1];exact R
  ·rw[DQ he,uQ (λD ae BH=>?_)]at R
   ·exact R
   ·obtain⟨bx,bL⟩:=au D ae BH;rw[lK ao0]at bx;have lL:D≠k:=λe=>he (by rw[<-e];exact BH);have dw:dG pl D≠dG pl k:=by
     intro e;rcases Nat.lt_trichotomy D k with h|h|h
     ·exact pp.ne D k h ab e
     ·exact lL h
     ·exact pp.ne k D h ae e.symm
    rw[if_neg dw]at bx;refine⟨bx,?_⟩;rcases oj D p with h|h
    ·exact h
    ·rw[m1 D h bL lL]at bx;cases bx
 ·rw[DR au];exact .aD _
theorem PH(pp:xm all pl dd dD){li:Array Bool}(lI:∀D,D<pl.length->li.getD D U=J->∀e∈(fI all D).after,lF .any e=J->li.getD e.on U=J):∀D,D<pl.length->(∀e∈(fI all D).after,lF .any e=J->li.getD e.on U=J)->∀i,i<pl.length->mB (nQ all) i D=J->li.getD i U=J:=by
 intro D;induction D using Nat.strongRecOn with
 |ind D aR=>
   intro ae he i af az;obtain⟨e,aw,ay,be⟩:=pp.mask D i (by have:=pp.size;omega) (by have:=pp.size;omega) az;have ba:=pp.BG D (by have:=pp.size;omega) e aw ay;rcases be with be|be
   ·rw[<-be];exact he e aw ay
   ·exact aR e.on ba (by omega) (lI e.on (by omega) (he e aw ay)) i af be
theorem xn{i:Nat}(af:i<all.size):all[i]? =o (fI all i):=by simp[fI,af]
theorem Act.DS(a:Act)(x:Option Tmp)(v:b'):(a.put x v).defers=a.defers:=by cases x<;>rfl
theorem ao1(pp:xm all pl dd dD){li:Array Bool}{p k:Nat}(ab:k<pl.length)(nV:k<=p)(qd:∀D,D<pl.length->v3 all dD (dG pl D) (dG pl k)->li.getD (dG pl D) U=J):∀d∈(dr all pl k).looksAt all,(qe all pl li p gG).getD d .aD=gG.getD d .aD:=by
 intro d bg;refine uQ λD ae BH=>?_;rcases oj D k with h|h
 ·exact⟨qd D ae (pp.data D k d h ab BH bg),by omega⟩
 ·exact absurd BH (pp.after ab bg h ae)
def ey.gO(m:ey)(al:Nat->Option Obj):ey:={m with gN:=al}
theorem b8.gO{al:Nat->Option Obj}{v:F}{u:b'}(r:b8 P m h v u):b8 P (m.gO al) h v u:=by
 induction r with
 |aD v=>exact .aD v
 |bool b=>exact .bool b
 |int k n=>exact .int k n
 |str l=>exact .str l
 |e'=>exact .e'
 |ptr b i off ad=>exact b8.ptr (m:=m.gO al) b i off ad
 |gM t b ad a6=>exact b8.gM (m:=m.gO al) t b ad a6
 |ip e off g O ah af Z aR=>exact b8.ip (m:=m.gO al) e off g O ah af aR
 |aJ=>exact .aJ
 |b5 id e es g O cap ah am af Z an a6 aR=>exact b8.b5 (m:=m.gO al) id e es g O cap ah am af aR an a6
 |oY e a cap=>exact .oY e a cap
 |bw b O n e cap ad he kQ aA kR=>exact b8.bw (m:=m.gO al) b O n e cap ad he kQ aA kR
 |fn g l c ch eo I R aj aH z8 sr=>exact .fn g l c ch eo I R z8 sr
 |oW=>exact .oW
 |iZ=>exact .iZ
 |iface t v a' I aR=>exact .iface t v a' aR
 |agg l ch I aj aR=>exact .agg l ch I aR
 |bS l ch I aj aR=>exact .bS l ch I aR
theorem ep.gO{al:Nat->Option Obj}{vX:Array b'}(r:ep P m h t vX):ep P (m.gO al) h t vX:=⟨r.1,λi af=>(r.2 i af).gO⟩
theorem Ext.gO(x:Ext m h bf E)(al:Nat->Option Obj):Ext (m.gO al) h (bf.gO al) E:=⟨x.base,x.n,x.ids,x.cu,x.eP,x.mY,λ_ _ h=>h⟩
theorem b8.by{al:Nat->Option Obj}(x:Ext (m.gO al) h (bf.gO al) E){v:F}(r:b8 P m h v u):b8 P bf E v u:=((r.gO (al:=al)).ext x).gO (al:=bf.gN)
theorem cp.gO(hw:cp P m h w){al:Nat->Option Obj}(g1:∀g x,al g=o x->m.gN g=o x):cp P (m.gO al) h w where
 size:=hw.size
 lt:=hw.lt
 live:=λb es ad=>by obtain⟨cs,I,R,aj,aH,bq⟩:=hw.live b es ad;exact⟨cs,I,R,aj,aH,λi af D ae=>by obtain⟨v,a,b⟩:=bq i af D ae;exact⟨v,a,b.gO⟩⟩
 inj:=hw.inj
 eP:=hw.eP
 sep:=hw.sep
 rB:=hw.rB
 p8:=hw.p8
 oZ:=hw.oZ
 qP:=hw.qP
 cY:=hw.cY
 gN:=λg x aF=>hw.gN g x (g1 g x aF)
theorem cp.aD(hw:cp P m h w)(O:Obj):cp P (m.gO λg=>if g=w.heap.size then o O else m.gN g) h (w.alloc O):=by
 have gT:=hw.new ((iR.refl _ w).alloc O);refine{gT with live:=λb es ad=>?_,gN:=λg x aF=>?_}
 ·obtain⟨cs,I,R,aj,aH,bq⟩:=gT.live b es ad;exact⟨cs,I,R,aj,aH,λi af D ae=>by obtain⟨v,a,b⟩:=bq i af D ae;exact⟨v,a,b.gO⟩⟩
 ·have aF:(if g=w.heap.size then o O else m.gN g)=o x:=aF;by_cases e:g=w.heap.size
  ·rw[if_pos e]at aF;injection aF with aF;subst aF;subst e;refine⟨hw.size,(by show(w.heap.push O)[w.heap.size]? =o O;simp),λb es ad e=>?_,λk ab e=>?_,λfP=>?_⟩
   ·have:=hw.below ad;have e:m.cu b=w.heap.size:=e;omega
   ·have:=(hw.tm ab).2;have e:m.jU k=w.heap.size:=e;omega
   ·show m.eP w.heap.size fP=ag;rcases af:m.eP w.heap.size fP with _|v
    ·rfl
    ·have:=hw.tl af;omega
  ·rw[if_neg e]at aF;exact gT.gN g x aF
theorem cp.ao2(hw:cp P m h w){z:Nat}{e:a9}{mK:List F}{u:Array b'}(aB:m.gN z=o (.cells u e))(bV:u.size=mK.length)(am:mK.length=P.cellsOf e)(au:eb P m h mK u.toList):∃bf,(∀al,Ext (m.gO al) h (bf.gO al) (h.push [mK]))/\cp P bf (h.push [mK]) w/\bf.cu h.n=z/\bf.hQ h.n=e/\bf.gN=λg=>if g=z then ag else m.gN g:=by
 obtain⟨ei,fd,ha,l4,j8⟩:=hw.gN z _ aB;refine⟨{m with cu:=λb=>if b=h.n then z else m.cu b,hQ:=λb=>if b=h.n then e else m.hQ b,oX:=λb=>if b=h.n then u.size else m.oX b,gN:=λg=>if g=z then ag else m.gN g},?_,?_,by simp,by simp,rfl⟩
 ·exact λal=>⟨rfl,by simp[ai.push],by simp[ai.push],λb ad=>by simp[ey.gO,show b≠h.n by omega],λ_ _ _ h=>h,λk ab=>⟨rfl,b9 _,λ_=>⟨rfl,rfl⟩⟩,λ_ _ h=>h⟩
 ·have aF:∀al,Ext (m.gO al) h (ey.gO {m with cu:=λb=>if b=h.n then z else m.cu b,hQ:=λb=>if b=h.n then e else m.hQ b,oX:=λb=>if b=h.n then u.size else m.oX b,gN:=λg=>if g=z then ag else m.gN g} al) (h.push [mK]):=
   λal=>⟨rfl,by simp[ai.push],by simp[ai.push],λb ad=>by simp[ey.gO,show b≠h.n by omega],λ_ _ _ h=>h,λk ab=>⟨rfl,b9 _,λ_=>⟨rfl,rfl⟩⟩,λ_ _ h=>h⟩
  have fF:∀b x,(h.push [mK]).cell b=o x->b≠h.n->h.cell b=o x:=by intro b x ad dw;simpa[ai.push,dw]using ad
  have new:∀b x,(h.push [mK]).cell b=o x->b=h.n->x=[mK]:=by intro b x ad he;subst he;simp[ai.push]at ad;exact ad.symm
  refine⟨hw.size,λb x ad=>?_,λb x ad=>?_,λb gl x kP ad lZ he=>?_,hw.eP,λb x ad O=>?_,hw.rB,hw.p8,λk ab b x ad=>?_,hw.qP,hw.cY,λg x ae=>?_⟩
  ·by_cases ie:b=h.n
   ·subst ie;exact⟨by simp[ai.push],by simpa using ei⟩
   ·have:=hw.lt b x (fF b x ad ie);exact⟨by simp[ai.push];omega,by simpa[ie]using this.2⟩
  ·by_cases ie:b=h.n
   ·subst ie;have:=new _ _ ad rfl;subst this;refine⟨u,by simpa[lG]using fd,by simp,by simpa using am,by simp;omega,λi af D ae=>?_⟩;have hg:i=0:=by simpa using af
    subst hg;have dM:D<mK.length:=by simpa using ae
    refine⟨u[D]'(by omega),by simp,?_⟩;have:=au.2 D dM (by simp;omega);exact b8.by (aF λ_=>ag) (by simpa using this)
   ·obtain⟨hB,I,R,aj,aH,bq⟩:=hw.live b x (fF b x ad ie);refine⟨hB,by simpa[ie]using I,by simpa[ie]using R,by simpa[ie]using aj,by simpa[ie]using aH,λi af D ae=>?_⟩;obtain⟨v,cq,de⟩:=bq i af D ae;exact⟨v,by simpa[ie]using cq,b8.by (aF λ_=>ag) de⟩
  ·by_cases I:b=h.n<;>by_cases R:gl=h.n
   ·omega
   ·simp[I,R]at he;exact absurd he.symm (ha _ _ (fF _ _ lZ R))
   ·simp[I,R]at he;exact absurd he (ha _ _ (fF _ _ ad I))
   ·simp[I,R]at he;exact hw.inj b gl x kP (fF _ _ ad I) (fF _ _ lZ R) he
  ·by_cases I:b=h.n
   ·simp only[I,if_true];exact j8 O
   ·simp only[I,if_false];exact hw.sep b x (fF _ _ ad I) O
  ·by_cases I:b=h.n
   ·simp only[I,if_true];exact λe=>l4 k ab e.symm
   ·simp only[I,if_false];exact hw.oZ k ab b x (fF _ _ ad I)
  ·have ae:(if g=z then ag else m.gN g)=o x:=ae;by_cases aw:g=z
   ·rw[if_pos aw]at ae;cases ae
   ·rw[if_neg aw]at ae;obtain⟨aP,a2,bl,cr,ej⟩:=hw.gN g x ae;refine⟨aP,a2,λb y ad=>?_,cr,ej⟩;by_cases I:b=h.n
    ·simp only[I,if_true];exact λe=>aw e.symm
    ·simp only[I,if_false];exact bl b y (fF _ _ ad I)
def ao3(P:c')(all:Array bm)(pl:List (Nat×List Nat))(aL:Nat->Option Obj)(a:Act)(m:ey)(z k:Nat):Prop:=∃e d mK u,(dr all pl k).op= .alloc e/\(dr all pl k).guard=ag/\(dr all pl k).dst=o d/\lp P e=o mK/\u.size=mK.length/\mK.length=P.cellsOf e/\(∀m h,eb P m h mK u.toList)/\aL z=ag/\m.gN z=o (.cells u e)/\(d<a.tmps.size->a.tmps.getD d g0= .pointer (o ⟨z,0,ag⟩))
theorem PI{dd:a9->Bool}{O:bm}(aA:vU dd O=J):∃e d,O.op= .alloc e/\O.guard=ag/\O.dst=o d/\dd e=J/\e<2000000:=by
 unfold vU at aA;split at aA
 ·rename_i e d I R aj;rw[gv,decide_eq_true_eq]at aA;exact⟨e,d,I,R,aj,aA⟩
 ·cases aA
theorem ao4{dd:a9->Bool}{bh:a9->Bool}{O:bm}(aA:vU dd O=J):o4 bh O=U:=by obtain⟨e,d,I,_⟩:=PI aA;simp[o4,og,I]
theorem ao5(hl:qR P)(O:bm)(e:a9)(aK:O.op= .alloc e){z:List F}(aB:lp P e=o z)(a:Act)(w:dO):∃u:Array b',(f' a.eval O).run P w= .ok (.value (.pointer (o ⟨w.heap.size,0,ag⟩))) (w.alloc (.cells u e))/\u.size=z.length/\z.length=P.cellsOf e/\∀m h,eb P m h z u.toList:=by obtain⟨i,v,af,Z,am,aC,au,mC⟩:=f9 (m:=⟨0,λ_=>0,λ_=>0,λ_=>0,λ_ _=>ag,λ_=>0,λ_=>0,λ_=>0,λ_=>ag⟩) (h:=⟨0,λ_=>ag,0,λ_=>0⟩) (w:=w) hl aB;refine⟨v.cells,by simp[f',aK,Instr.alloc,mC,newVar,newRow],by omega,am,λm h=>?_⟩;obtain⟨hh,b6,iG,iq,_,_,rE,_⟩:=f9 (m:=m) (h:=h) (w:=w) hl aB;rw[af]at iG;injection iG with iG;subst iG;rw[Z]at iq;injection iq with iq;rw[iq];exact rE
inductive BI(n:Nat)(all:Array bm)(dD:Nat->Nat->Prop):Array Bool->List Nat->Prop
 |nil (li:Array Bool):(∀i,i<n->li.getD i U=J)->BI n all dD li []
 |cons (li:Array Bool) (i:Nat) (L:List Nat):i<n->li.getD i U=U->(∀e∈(fI all i).after,lF .any e=J->li.getD e.on U=J)->(∀D,dD D i->li.getD D U=J)->
   BI n all dD (li.setIfInBounds i J) L->BI n all dD li (i::L)
abbrev mg(all:Array bm)(dD:Nat->Nat->Prop):Array Bool->List Nat->Prop:=BI all.size all dD
theorem J'(xo:∀D,D<all.size->∀e∈(fI all D).after,lF .any e=J->e.on<D):∀(fuel u:Nat) (li:Array Bool),li.size=all.size->li.toList.countP (λx=> !x)<=fuel->mg all (λ_ _=>False) li (Region.linearise.go .any all fuel u li []):=by
 intro fuel;induction fuel with
 |zero=>
   intro u li fa bo;simp only[Region.linearise.go,List.reverse_nil];refine .nil _ λi af=>?_;have:=List.countP_eq_zero.1 (Nat.le_zero.1 bo) (li[i]'(by omega)) (by simp);have it:i<li.size:=by omega
   simpa[jo,it]using this
 |succ fuel aR=>
   intro u li fa bo;simp only[Region.linearise.go];change mg all _ li (match(Region.ready .any all li)[u % (Region.ready .any all li).length]? with
    |some i=>Region.linearise.go .any all fuel (u / (Region.ready .any all li).length) (li.setIfInBounds i J) [i]
    |none=>[].reverse)
   cases af:(Region.ready .any all li)[u % (Region.ready .any all li).length]? with
   |none=>
     have ao6:Region.ready .any all li=[]:=by
      cases au:Region.ready .any all li with
      |nil=>rfl
      |cons x xs=>rw[au]at af;have ba:u % (x::xs).length<(x::xs).length:=Nat.mod_lt _ (by simp);simp at af;simp at ba;omega
     simp only[List.reverse_nil];refine .nil _ ?_;intro i;induction i using Nat.strongRecOn with
     |ind i ao7=>
       intro fb;rcases aF:li.getD i U with _|_
       ·have ga:i∈Region.ready .any all li:=by
         rw[mem_ready];have it:i<li.size:=by omega
         exact⟨by simpa[jo,it]using aF,fI all i,xn fb,λe he ad=>ao7 e.on (xo i fb e he ad) (by have:=xo i fb e he ad;omega)⟩
        rw[ao6]at ga;cases ga
       ·rfl
   |some i=>
     simp only[];rw[linearise_go_acc,List.reverse_singleton,List.singleton_append];have ga:=o6 af;rw[mem_ready]at ga;obtain⟨BD,O,aK,F6⟩:=ga;have fb:i<all.size:=(Array.getElem?_eq_some_iff.1 aK).1;have tp:fI all i=O:=by simp[fI,jo,aK]
     have it:i<li.size:=by omega
     have Ai:li.getD i U=U:=by simpa[jo,it]using BD
     refine .cons _ _ _ fb Ai (by rw[tp];exact F6) (λ_ h=>h.elim) (aR _ _ (by simpa using fa) ?_);have aB:(li.toList)[i]'(by simpa using it)=U:=by simpa[jo,it]using Ai
     have:=List.countP_set (p:=λx=> !x) (l:=li.toList) (i:=i) (a:=J) (by simpa using it);simp only[aB,Bool.not_false,Bool.not_true,if_true,mF,if_false,Nat.add_zero]at this;simp only[Array.toList_setIfInBounds];omega
structure Aj(P:c')(aa:iQ)(f:di)(all:Array bm)(pl:List (Nat×List Nat))(dd:a9->Bool)(dD:Nat->Nat->Prop)(N:Nat)(cK:Nat->List F)(aC:Nat->ai)(b:g')(aL:Nat->Option Obj)(li:Array Bool)(p:Nat)(nw:Nat->Nat)(m:ey)(a:Act)(w:dO):Prop where
 le:p<=N
 e4:li.size=all.size
 mh:∀D,D<pl.length->li.getD D U=J->∀e∈(fI all D).after,lF .any e=J->li.getD e.on U=J
 Ka:∀D,D<pl.length->li.getD D U=J->∀i,dD i D->li.getD i U=J
 cD:∀k,k<pl.length->li.getD (dG pl k) U=J->k<p\/vU dd (dr all pl k)=J
 c9:∀k,k<p->li.getD (dG pl k) U=U->Ah P aa f all (cK N) (dr all pl k) (aC p)
 jx:∀k,p<=k->k<pl.length->li.getD (dG pl k) U=J->ao3 P all pl aL a m (nw k) k
 inj:∀k ee,p<=k->p<=ee->k<pl.length->ee<pl.length->li.getD (dG pl k) U=J->li.getD (dG pl ee) U=J->nw k=nw ee->k=ee
 w:cp P m (aC p) w
 t:ep P m (aC p) (qe all pl li p (cK N)) a.tmps
 d:a.defers=b.defers
 D:∀g x,aL g=o x->m.gN g=o x
theorem Aj.pre{aL:Nat->Option Obj}{li:Array Bool}{p:Nat}{nw:Nat->Nat}(T:m3 P aa f all pl dd dD N cK aC)(bK:Aj P aa f all pl dd dD N cK aC b aL li p nw m a w){i D:Nat}(af:i<pl.length)(ae:D<pl.length)(am:li.getD (dG pl D) U=J)(az:v3 all dD (dG pl i) (dG pl D)):li.getD (dG pl i) U=J:=az.elim (PH T.cM bK.mh _ (T.cM.lt D ae) (bK.mh _ (T.cM.lt D ae) am) _ (T.cM.lt i af)) (bK.Ka _ (T.cM.lt D ae) am _)
theorem Aj.X1{aL:Nat->Option Obj}{li:Array Bool}{p:Nat}{nw:Nat->Nat}(T:m3 P aa f all pl dd dD N cK aC)(bK:Aj P aa f all pl dd dD N cK aC b aL li p nw m a w):∀n,p+n<=N->(∀D,p<=D->D<p+n->li.getD (dG pl D) U=U->o4 (aa.bh f) (dr all pl D)=J)->∃cO,Ext (m.gO aL) (aC p) (cO.gO aL) (aC (p+n))/\Aj P aa f all pl dd dD N cK aC b aL li (p+n) nw cO a w:=by
 intro n;induction n with
 |zero=>exact λ_ _=>⟨m,Ext.refl _ _,bK⟩
 |succ n aR=>
   intro hle bW;obtain⟨cO,cb,jH⟩:=aR (by omega) λD I R=>bW D I (by omega);have X2:=T.le;have aX:p+n<N:=by omega
   rcases aF:li.getD (dG pl (p+n)) U with _|_
   ·have nr:=bW (p+n) (by omega) (by omega) aF;have Kb:=T.same aX nr;rw[<-rC,Kb];refine⟨cO,cb,⟨by omega,jH.e4,jH.mh,jH.Ka,λk ab am=>(jH.cD k ab am).imp (λh=>by omega) id,λk ab aA=>?_,λk ab=>jH.jx k (by omega),λk ee ab jZ=>jH.inj k ee (by omega) (by omega),by rw[Kb];exact jH.w,?_,jH.d,jH.D⟩⟩
    ·rw[Kb];rcases oj k (p+n)with h|h
     ·exact jH.c9 k h aA
     ·obtain rfl:k=p+n:=by omega
      exact T.late aX nr
    ·rw[Kb,aoY (PF:=li) (i4:=p+n) λd=>⟨λau k ab bg=>?_,λau k ab bg=>⟨(au k ab bg).1,by have:=(au k ab bg).2;omega⟩⟩]
     ·exact jH.t
     ·obtain⟨bx,bL⟩:=au k ab bg;refine⟨bx,?_⟩;have:k≠p+n:=λe=>by rw[e,aF]at bx;cases bx
      omega
   ·obtain⟨e,d,mK,u,bz,bG,et,e8,hL,rI,m4,yT,PJ,ao8⟩:=jH.jx (p+n) (b9 _) (by omega) aF;rcases T.at aX with⟨aP,_⟩|⟨_,v,a2,bl,_⟩
    ·simp[jk,bG]at aP
    rcases a2 with⟨_,a2⟩|⟨g,args,fn,aW,_⟩
    ·unfold gk at a2;rw[bz]at a2;simp only[e8,i3,iF,kW]at a2;obtain⟨cI,b6⟩:=a2;obtain⟨c8,fU,jV,ls,ot,m5⟩:=jH.w.ao2 PJ hL rI (m4 cO _);rw[b6]at fU jV;have px:(aC (p+n)).n<(aC (p+n+1)).n:=by rw[<-b6];simp[ai.push]
     rw[<-rC];refine⟨c8,cb.trans (fU aL),⟨by omega,jH.e4,jH.mh,jH.Ka,λk ab am=>(jH.cD k ab am).imp (λh=>by omega) id,λk ab aA=>?_,λk ab F5 am=>?_,λk ee ab jZ=>jH.inj k ee (by omega) (by omega),jV,?_,jH.d,λg x a5=>?_⟩⟩
     ·have aDx:k≠p+n:=λe=>by rw[e,aF]at aA;cases aA
      exact T.JK (by omega) aX (λaz=>by have:=jH.pre T (by omega) (by omega) aF az;rw[aA]at this;cases this) (jH.c9 k (by omega) aA)
     ·obtain⟨dT,mf,F7,g8,dB,gm,iu,kj,sC,hZ,hx,DT,Ak,F8⟩:=jH.jx k (by omega) F5 am;refine⟨dT,mf,F7,g8,dB,gm,iu,kj,sC,hZ,hx,DT,?_,F8⟩;rw[m5];simp only;rw[if_neg λe=>by have:=jH.inj k (p+n) (by omega) (b9 _) F5 (by omega) am aF e;omega];exact Ak
     ·refine ep.of (by rw[jH.t.1,nU,nU]) λq pA=>?_;have BJ:q<(cK N).length:=by rw[nU]at pA;exact pA
      by_cases au:sB all pl li (p+n+1) q
      ·rw[uQ au];by_cases Kc:q=d
       ·subst Kc;rw[bl q et BJ,ao8 (by rw[jH.t.1,nU];exact BJ),<-cI];split
        ·have:=b8.gM (P:=P) (m:=c8) (h:=aC (p+n+1)) e (aC (p+n)).n px ot;rwa [ls]at this
        ·have:=b8.ptr (P:=P) (m:=c8) (h:=aC (p+n+1)) (aC (p+n)).n 0 0 px;rw[ls]at this;simpa using this
       ·have yU:sB all pl li (p+n) q:=λk ab bg=>by
         obtain⟨bx,bL⟩:=au k ab bg;refine⟨bx,?_⟩;have:k≠p+n:=λe=>by rw[e,et]at bg;injection bg with bg;exact Kc bg.symm
         omega
        have:=jH.t.slot (d:=q) (by rw[nU];exact BJ);rw[uQ yU]at this;exact b8.by (fU aL) this
      ·rw[DR au];exact .aD _
     ·rw[m5];simp only;rw[if_neg λe=>by rw[e,yT]at a5;cases a5];exact jH.D g x a5
    ·simp[gz,bz]at aW
theorem X3{O:bm}{t:List F}{h E:ai}{v:F}(aA:vU dd O=J)(aC:Ag P all O t h v E):False:=by
 obtain⟨e,d,I,_⟩:=PI aA;obtain⟨_,⟨R,_⟩|⟨g,args,fn,R,_⟩⟩:=aC
 ·simp[oe,I]at R
 ·simp[gz,I]at R
theorem X4{S:Nat->Bool}{aL:Nat->Option Obj}{Y:List Nat}(cw:∀d,S d=J->∀k,k<pl.length->(dr all pl k).dst≠o d)(dx:m0 P aa)(PK:∀e,e<2000000->dd e=J->(lp P e).isSome=J)(T:m3 P aa f all pl dd dD N cK aC)(oo:N=pl.length\/∃v E,N<pl.length/\Ag P all (dr all pl N) (cK N) (aC N) v E/\r=(.panic v,cK N,E))(DU:N=pl.length->∀cO cx aP,cp P cO (aC N) cx->ep P cO (aC N) (cK N) aP.tmps->aP.defers=b.defers->fc P S cO (aC N) cx b cs (fr (b.at aP (.inRegion all Y::K)) cs cx) r):∀(L:List Nat) (li:Array Bool) (p:Nat) (nw:Nat->Nat) (m:ey) (a:Act) (w:dO),BI pl.length all dD li L->Aj P aa f all pl dd dD N cK aC b aL li p nw m a w->fc P S (m.gO aL) (aC p) w b cs (fr (b.at a (.inRegion all (L++Y)::K)) cs w) r:=by
 have pp:=T.cM;have hle:=T.le;intro L;induction L with
 |nil=>
   intro li p nw m a w PL bK;have PM:∀i,i<pl.length->li.getD i U=J:=by
    cases PL with
    |nil _ h=>exact h
   have e5:N=pl.length:=by
    rcases oo with h|⟨v,E,aj,aH,_⟩
    ·exact h
    ·rcases bK.cD N aj (PM _ (pp.lt N aj))with h|h
     ·have:=bK.le;omega
     ·exact(X3 h aH).elim
   have az:=bK.le;obtain⟨cO,cb,jH⟩:=bK.X1 T (N - p) (by omega) λD I R aA=>by rw[PM _ (pp.lt D (by omega))]at aA;cases aA
   rw[show p+(N - p)=N by omega]at cb jH;have kR:qe all pl li N (cK N)=cK N:=by apply List.ext_getElem (by rw[nU]);intro d aj aH;have:=uQ (all:=all) (pl:=pl) (li:=li) (p:=N) (gG:=cK N) (d:=d) (λk ab _=>⟨PM _ (pp.lt k ab),by omega⟩);simpa[cZ,aj,aH]using this
   have a6:=jH.t;rw[kR]at a6;exact fc.after cb (nq _ _) (DU e5 _ w a (jH.w.gO jH.D) a6.gO jH.d)
 |cons i L aR=>
   intro li p nw m a w PL bK;show fc P S (m.gO aL) (aC p) w b cs (fr (b.at a (.inRegion all (i::(L++Y))::K)) cs w) r;cases PL with
   |cons _ _ _ fb Ai F6 gD JT=>
   obtain⟨O,tp⟩:∃O,fI all i=O:=⟨_,rfl⟩;have aK:all[i]? =o O:=by rw[<-tp];exact xn (fS fb pp.size)
   rw[tp]at F6;obtain⟨k,ab,rfl⟩:=pp.cover i fb;have qX:dr all pl k=O:=tp;have it:dG pl k<li.size:=by rw[bK.e4];exact fS fb pp.size
   have qd:=PH pp bK.mh (dG pl k) fb (by rw[tp];exact F6);have Kd:∀D,D<pl.length->v3 all dD (dG pl D) (dG pl k)->li.getD (dG pl D) U=J:=λD ae h=>h.elim (qd _ (pp.lt D ae)) (gD _);have dw:∀D,D<pl.length->D≠k->dG pl D≠dG pl k:=by
    intro D ae lL e;rcases oj D k with h|h
    ·exact pp.ne D k h ab e
    ·exact pp.ne k D (by omega) ae e.symm
   have X5:∀D,D<pl.length->(li.setIfInBounds (dG pl k) J).getD D U=J->∀e∈(fI all D).after,lF .any e=J->(li.setIfInBounds (dG pl k) J).getD e.on U=J:=by
    intro D ae ez e he ad;rw[lK it]at ez;by_cases tz:D=dG pl k
    ·subst tz;exact getD_set_true (F6 e (by rw[<-tp];exact he) ad)
    ·rw[if_neg tz]at ez;exact getD_set_true (bK.mh D ae ez e he ad)
   have X6:∀D,D<pl.length->(li.setIfInBounds (dG pl k) J).getD D U=J->∀i,dD i D->(li.setIfInBounds (dG pl k) J).getD i U=J:=by
    intro D ae ez i he;rw[lK it]at ez;by_cases tz:D=dG pl k
    ·subst tz;exact getD_set_true (gD i he)
    ·rw[if_neg tz]at ez;exact getD_set_true (bK.Ka D ae ez i he)
   by_cases yM:vU dd (dr all pl k)=J
   ·
    obtain⟨e,d,bz,bG,et,e8,hL⟩:=PI yM;have nV:p<=k:=by
     rcases oj k p with h|h
     ·have:=(bK.c9 k h Ai).1;rw[ao4 yM]at this;cases this
     ·exact h
    obtain⟨mK,aB⟩:=Option.isSome_iff_exists.1 (PK e hL e8);obtain⟨u,jw,hD,Al,PN⟩:=ao5 dx.ty (dr all pl k) e bz aB a w;have lb:Region.wanted O (yielded all a.tmps)=J:=by have:=Ae bK.t all (dr all pl k) (x:=J) (by simp[jk,bG]);rwa [qX]at this
    rw[qX]at jw;refine fc.steps (Pw aK lb (.inl jw)) ?_;refine fc.after (cx:=w.alloc (.cells u e)) (cO:=(m.gO λg=>if g=w.heap.size then o (.cells u e)else m.gN g).gO aL) (I:=aC p) (Ext.refl (m.gO aL) _) ((nq _ _).alloc bK.w.size (.cells u e)) ?_;have X7:∀g x,aL g=o x->g≠w.heap.size:=λg x a5 e=>by have:=bK.w.xf (bK.D g x a5);omega
    have DJ:∀D mf,D<pl.length->D≠k->(dr all pl D).dst=o mf->mf≠d:=by
     intro D mf ae lL bg e;subst e;rcases oj D k with h|h
     ·exact(pp.dst D k mf h ab et).2 bg
     ·exact(pp.dst k D mf (by omega) ae bg).2 et
    rw[<-qX,et];refine aR _ p (λD=>if D=k then w.heap.size else nw D) _ _ _ JT ⟨bK.le,by simpa using bK.e4,X5,X6,λD ae am=>?_,λD ae am=>?_,λD ae ez am=>?_,λD tv ae dM ez DV am iI he=>?_,bK.w.aD _,?_,by rw[Act.DS];exact bK.d,λg x a5=>?_⟩
    ·by_cases lL:D=k
     ·subst lL;exact .inr yM
     ·rw[lK it,if_neg (dw D ae lL)]at am;exact bK.cD D ae am
    ·have lL:D≠k:=by omega
     rw[lK it,if_neg (dw D (by have:=bK.le;omega) lL)]at am;exact bK.c9 D ae am
    ·by_cases lL:D=k
     ·subst lL;refine⟨e,d,mK,u,bz,bG,et,aB,hD,Al,PN,?_,?_,λbg=>?_⟩
      ·rw[if_pos rfl];rcases aF:aL w.heap.size with _|x
       ·rfl
       ·exact absurd rfl (X7 _ x aF)
      ·simp[ey.gO]
      ·simp[Act.put]at bg;simp[Act.put,jo,bg]
     ·rw[lK it,if_neg (dw D ez lL)]at am;obtain⟨dT,mf,F7,g8,dB,gm,iu,kj,sC,hZ,hx,DT,Ak,F8⟩:=bK.jx D ae ez am;have ba:=bK.w.xf Ak;refine⟨dT,mf,F7,g8,dB,gm,iu,kj,sC,hZ,hx,by rw[if_neg lL];exact DT,?_,λbg=>?_⟩
      ·rw[if_neg lL];show(if nw D=w.heap.size then _ else m.gN (nw D))=_;rw[if_neg (by omega)];exact Ak
      ·rw[if_neg lL,Act.PG λe=>DJ D mf ez lL iu (by injection e with e;exact e.symm)];exact F8 (by simpa[Act.put]using bg)
    ·have xp:∀q,p<=q->q<pl.length->q≠k->(li.setIfInBounds (dG pl k) J).getD (dG pl q) U=J->nw q<w.heap.size:=λq I R aj aH=>by rw[lK it,if_neg (dw q R aj)]at aH;obtain⟨_,_,_,_,_,_,_,_,_,_,_,_,Ak,_⟩:=bK.jx q I R aH;exact bK.w.xf Ak
     by_cases I:D=k<;>by_cases R:tv=k
     ·omega
     ·simp only[I,R,if_true,if_false]at he;have:=xp tv dM DV R iI;omega
     ·simp only[I,R,if_true,if_false]at he;have:=xp D ae ez I am;omega
     ·simp only[I,R,if_false]at he;rw[lK it,if_neg (dw D ez I)]at am;rw[lK it,if_neg (dw tv DV R)]at iI;exact bK.inj D tv ae dM ez DV am iI he
    ·refine ep.of (by simp[Act.put];rw[bK.t.1,nU,nU]) λq aX=>?_;have BJ:q<(cK N).length:=by rw[nU]at aX;exact aX
     by_cases au:sB all pl (li.setIfInBounds (dG pl k) J) p q
     ·rw[uQ au];have Kc:q≠d:=λe=>by have:=(au k ab (by rw[et,e])).2;omega
      have yU:sB all pl li p q:=λD ae bg=>by
       obtain⟨bx,bL⟩:=au D ae bg;have lL:D≠k:=by omega
       rw[lK it,if_neg (dw D ae lL)]at bx;exact⟨bx,bL⟩
      have:=bK.t.slot (d:=q) (by rw[nU];exact BJ);rw[uQ yU]at this;rw[Act.PG λe=>Kc (by injection e with e;exact e.symm)];exact this.gO
     ·rw[DR au];exact .aD _
    ·show(if g=w.heap.size then _ else m.gN g)=_;rw[if_neg (X7 g x a5)];exact bK.D g x a5
   ·
    have aDy:k<=N:=by
     rcases oo with h|⟨v,E,aj,aH,bq⟩
     ·omega
     ·rcases oj N k with ba|vV
      ·have ao9:o4 (aa.bh f) (dr all pl N)≠J:=by
        intro bW;obtain⟨_,⟨an,_⟩|⟨g,args,fn,an,_⟩⟩:=aH
        ·unfold oe at an;split at an
         ·rename_i x qS;simp[o4,og,qS]at bW
         ·cases an
        ·rw[XZ bW]at an;cases an
       rcases bK.cD N aj (Kd N aj (((pp.still N k ba ab).resolve_left λh=>ao9 (PC T.F4 h)).resolve_left yM))with h|h
       ·have:=bK.le;omega
       ·exact(X3 h aH).elim
      ·exact vV
    have main:∀(p:Nat) (m:ey),Aj P aa f all pl dd dD N cK aC b aL li p nw m a w->k<=p->fc P S (m.gO aL) (aC p) w b cs (fr (b.at a (.inRegion all (dG pl k::(L++Y))::K)) cs w) r:=by
     intro p m bK nV;have hw:=bK.w;have a6:=bK.t;have bg:=bK.d;have az:=bK.le;have tx:=ao1 (gG:=cK N) pp ab nV Kd;have pC:∀(i4:Nat) (bf:ey) (bj:dO) (v:F) (g8:b'),k<i4->p<=i4->i4<=N->(∀D,p<=D->D<i4->D=k)->Ext m (aC p) bf (aC i4)->cp P bf (aC i4) bj->Below m.base w bj->b8 P bf (aC i4) v g8->yS (cK N) (dr all pl k) v->(∀D,D<i4->D≠k->li.getD (dG pl D) U=U->Ah P aa f all (cK N) (dr all pl D) (aC i4))->Steps P (fr (b.at a (.inRegion all (dG pl k::(L++Y))::K)) cs w) (fr (b.at (a.put O.dst g8) (.inRegion all (L++Y)::K)) cs bj)->fc P S (m.gO aL) (aC p) w b cs (fr (b.at a (.inRegion all (dG pl k::(L++Y))::K)) cs w) r:=by
      intro i4 bf bj v g8 aDz J9 ao' m1 aF lM sw Z lr apa bW;refine fc.steps bW (fc.after (aF.gO aL) sw ?_);refine aR _ i4 nw bf _ bj JT ⟨ao',by simpa using bK.e4,X5,X6,λD ae ez=>?_,λD ae ez=>?_,λD ae ez am=>?_,λD tv ae dM ez DV am iI=>?_,lM,?_,by rw[Act.DS];exact bg,λg x a5=>aF.gN g x (bK.D g x a5)⟩
      ·by_cases lL:D=k
       ·exact .inl (by omega)
       ·rw[lK it,if_neg (dw D ae lL)]at ez;exact(bK.cD D ae ez).imp (λh=>by omega) id
      ·rw[lK it]at ez;by_cases lL:D=k
       ·subst lL;simp at ez
       ·rw[if_neg (dw D (by omega) lL)]at ez;exact apa D ae lL ez
      ·have lL:D≠k:=by omega
       rw[lK it,if_neg (dw D ez lL)]at am;obtain⟨dT,mf,F7,g8,dB,gm,iu,kj,sC,hZ,hx,DT,Ak,F8⟩:=bK.jx D (by omega) ez am;refine⟨dT,mf,F7,g8,dB,gm,iu,kj,sC,hZ,hx,DT,aF.gN _ _ Ak,λo1=>?_⟩;have apb:O.dst≠o mf:=λe=>by rw[<-qX]at e;exact(pp.dst k D mf (by omega) ez iu).2 e
       rw[Act.PG apb];refine F8 ?_;cases X8:O.dst with
       |none=>rw[X8]at o1;exact o1
       |some x=>rw[X8]at o1;simpa[Act.put]using o1
      ·have I:D≠k:=by omega
       have R:tv≠k:=by omega
       rw[lK it,if_neg (dw D ez I)]at am;rw[lK it,if_neg (dw tv DV R)]at iI;exact bK.inj D tv (by omega) (by omega) ez DV am iI
      ·rw[<-qX];exact aoZ pp ab it J9 (λD I R aj=>absurd (m1 D I R) aj) aF a6 Z lr
     have F9:∀{x:Bool},jk all (cK N) (dr all pl k)=o x->Region.wanted O (yielded all a.tmps)=x:=λlb=>by have:=Ae a6 all (dr all pl k) (by rw[J7 tx];exact lb);rwa [qX]at this
     have F':∀{E:ai} {v:F},jk all (cK N) (dr all pl k)=o J->gk P (aa.bh f) (cK N) (aC p) (dr all pl k)=o (v,E)->∀(i4:Nat),aC i4=E->k<i4->p<=i4->i4<=N->(∀D,p<=D->D<i4->D=k)->yS (cK N) (dr all pl k) v->(∀D,D<i4->D≠k->li.getD (dG pl D) U=U->Ah P aa f all (cK N) (dr all pl D) (aC i4))->fc P S (m.gO aL) (aC p) w b cs (fr (b.at a (.inRegion all (dG pl k::(L++Y))::K)) cs w) r:=by intro E v lb tu i4 uM bR bQ da v5 eS qY;subst uM;have PO:=tu;rw[<-XU (aa.bh f) tx]at PO;rw[qX]at PO;obtain⟨bf,bj,g8,d1,d2,d3,d4,d5⟩:=XI dx.ty hw a6 (aa.bh f) PO;exact pC i4 bf bj v g8 bR bQ da v5 d2 d3 d5 d4 eS qY (Pw aK (F9 lb) d1)
     have X9:∀(i4:Nat),aC i4=aC p->jk all (cK N) (dr all pl k)=o U->k<i4->p<=i4->i4<=N->(∀D,p<=D->D<i4->D=k)->yS (cK N) (dr all pl k) (.bS [])->(∀D,D<i4->D≠k->li.getD (dG pl D) U=U->Ah P aa f all (cK N) (dr all pl D) (aC i4))->fc P S (m.gO aL) (aC p) w b cs (fr (b.at a (.inRegion all (dG pl k::(L++Y))::K)) cs w) r:=by intro i4 uM lb bR bQ da v5 eS qY;exact pC i4 m w (.bS []) g0 bR bQ da v5 (by rw[uM];exact Ext.refl _ _) (by rw[uM];exact hw) (nq _ _) b8.O3 eS qY (Px aK (F9 lb))
     rcases oj k p with Ke|Ke
     ·obtain⟨_,c9⟩:=bK.c9 k Ke Ai;rcases c9 with⟨c9,jx⟩|⟨c9,v,jx,ts⟩
      ·exact X9 p rfl c9 Ke (b9 _) az (λD I R=>by omega) jx (λD ae _ aA=>bK.c9 D ae aA)
      ·exact F' c9 jx p rfl Ke (b9 _) az (λD I R=>by omega) ts (λD ae _ aA=>bK.c9 D ae aA)
     ·obtain rfl:p=k:=by omega
      have DW:∀{g args fn x E},gz (cK N) (dr all pl p)=o (g,args)->P.funcs[g]? =o fn->(fn.body.isNone=U/\(fn.name== "runtime.NumGoroutine")=U)->AC P g args (aC p) (x,E)->jk all (cK N) (dr all pl p)=o J->∃bI:List b',eb P m (aC p) args bI/\(f' a.eval O).run P w= .ok (.enter g bI.toArray) w:=by intro g args fn x E aW bD cl eg fV;have Ga:=aW;rw[<-PA tx,qX]at Ga;exact J5 a6 Ga bD cl.2 cl.1
      rcases oj p N with DX|DX
      ·have ba:∀D,D<p+1->D≠p->li.getD (dG pl D) U=U->Ah P aa f all (cK N) (dr all pl D) (aC (p+1)):=by intro D ae lL aA;refine T.JK (by omega) DX ?_ (bK.c9 D (by omega) aA);intro aF;have:=Kd D (by omega) aF;rw[aA]at this;cases this
       have PQ:∀D,p<=D->D<p+1->D=p:=λD I R=>by omega
       rcases T.at DX with⟨aP,a2,bl⟩|⟨aP,v,a2,bl,cr⟩
       ·exact X9 (p+1) bl aP (by omega) (by omega) DX PQ a2 ba
       ·rcases a2 with⟨_,a2⟩|⟨g,args,fn,aW,bD,cl,eg⟩
        ·exact F' aP a2 (p+1) rfl (by omega) (by omega) DX PQ bl ba
        ·obtain⟨bI,cI,b6⟩:=DW aW bD cl eg aP;have iT:=eg m w bI hw cI;obtain⟨e,bj,hS,bW⟩:=F3 (b:=b) (cs:=cs) (k:=K) (rest:=L++Y) aK (F9 aP) b6 iT (by rintro bj ⟨bf,_,_,_,g8,h,_⟩;cases h);obtain⟨bf,cb,dF,gH,g8,h7,hE⟩:=hS;subst h7;rcases bW with⟨a',aj,aH⟩|⟨hv,aj,_⟩
         ·injection aj with aj;subst aj;exact pC (p+1) bf bj v g8 (by omega) (by omega) DX PQ cb dF gH hE bl ba aH
         ·cases aj
      ·obtain rfl:p=N:=by omega
       have X':∀d,S d=J->(qe all pl li p (cK p)).getD d .aD=(cK p).getD d .aD:=λd bg=>uQ λD ae BH=>absurd BH (cw d bg D ae);rcases oo with h|⟨v,E,aj,⟨aH,⟨aW,bD⟩|⟨g,args,fn,aW,bD,cl,eg⟩⟩,bq⟩
       ·omega
       ·rw[<-aoN tx,qX]at aW;obtain⟨g8,cb,dF⟩:=XP (w:=w) a6 aW;rw[bq,bD];exact⟨m.gO aL,w,Ext.refl _ _,hw.gO bK.D,nq _ _,a,_,g8,⟨_,a6.gO,X'⟩,bg,cb.gO,XQ aK (F9 aH) dF⟩
       ·obtain⟨bI,cI,b6⟩:=DW aW bD cl eg aH;have iT:=eg m w bI hw cI;obtain⟨e,bj,hS,bW⟩:=F3 (b:=b) (cs:=cs) (k:=K) (rest:=L++Y) aK (F9 aH) b6 iT (by rintro bj ⟨bf,_,_,_,g8,h,_⟩;cases h);obtain⟨bf,cb,dF,gH,g8,h7,hE⟩:=hS;subst h7;rcases bW with⟨a',cq,_⟩|⟨hv,cq,todo,de⟩
        ·cases cq
        ·injection cq with cq;subst cq;rw[bq];exact⟨bf.gO aL,bj,cb.gO aL,dF.gO λg x a5=>cb.gN g x (bK.D g x a5),gH,a,todo,g8,⟨_,(a6.ext cb).gO,X'⟩,bg,hE.gO,de⟩
    rcases oj k p with h|h
    ·exact main p m bK (by omega)
    ·obtain⟨cO,cb,jH⟩:=bK.X1 T (k - p) (by omega) λD I R aA=>by
      rcases pp.still D k (by omega) ab with h|h|h
      ·exact PC T.F4 h
      ·exact absurd h yM
      ·rw[Kd D (by omega) h]at aA;cases aA
     rw[show p+(k - p)=k by omega]at cb jH;exact fc.after cb (nq _ _) (main k cO jH (b9 _))
theorem Ya{S:Nat->Bool}{aL:Nat->Option Obj}(hlen:pl.length=all.size)(cw:∀d,S d=J->∀k,k<pl.length->(dr all pl k).dst≠o d)(dx:m0 P aa)(PK:∀e,e<2000000->dd e=J->(lp P e).isSome=J)(T:m3 P aa f all pl dd dD N cK aC)(oo:N=pl.length\/∃v E,N<pl.length/\Ag P all (dr all pl N) (cK N) (aC N) v E/\r=(.panic v,cK N,E))(DU:N=pl.length->∀cO cx aP,cp P cO (aC N) cx->ep P cO (aC N) (cK N) aP.tmps->aP.defers=b.defers->fc P S cO (aC N) cx b cs (fr (b.at aP K) cs cx) r):∀(L:List Nat) (li:Array Bool) (p:Nat) (nw:Nat->Nat) (m:ey) (a:Act) (w:dO),mg all dD li L->Aj P aa f all pl dd dD N cK aC b aL li p nw m a w->fc P S (m.gO aL) (aC p) w b cs (fr (b.at a (.inRegion all L::K)) cs w) r:=by intro L li p nw m a w c1 bK;have:=X4 (Y:=[]) cw dx PK T oo (λe5 cO cx aP bR bQ da=>fc.steps (.one step_region_end) (DU e5 cO cx aP bR bQ da)) L li p nw m a w (by rw[hlen];exact c1) bK;rwa [ou]at this
end
open Go Go.RowKit
theorem yV(e cs:List F)(off D:Nat)(hle:off+cs.length<=e.length):(dy e off cs)[D]? =if off<=D/\D<off+cs.length then cs[D - off]? else e[D]? :=by
 unfold dy;have I:(e.take off).length=off:=by simp;omega
 by_cases ae:D<off
 ·rw[if_neg (by omega),kS,l0 (by omega),v1 ae]
 ·rw[kS,l1 (by omega),I];by_cases rD:D<off+cs.length
  ·rw[if_pos (by omega),l0 (by omega)]
  ·rw[if_neg (by omega),l1 (by omega),List.getElem?_drop];congr 1;omega
theorem BK(e cs:List F)(off:Nat)(hle:off+cs.length<=e.length):(dy e off cs).length=e.length:=by unfold dy;simp;omega
theorem apc{agg:Bool}{n off qf:Nat}{e eG:List F}{x:F}(I:x.cells.all F.one=J)(R:x.cells.length=n)(aA:n≠0)(hle:off+n<=e.length)(bH:eG.all F.one=J)(X2:qf+eG.length<=e.length)(am:fZ agg n (dy (dy e off x.cells) qf eG) off=o x):∀D,D<n->(dy (dy e off x.cells) qf eG)[off+D]? =x.cells[D]? :=by
 have cD:=BK e x.cells off (by omega);have c9:=BK (dy e off x.cells) eG qf (by omega);unfold fZ at am;split at am
 ·rename_i vY;rw[if_pos (by omega)]at am;injection am with am;intro D ae;have an:=congrArg F.cells am;generalize dy (dy e off x.cells) qf eG=cJ at an ⊢;rw[<-an];simp only[F.cells];rw[v1 ae,List.getElem?_drop]
 ·intro D ae;have F0:x.one=J:=by
   have g:(dy (dy e off x.cells) qf eG)[off]? =o x:=am;rw[yV _ _ _ _ (by omega)]at g;split at g
   ·exact jW.1 bH x (o6 g)
   ·rw[yV _ _ _ _ (by omega),if_pos (by omega),Nat.sub_self]at g;exact jW.1 I x (o6 g)
  have an:x.cells=[x]:=by cases x<;>first|rfl|(simp[F.one]at F0)
  rw[an]at R;have tt:D=0:=by simp at R;omega
  subst tt;rw[Nat.add_zero,am,an];rfl
theorem apd{n off qf:Nat}{e xs eG:List F}(R:xs.length=n)(hle:off+n<=e.length)(X2:qf+eG.length<=e.length)(am:∀D,D<n->(dy (dy e off xs) qf eG)[off+D]? =xs[D]?):dy (dy e qf eG) off xs=dy (dy e off xs) qf eG:=by
 have cD:=BK e xs off (by omega);have c9:=BK e eG qf (by omega);refine List.ext_getElem? λD=>?_;by_cases ae:off<=D/\D<off+xs.length
 ·have:=am (D - off) (by omega);rw[show off+(D - off)=D by omega]at this;rw[this,yV _ _ _ _ (by omega),if_pos ae]
 ·rw[yV _ _ _ _ (by omega),if_neg ae,yV _ _ _ _ (by omega),yV _ _ _ _ (by omega)];split
  ·rfl
  ·rw[yV _ _ _ _ (by omega),if_neg ae]
theorem Yb{n:Nat}{h:ai}{a x:F}{I:ai}(aC:e0 n h a x=o I):∃b i off es e,(∀agg k h,cR agg k h a=cR agg k h (.ptr b i off))/\(∀k h y,e0 k h a y=e0 k h (.ptr b i off) y)/\h.cell b=o es/\es[i]? =o e/\x.cells.all F.one=J/\x.cells.length=n/\off+n<=e.length/\I=h.set b (o (es.set i (dy e off x.cells))):=by
 have key:∀b i off,e0 n h (.ptr b i off) x=o I->∃es e,h.cell b=o es/\es[i]? =o e/\x.cells.all F.one=J/\x.cells.length=n/\off+n<=e.length/\I=h.set b (o (es.set i (dy e off x.cells))):=by
  intro b i off aC;unfold e0 at aC;simp only[dX]at aC;obtain⟨es,R,e,aj,aH⟩:=aC;split at aH
  ·rename_i an;injection aH with aH;exact⟨es,e,R,aj,an.1,an.2.1,an.2.2,aH.symm⟩
  ·cases aH
 cases a with
 |ptr b i off=>obtain⟨es,e,q⟩:=key b i off aC;exact⟨b,i,off,es,e,λ_ _ _=>rfl,λ_ _ _=>rfl,q⟩
 |gM t b=>obtain⟨es,e,q⟩:=key b 0 0 aC;exact⟨b,0,0,es,e,λ_ _ _=>rfl,λ_ _ _=>rfl,q⟩
 |_=>cases aC
theorem lu{n:Nat}{h:ai}{b i off:Nat}{x:F}{es:List (List F)}{e:List F}(I:h.cell b=o es)(R:es[i]? =o e)(aj:x.cells.all F.one=J)(aH:x.cells.length=n)(bq:off+n<=e.length):e0 n h (.ptr b i off) x=o (h.set b (o (es.set i (dy e off x.cells)))):=by unfold e0;simp only[I,du,R];rw[if_pos ⟨aj,aH,bq⟩]
theorem ai.Kf{h:ai}{b:Nat}{es:Option (List (List F))}:(h.set b es).cell b=es:=by simp[ai.set]
theorem ai.Yc{h:ai}{b D:Nat}{es:Option (List (List F))}(ae:D≠b):(h.set b es).cell D=h.cell D:=by simp[ai.set,ae]
theorem ai.Kg{h:ai}{b:Nat}{x y:Option (List (List F))}:(h.set b x).set b y=h.set b y:=by simp only[ai.set,ai.mk.injEq,and_true,true_and];funext k;split<;>simp_all
theorem ai.ape{h:ai}{a b:Nat}(dw:a≠b)(x y:Option (List (List F))):(h.set a x).set b y=(h.set b y).set a x:=by
 simp only[ai.set,ai.mk.injEq,and_true,true_and];funext k;by_cases I:k=a
 ·subst I;simp[dw]
 ·simp[I]
theorem apf{n cj:Nat}{h I R:ai}{a x eR y:F}{agg:Bool}(aA:n≠0)(bd:e0 n h a x=o I)(aY:e0 cj I eR y=o R)(am:cR agg n R a=o x):∃lJ,e0 cj h eR y=o lJ/\e0 n lJ a x=o R:=by
 obtain⟨b,i,off,es,e,apg,aph,aW,bD,cl,eg,fV,rfl⟩:=Yb bd;obtain⟨gl,kU,qf,gS,dT,_,PR,d1,d2,d3,d4,d5,rfl⟩:=Yb aY;rw[apg]at am;simp only[aph,PR];have af:i<es.length:=(fO.1 bD).1;by_cases ad:gl=b
 ·subst ad;rw[ai.Kf]at d1;injection d1 with d1;subst d1;by_cases Kh:kU=i
  ·subst Kh;rw[List.getElem?_set_self af]at d2;injection d2 with d2;subst d2;have cD:=BK e x.cells off (by omega);have Pz:fZ agg n (dy (dy e off x.cells) qf y.cells) off=o x:=by have:cR agg n _ (.ptr gl kU off)=o x:=am;simp only[cR,ai.row,ai.Kf,du]at this;rw[List.set_set,List.getElem?_set_self af]at this;exact this
   have DF:=apc cl eg aA fV d3 (by omega) Pz;have api:=apd eg fV (by omega) DF;refine⟨_,lu aW bD d3 d4 (by omega),?_⟩;rw[lu (es:=es.set kU (dy e qf y.cells)) (e:=dy e qf y.cells) ai.Kf (List.getElem?_set_self af) cl eg (by rw[BK _ _ _ (by omega)];exact fV)];rw[ai.Kg,ai.Kg,List.set_set,List.set_set,api]
  ·rw[uP (mG Kh)]at d2;refine⟨_,lu aW d2 d3 d4 d5,?_⟩;rw[lu (es:=es.set kU (dy dT qf y.cells)) (e:=e) ai.Kf (by rw[uP Kh];exact bD) cl eg fV];rw[ai.Kg,ai.Kg,List.set_comm _ _ Kh]
 ·rw[ai.Yc ad]at d1;refine⟨_,lu d1 d2 d3 d4 d5,?_⟩;rw[lu (es:=es) (e:=e) (by rw[ai.Yc (mG ad)];exact aW) bD cl eg fV];rw[ai.ape ad]
section
variable{P:c'}{aa:iQ}{f:di}{n aZ:Nat}{bk:List Nat}{h E:ai}{t V gI:List F}{all:Array bm}{pl:List (Nat×List Nat)}{dD:Nat->Nat->Prop}
abbrev m6(all:Array bm):Array Bool:=Array.replicate all.size U
theorem PS(dx:m0 P aa)(pp:uO all pl (λ_=>U) dD)(nV:z5 (aa.fy f) all=J){e:Option F}{dQ:List F}(az:pD P aa f all (jT J all pl) t h e dQ E){b:g'}{cs:List g'}{K:List Item}{r:k8×List F×ai}(h6:e=ag->∀(cO:ey) (cx:dO) (aP:Act),cp P cO E cx->ep P cO E dQ aP.tmps->aP.defers=b.defers->fc P (aa.fy f) cO E cx b cs (fr (b.at aP K) cs cx) r)(qZ:∀v,e=o v->r=(.panic v,dQ,E)){L:List Nat}(c1:mg all dD (m6 all) L){m:ey}{w:dO}{a:Act}(hw:cp P m h w)(a6:ep P m h t a.tmps)(bg:a.defers=b.defers):fc P (aa.fy f) m h w b cs (fr (b.at a (.inRegion all L::K)) cs w) r:=by
 have cw:∀d,aa.fy f d=J->∀k,k<pl.length->(dr all pl k).dst≠o d:=λd bg k ab e=>by have ba:=pp.lt k ab;have hm:=jW.1 nV (dr all pl k) (Array.mem_toList_iff.2 (Array.mem_of_getElem? (xn ba)));rw[e]at hm;simp[bg]at hm
 obtain⟨N,cK,aC,I,R,aj,aH,bq,cq⟩:=az.trace;have hlen:(jT J all pl).length=pl.length:=by simp[jT]
 have nW:∀i,i<pl.length->(jT J all pl)[i]? =o (dr all pl i,(uN pl i).map (fI all)):=by
  intro i af;simp only[jT,if_true,xl,fT af,i3,iF];have aw:pl.getD i default=pl[i]:=by simp[cZ,af]
  simp only[dr,fI,dG,uN,aw];rfl
 have T:m3 P aa f all pl (λ_=>U) dD N cK aC:=⟨pp.toQ,by omega,(λ_ h=>by cases h),λi af=>bq i _ af (nW i (by omega))⟩;subst R;subst aj;subst aH;have yL:m=m.gO m.gN:=rfl;rw[yL];refine Ya (S:=aa.fy f) (aL:=m.gN) pp.len cw (r:=r) (K:=K) (b:=b) (cs:=cs) dx (λe _ he=>by cases he) T ?_ ?_ _ (m6 all) 0 (λ_=>0) m a _ c1 ⟨mI _,by simp,λD ae ez=>?_,λD ae ez=>?_,λD ae ez=>?_,λD ae=>by omega,λD _ ae ez=>?_,λD tv _ _ ae dM ez=>?_,hw,?_,bg,λ_ _ h=>h⟩
 ·cases e with
  |none=>exact .inl (by omega)
  |some v=>
    obtain⟨q,aX,bW⟩:=cq;have e5:N<pl.length:=by have:=(fO.1 aX).1;omega
    rw[nW N e5]at aX;injection aX with aX;subst aX;exact .inr ⟨v,E,e5,bW,qZ v rfl⟩
 ·intro e5 cO cx aP bR bQ da;cases e with
  |none=>obtain⟨_,cq⟩:=cq;subst cq;exact h6 rfl cO cx aP bR bQ da
  |some v=>obtain⟨q,aX,bW⟩:=cq;have:=(fO.1 aX).1;omega
 ·rw[pp.len]at ae;simp[jo,ae]at ez
 ·rw[pp.len]at ae;simp[jo,ae]at ez
 ·have:=pp.lt D ae;simp[jo,this]at ez
 ·have:=pp.lt D ae;simp[jo,this]at ez
 ·have:=pp.lt D ae;simp[jo,this]at ez
 ·have am:=T.len 0 (mI _);refine ep.of (by rw[nU,<-am];exact a6.1) λd uR=>?_;have Gb:d<(cK 0).length:=by rw[nU]at uR;omega
  by_cases v6:sB all pl (m6 all) 0 d
  ·rw[uQ v6];have be:=T.g9 d 0 N (by omega) (λD _ ae he=>by
    have ez:D<pl.length:=by omega
    have:=(v6 D ez he).2;omega)
   rw[ir]at be;rw[be];exact a6.slot Gb
  ·rw[DR v6];exact .aD _
theorem Yd(dx:m0 P aa){Y:List Nat}(pp:xm all pl (FN (aa.fy f)) λ_ _=>False)(nV:z5 (aa.fy f) all=J){e:Option F}{dQ:List F}(az:pD P aa f all (jT J all pl) t h e dQ E){b:g'}{cs:List g'}{K:List Item}{r:k8×List F×ai}(h6:e=ag->∀(cO:ey) (cx:dO) (aP:Act),cp P cO E cx->ep P cO E dQ aP.tmps->aP.defers=b.defers->fc P (aa.fy f) cO E cx b cs (fr (b.at aP (.inRegion all Y::K)) cs cx) r)(qZ:∀v,e=o v->r=(.panic v,dQ,E)){L:List Nat}(c1:BI pl.length all (λ_ _=>False) (m6 all) L){m:ey}{w:dO}{a:Act}(hw:cp P m h w)(a6:ep P m h t a.tmps)(bg:a.defers=b.defers):fc P (aa.fy f) m h w b cs (fr (b.at a (.inRegion all (L++Y)::K)) cs w) r:=by
 have cw:∀d,aa.fy f d=J->∀k,k<pl.length->(dr all pl k).dst≠o d:=λd bg k ab e=>by have ba:=fS (pp.lt k ab) pp.size;have hm:=jW.1 nV (dr all pl k) (Array.mem_toList_iff.2 (Array.mem_of_getElem? (xn ba)));rw[e]at hm;simp[bg]at hm
 obtain⟨N,cK,aC,I,R,aj,aH,bq,cq⟩:=az.trace;have hlen:(jT J all pl).length=pl.length:=by simp[jT]
 have nW:∀i,i<pl.length->(jT J all pl)[i]? =o (dr all pl i,(uN pl i).map (fI all)):=by
  intro i af;simp only[jT,if_true,xl,fT af,i3,iF];have aw:pl.getD i default=pl[i]:=by simp[cZ,af]
  simp only[dr,fI,dG,uN,aw];rfl
 have T:m3 P aa f all pl (FN (aa.fy f)) (λ_ _=>False) N cK aC:=⟨pp,by omega,(λty h=>dx.XK f ty h),λi af=>bq i _ af (nW i (by omega))⟩;subst R;subst aj;subst aH;have yL:m=m.gO m.gN:=rfl;rw[yL];refine X4 (Y:=Y) (S:=aa.fy f) (aL:=m.gN) cw (r:=r) (K:=K) (b:=b) (cs:=cs) dx (λe I he=>dx.XJ f e I he) T ?_ ?_ _ (m6 all) 0 (λ_=>0) m a _ c1 ⟨mI _,by simp,λD ae ez=>?_,λD ae ez=>?_,λD ae ez=>?_,λD ae=>by omega,λD _ ae ez=>?_,λD tv _ _ ae dM ez=>?_,hw,?_,bg,λ_ _ h=>h⟩
 ·cases e with
  |none=>exact .inl (by omega)
  |some v=>
    obtain⟨q,aX,bW⟩:=cq;have e5:N<pl.length:=by have:=(fO.1 aX).1;omega
    rw[nW N e5]at aX;injection aX with aX;subst aX;exact .inr ⟨v,E,e5,bW,qZ v rfl⟩
 ·intro e5 cO cx aP bR bQ da;cases e with
  |none=>obtain⟨_,cq⟩:=cq;subst cq;exact h6 rfl cO cx aP bR bQ da
  |some v=>obtain⟨q,aX,bW⟩:=cq;have:=(fO.1 aX).1;omega
 ·have ae:=fS ae pp.size;simp[jo,ae]at ez
 ·have ae:=fS ae pp.size;simp[jo,ae]at ez
 ·have:=fS (pp.lt D ae) pp.size;simp[jo,this]at ez
 ·have:=fS (pp.lt D ae) pp.size;simp[jo,this]at ez
 ·have:=fS (pp.lt D ae) pp.size;simp[jo,this]at ez
 ·have am:=T.len 0 (mI _);refine ep.of (by rw[nU,<-am];exact a6.1) λd uR=>?_;have Gb:d<(cK 0).length:=by rw[nU]at uR;omega
  by_cases v6:sB all pl (m6 all) 0 d
  ·rw[uQ v6];have be:=T.g9 d 0 N (by omega) (λD _ ae he=>by
    have ez:D<pl.length:=by omega
    have:=(v6 D ez he).2;omega)
   rw[ir]at be;rw[be];exact a6.slot Gb
  ·rw[DR v6];exact .aD _
theorem Ye{P:c'}{aa:iQ}{f:di}{all:Array bm}{e:Option F}{dQ:List F}{E:ai}:∀{cD c9:List (bm×List bm)} {t:List F} {h:ai},pD P aa f all (cD++c9) t h e dQ E->(∃t1 I,pD P aa f all cD t h ag t1 I/\pD P aa f all c9 t1 I e dQ E)\/∃v,e=o v/\pD P aa f all cD t h (o v) dQ E
 |[],c9,t,h,az=>.inl ⟨t,h,.nil _ _,az⟩
 |q::cD,c9,t,h,az=>by
   have az:pD P aa f all (q::(cD++c9)) t h e dQ E:=az;cases az with
   |step _ _ _ _ t1 I _ _ _ aC au=>
     rcases Ye au with⟨t2,R,a,b⟩|⟨v,a,b⟩
     ·exact .inl ⟨t2,R,.step _ _ _ _ _ _ _ _ _ aC a,b⟩
     ·exact .inr ⟨v,a,.step _ _ _ _ _ _ _ _ _ aC b⟩
   |stop _ _ _ _ v _ aC=>exact .inr ⟨v,rfl,.stop _ _ _ _ _ _ aC⟩
theorem apj{y:Nat}{dd:a9->Bool}(Am:xm all pl dd λ_ _=>False)(iS:pl.length=y)(bH:y+1=all.size)(qd:∀i,i<y->mB (nQ all) i y=J):∀{li:Array Bool} {L:List Nat},mg all (λ_ _=>False) li L->li.size=all.size->li.getD y U=U->(∀D,D<pl.length->li.getD D U=J->∀e∈(fI all D).after,lF .any e=J->li.getD e.on U=J)->∃q0,L=q0++[y]/\BI pl.length all (λ_ _=>False) li q0:=by
 intro li L aK;induction aK with
 |nil li h=>intro _ aA;rw[h y (by omega)]at aA;cases aA
 |cons li i L cS cf eQ lv pE aR=>
   intro aC aA lI;have it:i<li.size:=by omega
   by_cases af:i=y
   ·have oo:∀D,D<y->li.getD D U=J:=λD ae=>by
     obtain⟨e,aw,ay,be⟩:=Am.mask y D (by omega) (by omega) (qd D ae);have ba:=Am.BG y (by omega) e aw ay;have hle:=eQ e (by rw[af];exact aw) ay;rcases be with be|be
     ·rw[<-be];exact hle
     ·exact PH Am lI e.on (by omega) (lI e.on (by omega) hle) D (by omega) be
    cases pE with
    |nil _ _=>exact⟨[],by rw[af];rfl,.nil _ λD ae=>oo D (by omega)⟩
    |cons _ k _ cF cA=>
      exfalso;rw[lK it]at cA;split at cA
      ·cases cA
      ·rename_i ab;rw[oo k (by omega)]at cA;cases cA
   ·obtain⟨q0,e,O⟩:=aR (by simpa using aC) (by rw[lK it,if_neg (λh=>af h.symm)];exact aA) λD ae ez e he ad=>by
     rw[lK it]at ez;by_cases tz:D=i
     ·subst tz;exact getD_set_true (eQ e he ad)
     ·rw[if_neg tz]at ez;exact getD_set_true (lI D ae ez e he ad)
    exact⟨i::q0,by rw[e];rfl,.cons _ _ _ (by omega) cf eQ lv O⟩
abbrev BL(dD:Nat->Nat->Prop)(x y:Nat):Nat->Nat->Prop:=λi D=>dD i D\/(i=x/\D=y)
theorem Yf{x y:Nat}{li:Array Bool}{L:List Nat}(aK:mg all dD li L)(aC:li.size=all.size)(aF:li.getD x U=J):mg all (BL dD x y) li L:=by
 induction aK with
 |nil li h=>exact .nil _ h
 |cons li i L I R aj aH _ aR=>
   refine .cons _ _ _ I R aj (λD ae=>ae.elim (aH D) λe=>by rw[e.1];exact aF) (aR (by simpa using aC) ?_);rw[lK (by omega)];split
   ·rfl
   ·exact aF
theorem Gc{x y:Nat}(dw:x≠y)(xg:x<all.size){li:Array Bool}{L:List Nat}(aK:mg all dD li L)(aC:li.size=all.size)(aF:li.getD x U=U)(bH:li.getD y U=U):mg all (BL dD x y) li L\/mg all (BL dD y x) li L:=by
 induction aK with
 |nil li h=>have:=h x xg;rw[aF]at this;cases this
 |cons li i L I R aj aH au aR=>
   have it:i<li.size:=by omega
   by_cases fv:i=x
   ·subst fv;refine .inl (.cons _ _ _ I R aj (λD ae=>ae.elim (aH D) λe=>absurd e.2 dw) (Yf au (by simpa using aC) ?_));rw[lK it,if_pos rfl]
   ·by_cases PT:i=y
    ·subst PT;refine .inr (.cons _ _ _ I R aj (λD ae=>ae.elim (aH D) λe=>absurd e.2.symm dw) (Yf au (by simpa using aC) ?_));rw[lK it,if_pos rfl]
    ·rcases aR (by simpa using aC) (by rw[lK it,if_neg (mG fv)];exact aF) (by rw[lK it,if_neg (mG PT)];exact bH)with h|h
     ·exact .inl (.cons _ _ _ I R aj (λD ae=>ae.elim (aH D) λe=>absurd e.2 PT) h)
     ·exact .inr (.cons _ _ _ I R aj (λD ae=>ae.elim (aH D) λe=>absurd e.2 fv) h)
theorem q1(i:Nat):(m6 all).getD i U=U:=by
 simp only[jo,m6];by_cases af:i<all.size
 ·simp[af]
 ·simp[af]
theorem BM{Gd:List (Nat×Nat)}(az:yy Gd all pl=J):uO all pl (λ_=>U) λi D=>(i,D)∈Gd:=by
 unfold yy at az;simp only[gv]at az;obtain⟨⟨⟨⟨⟨I,R⟩,o5⟩,aj⟩,aH⟩,bq⟩:=az;rw[jW]at I R o5 aj bq;have v4:∀k,k<pl.length->pl.getD k default∈pl:=λk ab=>by simp only[cZ,fT ab,qT];exact jl ab
 have m2:∀i D,i<D->D<pl.length->OV Gd all (nQ all) (pl.getD i default) (pl.getD D default)=J:=λi D hY ae=>by have:=bq D (kD.2 ae);rw[jW]at this;exact this i (kD.2 hY)
 have qd:∀i D,(mB (nQ all) i D||Gd.contains (i,D))=J->v3 all (λi D=>(i,D)∈Gd) i D:=λi D h=>by rw[o3]at h;exact h.imp id λh=>by simpa using h
 unfold OV at m2;simp only[gv,bne_iff_ne,ne_eq]at m2;refine⟨λi af=>?_,λk ab=>?_,λk d ab bg ga=>?_,λD ae e he ad=>?_,λD i ae af qd=>?_,λi D hY ae=>?_,λi D hY ae=>?_,λi D hY ae=>?_,λi D d hY ae bg=>?_,λi D d hY ae bg ga=>?_⟩
 ·have:=I i (kD.2 af);rw[List.any_eq_true]at this;obtain⟨q,aX,h⟩:=this;obtain⟨k,ab,rfl⟩:=List.getElem_of_mem aX;exact⟨k,ab,by simpa[dG,cZ,ab]using h⟩
 ·have:=R _ (v4 k ab);exact of_decide_eq_true this
 ·have:=o5 _ (v4 k ab);unfold dr fI dG at bg ga;rw[bg]at this;simp only[jo,List.getD_eq_getElem?_getD]at ga this;simp[tw,ga]at this
 ·have:=aj D (kD.2 ae);rw[Array.all_eq_true']at this;have:=this e he;simpa[ad]using this
 ·unfold DA at aH;rw[jW]at aH;have:=aH D (kD.2 ae);rw[jW]at this;have:=this i (kD.2 af);rw[qd]at this;simp only[Bool.not_true,Bool.false_or]at this;rw[Option.any_eq_true]at this;obtain⟨O,aK,cq⟩:=this;rw[Array.any_eq_true']at cq;obtain⟨e,he,de⟩:=cq;simp only[gv,decide_eq_true_eq,o3,beq_iff_eq]at de;refine⟨e,?_,de.1.1,de.2⟩;have:fI all D=O:=by simp[fI,jo,aK]
  rw[this];exact he
 ·exact(m2 i D hY ae).1.1.1.1
 ·have:=(m2 i D hY ae).1.1.1.2;rw[o3]at this;exact this.imp XW λh=>.inr (qd _ _ h)
 ·have:=(m2 i D hY ae).1.1.2;rw[o3,o3,o3]at this;rcases this with((h|h)|h)|h
  ·exact .inl (XW h)
  ·exact .inr (.inl (by rw[Bool.not_eq_true']at h;exact h))
  ·exact .inr (.inr (.inl (qd _ _ h)))
  ·exact .inr (.inr (.inr (List.contains_iff_mem.1 h)))
 ·have:=(m2 i D hY ae).1.2;unfold dr fI dG at bg ⊢;rw[bg]at this;simpa[tw]using this
 ·have:=(m2 i D hY ae).2;unfold dr fI dG at bg ga;rw[bg]at this;rw[o3]at this;rcases this with h|h
  ·simp only[jo,List.getD_eq_getElem?_getD]at ga h;simp[tw,ga]at h
  ·exact qd _ _ h
theorem mg.mono{all:Array bm}{dD Yg:Nat->Nat->Prop}(gD:∀i D,Yg i D->dD i D){li:Array Bool}{L:List Nat}(aK:mg all dD li L):mg all Yg li L:=by
 induction aK with
 |nil li h=>exact .nil _ h
 |cons li i L I R aj aH _ aR=>exact .cons _ _ _ I R aj (λD ae=>aH D (gD _ _ ae)) aR
theorem Ki{O:bm}(h:tj O=J):∃ty a v,O.op= .store ty a v/\O.guard=ag/\O.dst=ag:=by
 unfold tj at h;split at h
 ·rename_i ty a v I R aj;exact⟨ty,a,v,I,R,aj⟩
 ·cases h
theorem Yh{x:bm}{ca:List bm}{t1:List F}{I:ai}(aF:tj x=J)(aC:yP P aa f all (x,ca) t h t1 I):∃ty a v,x.op= .store ty a v/\dA P ty≠0/\e0 (dA P ty) h (bM t a) (bM t v)=o I/\t1=t/\qN P all t I ca:=by
 obtain⟨ty,a,v,bz,bG,et⟩:=Ki aF;rcases aC with⟨bd,_⟩|⟨_,u,aY,bs,bE⟩
 ·simp[jk,bG]at bd
 ·have e:t1=t:=by rw[bs,et];rfl
  subst e;refine⟨ty,a,v,bz,?_⟩;rcases aY with⟨_,aY⟩|⟨g,args,fn,aW,_⟩
  ·simp only[gk,bz]at aY;split at aY
   ·cases aY
   ·rename_i aB;simp only[ed,kW]at aY;obtain⟨R,b3,_,rfl⟩:=aY;exact⟨aB,b3,rfl,bE⟩
  ·simp[gz,bz]at aW
theorem Kj{x:bm}{ty:a9}{a v:g7}{I:ai}(aF:tj x=J)(bz:x.op= .store ty a v)(aB:dA P ty≠0)(s:e0 (dA P ty) h (bM t a) (bM t v)=o I):yP P aa f all (x,[]) t h t I:=by obtain⟨vT,eR,a',PU,bG,et⟩:=Ki aF;refine .inr ⟨by simp[jk,bG],.aD,.inl ⟨by simp[gz,bz],?_⟩,by rw[et];rfl,trivial⟩;simp only[gk,bz];rw[if_neg aB,s];rfl
theorem Yi{x:bm}{v:F}(aF:tj x=J)(aC:Ag P all x t h v E):False:=by
 obtain⟨ty,a,u,bz,bG,et⟩:=Ki aF;obtain⟨_,⟨c,_⟩|⟨g,args,fn,c,_⟩⟩:=aC
 ·simp[oe,bz]at c
 ·simp[gz,bz]at c
theorem Yj{x y:bm}(aF:tj x=J)(bH:tj y=J):∀{pre:List (bm×List bm)} {t:List F} {h:ai} {e:Option F} {dQ:List F} {E:ai},pD P aa f all (pre++[(x,[]),(y,[x])]) t h e dQ E->pD P aa f all (pre++[(x,[]),(y,[])]) t h e dQ E/\pD P aa f all (pre++[(y,[]),(x,[])]) t h e dQ E
 |[],t,h,e,dQ,E,az=>by
   cases az with
   |stop _ _ _ _ _ _ aC=>exact(Yi aF aC).elim
   |step _ _ _ _ t1 I _ _ _ aC az=>
     obtain⟨ty,a,v,bz,ei,bd,rfl,_⟩:=Yh aF aC;cases az with
     |stop _ _ _ _ _ _ aC=>exact(Yi bH aC).elim
     |step _ _ _ _ t2 R _ _ _ jy az=>
       obtain⟨vT,eR,a',PU,Yk,aY,rfl,ca⟩:=Yh bH jy;cases az with
       |nil=>obtain⟨_,_,_,_,cf,eQ⟩:=Ki aF;have qW:=ca.1;simp only[jk,cf,bz,eQ]at qW;obtain⟨lJ,cx,gn⟩:=apf ei bd aY qW;exact⟨.step _ _ _ _ _ _ _ _ _ (Kj aF bz ei bd) (.step _ _ _ _ _ _ _ _ _ (Kj bH PU Yk aY) (.nil _ _)),.step _ _ _ _ _ _ _ _ _ (Kj bH PU Yk cx) (.step _ _ _ _ _ _ _ _ _ (Kj aF bz ei gn) (.nil _ _))⟩
 |q::pre,t,h,e,dQ,E,az=>by
   cases az with
   |stop _ _ _ _ _ _ aC=>exact⟨.stop _ _ _ _ _ _ aC,.stop _ _ _ _ _ _ aC⟩
   |step _ _ _ _ t1 I _ _ _ aC az=>obtain⟨a,b⟩:=Yj aF bH az;exact⟨.step _ _ _ _ _ _ _ _ _ aC a,.step _ _ _ _ _ _ _ _ _ aC b⟩
theorem apk{dd:a9->Bool}{pl:List (Nat×List Nat)}(az:OX dd all pl=J):∃r y,pl=r++[(y,[])]/\y+1=all.size/\(∀i,i<y->mB (nQ all) i y=J)/\JF y dd all r=J:=by
 unfold OX at az;split at az
 ·rename_i y r e;simp only[gv,beq_iff_eq]at az;obtain⟨⟨I,R⟩,aj⟩:=az;rw[jW]at R;refine⟨r.reverse,y,?_,I,λi af=>R i (kD.2 af),aj⟩;have:=congrArg List.reverse e;simpa using this
 ·cases az
theorem apl{pl:List (Nat×List Nat)}(az:OW all pl=J):∃r x y,pl=r++[(x,[]),(y,[x])]/\x≠y/\tj (fI all x)=J/\tj (fI all y)=J/\uO all (r++[(x,[]),(y,[])]) (λ_=>U) (λi D=>(i,D)∈[(x,y)])/\uO all (r++[(y,[]),(x,[])]) (λ_=>U) (λi D=>(i,D)∈[(y,x)]):=by
 unfold OW at az;split at az
 ·rename_i y kP x r au;simp only[gv,beq_iff_eq,bne_iff_ne,ne_eq]at az;obtain⟨⟨⟨⟨⟨rfl,R⟩,aj⟩,aH⟩,bq⟩,cq⟩:=az;refine⟨r.reverse,kP,y,?_,R,aj,aH,BM bq,BM cq⟩;have:=congrArg List.reverse au;rw[List.reverse_reverse]at this;rw[this];simp
 ·cases az
end
section
variable{P:c'}{m bf:ey}{h E:ai}{w bj:dO}
theorem aG.refl(h:ai):aG h h:=⟨b9 _,b9 _,λ_ _=>rfl,λ_ _=>rfl⟩
theorem aG.trans{I R aj:ai}(a:aG I R)(b:aG R aj):aG I aj:=⟨e6 a.n b.n,e6 a.ids b.ids,λk ab=>(b.cell k (fS ab a.n)).trans (a.cell k ab),λk ab=>(b.hw k (fS ab a.ids)).trans (a.hw k ab)⟩
theorem aG.push(h:ai)(es:List (List F)):aG h (h.push es):=⟨by simp[ai.push],by simp[ai.push],λb ad=>by simp[ai.push,show b≠h.n by omega],λ_ _=>rfl⟩
theorem aG.fresh(h:ai)(n:Nat):aG h (h.fresh n):=⟨by simp[ai.fresh],by simp[ai.fresh],λb ad=>rfl,λk ab=>by simp[ai.fresh,show k≠h.ids by omega]⟩
theorem aG.grow{ak h:ai}(g:aG ak h){id n:Nat}(af:ak.ids<=id):aG ak (h.grow id n):=⟨g.n,g.ids,g.cell,λk ab=>by simpa[ai.grow,show k≠id by omega]using g.hw k ab⟩
theorem aG.set{ak h:ai}(g:aG ak h){b:Nat}{es:Option (List (List F))}(ad:ak.n<=b):aG ak (h.set b es):=⟨g.n,g.ids,λk ab=>by simpa[ai.set,show k≠b by omega]using g.cell k ab,g.hw⟩
theorem b8.back(x:Ext m h bf E)(g:aG h E){v:F}(r:b8 P bf E v u):∀{sD:b'},b8 P m h v sD->b8 P bf h v u:=by
 induction r with
 |aD v=>intro _ _;exact .aD v
 |bool b=>intro _ _;exact .bool b
 |int k n=>intro _ _;exact .int k n
 |str l=>intro _ _;exact .str l
 |e'=>intro _ _;exact .e'
 |ptr b i off ad=>
   intro sD hi;cases hi with
   |ptr _ _ _ nu=>exact .ptr b i off nu
 |gM t b ad a6=>
   intro sD hi;cases hi with
   |gM _ _ nu _=>exact .gM t b nu a6
 |ip e off g O ah af Z aR=>
   intro sD hi;cases hi with
   |ip _ _ sE Ge aO hg o7=>exact .ip e off g O ah af (λD ae=>aR D ae (o7 D ae))
 |aJ=>intro _ _;exact .aJ
 |b5 id e es yW O cap ah am af Z an a6 aR=>
   intro sD hi;cases hi with
   |b5 _ _ _ sE Ge aDA aO uH hg o7 z7 Kk=>refine .b5 id e es yW O cap ah am af (λi fb D ae=>aR i fb D ae (o7 i fb D ae)) an (λk ab=>?_);obtain⟨aP,a2,bl,cr⟩:=a6 k ab;obtain⟨cg,c0,fq,l5⟩:=Kk k ab;have:=g.hw k cg;exact⟨cg,a2,fq,λdT=>cr (by omega)⟩
   |oY _ _ _=>exact .b5 ag e [] yW O cap ah (by simp) (λi af=>absurd af (Nat.not_lt_zero _)) (λi af=>absurd af (Nat.not_lt_zero _)) an (λk ab=>by cases ab)
 |oY e a cap=>intro _ _;exact .oY e a cap
 |bw b O n e cap ad he kQ aA kR=>
   intro sD hi;cases hi with
   |bw _ _ _ _ _ nu _ _ _ _=>exact .bw b O n e cap nu he kQ aA kR
 |fn g l c ch eo I R aj aH z8 sr=>
   intro sD hi;cases hi with
   |fn _ _ _ hT cB aP a2 bl cr=>exact .fn g l c ch eo I R (λD ae dM=>z8 D ae dM (bl D ae (by omega))) (λD ae dM=>sr D ae dM (cr D ae (by omega)))
 |oW=>intro _ _;exact .oW
 |iZ=>intro _ _;exact .iZ
 |iface t v a' I aR=>
   intro sD hi;cases hi with
   |iface _ _ _ aP=>exact .iface t v a' (aR aP)
 |agg l ch I aj aR=>
   intro sD hi;cases hi with
   |agg _ hT aP bl=>exact .agg l ch I (λD ae dM=>aR D ae dM (bl D ae (by omega)))
 |bS l ch I aj aR=>
   intro sD hi;cases hi with
   |bS _ hT aP bl=>exact .bS l ch I (λD ae dM=>aR D ae dM (bl D ae (by omega)))
theorem cp.back(hw:cp P m h w)(x:Ext m h bf E)(g:aG h E)(lM:cp P bf E bj):Ext m h bf h/\cp P bf h bj:=by
 refine⟨⟨x.base,b9 _,b9 _,x.cu,x.eP,λk ab=>?_,x.gN⟩,?_⟩
 ·obtain⟨aP,a2,bl⟩:=x.mY k ab;exact⟨aP,b9 _,λ_=>bl (g.hw k ab)⟩
 have up:∀b es,h.cell b=o es->E.cell b=o es:=λb es ad=>by rw[g.cell b (hw.lt b es ad).1];exact ad
 refine⟨lM.size,λb es ad=>⟨(hw.lt b es ad).1,(lM.lt b es (up b es ad)).2⟩,λb es ad=>?_,λb gl es gS ad lZ=>lM.inj b gl es gS (up _ _ ad) (up _ _ lZ),lM.eP,λb es ad=>lM.sep b es (up _ _ ad),λk ab=>?_,λk ab=>?_,λk ab b es ad=>?_,λk ee ab jZ=>?_,lM.cY,λfH y ae=>?_⟩
 ·obtain⟨cs,I,R,aj,aH,bq⟩:=lM.live b es (up _ _ ad);obtain⟨aDB,_,_,_,_,hC⟩:=hw.live b es ad;refine⟨cs,I,R,aj,aH,λi af D ae=>?_⟩;obtain⟨v,cq,de⟩:=bq i af D ae;obtain⟨fJ,_,tA⟩:=hC i af D ae;exact⟨v,cq,de.back x g tA⟩
 ·have:=lM.rB k (fS ab g.ids);rwa [g.hw k ab]at this
 ·have:=lM.p8 k (fS ab g.ids);rwa [g.hw k ab]at this
 ·exact lM.oZ k (fS ab g.ids) b es (up _ _ ad)
 ·exact lM.qP k ee (fS ab g.ids) (fS jZ g.ids)
 ·obtain⟨aP,a2,bl,cr,ej⟩:=lM.gN fH y ae;exact⟨aP,a2,λb es ad=>bl b es (up _ _ ad),λk ab=>cr k (fS ab g.ids),ej⟩
theorem Gf:∀{l c9:List F},p6 l=o c9->c9.length=l.length/\∀D (ae:D<l.length) (rD:D<c9.length),dl l[D]=o c9[D]
 |[],c9,he=>by simp[p6]at he;subst he;exact⟨rfl,λD ae=>by simp at ae⟩
 |v::l,c9,he=>by
   simp only[p6]at he;split at he
   ·rename_i a' ch I R;injection he with he;subst he;obtain⟨aP,a2⟩:=Gf R;refine⟨by simp[aP],λD ae rD=>?_⟩;cases D with
    |zero=>exact I
    |succ D=>exact a2 D (by simpa using ae) (by simpa using rD)
   ·cases he
theorem Yl:∀{l c9:List (List F)},rz l=o c9->c9.length=l.length/\∀D (ae:D<l.length) (rD:D<c9.length),p6 l[D]=o c9[D]
 |[],c9,he=>by simp[rz]at he;subst he;exact⟨rfl,λD ae=>by simp at ae⟩
 |v::l,c9,he=>by
   simp only[rz]at he;split at he
   ·rename_i a' ch I R;injection he with he;subst he;obtain⟨aP,a2⟩:=Yl R;refine⟨by simp[aP],λD ae rD=>?_⟩;cases D with
    |zero=>exact I
    |succ D=>exact a2 D (by simpa using ae) (by simpa using rD)
   ·cases he
theorem b8.rJ{ak:ai}{v:F}(r:b8 P m h v u):∀{b6:F},dl v=o b6->b8 P m ak b6 u:=by
 induction r with
 |aD v=>intro b6 he;simp[dl]at he;subst he;exact .aD v
 |bool b=>intro b6 he;simp[dl]at he;subst he;exact .bool b
 |int k n=>intro b6 he;simp[dl]at he;subst he;exact .int k n
 |str l=>intro b6 he;simp[dl]at he;subst he;exact .str l
 |e'=>intro b6 he;simp[dl]at he;subst he;exact .e'
 |ptr b i off ad=>intro b6 he;simp[dl]at he
 |gM t b ad a6=>intro b6 he;simp[dl]at he
 |ip e off g O ah af Z aR=>intro b6 he;simp[dl]at he
 |aJ=>intro b6 he;simp[dl]at he;subst he;exact .aJ
 |b5 id e es yW O cap ah am af Z an a6 aR=>
   intro b6 he;simp only[dl]at he;obtain⟨yX,I,rfl⟩:=ed.1 he;obtain⟨aP,a2⟩:=Yl I;have me:∀i (af:i<es.length) (iG:i<yX.length),yX[i].length=es[i].length:=λi af iG=>(Gf (a2 i af iG)).1;have:yX.length=es.length:=aP;rw[<-this];refine .b5 ag e yX yW O cap ah (λr au=>?_) (λi fb D ae=>af i (by omega) D ae) (λi fb D ae=>?_) (by omega) (λk ab=>by cases ab)
   ·obtain⟨i,iG,rfl⟩:=List.getElem_of_mem au;rw[me i (by omega) iG];exact am _ (jl _)
   ·have hg:i<es.length:=by omega
    have tt:D<es[i].length:=by rw[<-me i hg fb];exact ae
    exact aR i hg D tt ((Gf (a2 i hg fb)).2 D tt ae)
 |oY e a cap=>intro b6 he;simp[dl,rz]at he;subst he;exact .oY e a cap
 |bw b O n e cap ad he kQ aA kR=>intro b6 he;simp[dl]at he
 |fn g l c ch eo I R aj aH z8 sr=>intro b6 he;simp[dl]at he
 |oW=>intro b6 he;simp[dl]at he;subst he;exact .oW
 |iZ=>intro b6 he;simp[dl]at he;subst he;exact .iZ
 |iface t v a' I aR=>intro b6 he;simp only[dl]at he;obtain⟨eY,I,rfl⟩:=ed.1 he;exact .iface t eY a' (aR I)
 |agg l ch I aj aR=>intro b6 he;simp only[dl]at he;obtain⟨c9,R,rfl⟩:=ed.1 he;obtain⟨aP,a2⟩:=Gf R;exact .agg c9 ch (by omega) (λD ae dM=>aR D (by omega) dM (a2 D (by omega) ae))
 |bS l ch I aj aR=>intro b6 he;simp only[dl]at he;obtain⟨c9,R,rfl⟩:=ed.1 he;obtain⟨aP,a2⟩:=Gf R;exact .bS c9 ch (by omega) (λD ae dM=>aR D (by omega) dM (a2 D (by omega) ae))
theorem AC.forget{g:di}{args:List F}{p:Bool}{q fk:(F⊕F)×ai}(iT:AC P g args h q)(aX:oh p h q=o fk):AC P g args h fk:=by
 unfold oh at aX;split at aX
 ·split at aX
  ·rename_i a5;obtain⟨x,R⟩:=q;intro m w bI hw Z;refine(iT m w bI hw Z).mono λe bj ⟨bf,cb,dF,gH,h7⟩=>?_;obtain⟨fU,jV⟩:=hw.back cb a5 dF;cases x with
   |inl v=>obtain⟨b6,aw,rfl⟩:=ed.1 aX;obtain⟨u,ay,be⟩:=h7;exact⟨bf,fU,jV,gH,u,ay,be.rJ aw⟩
   |inr v=>obtain⟨b6,aw,rfl⟩:=ed.1 aX;obtain⟨u,ay,be⟩:=h7;exact⟨bf,fU,jV,gH,u,ay,be.rJ aw⟩
  ·cases aX
 ·injection aX with aX;subst aX;exact iT
end
open Go Go.RowKit
inductive uS(pl:Nat->List (Nat×List Nat))(S:Nat->Bool):List jt->List Item->Prop
 |nil:uS pl S [] []
 |code (c:gu) (k:List jt) (K:List Item):i9 pl S c=J->uS pl S k K->uS pl S (.code c::k) (.code c::K)
 |inBlock (id:Nat) (k:List jt) (K:List Item):uS pl S k K->uS pl S (.inBlock id::k) (.inBlock id::K)
 |inLoop (c:gu) (k:List jt) (K:List Item):i9 pl S c=J->uS pl S k K->uS pl S (.inLoop c::k) (.inLoop c::K)
 |halt (K:List Item) (k:List jt):uS pl S (.halt K::k) K
def Gg(P:c')(aa:iQ)(f:di)(k:List jt)(t:List F)(h:ai)(r:k8×List F×ai):Prop:=∀K,uS (aa.cM f) (aa.fy f) k K->∀(b:g') (cs:List g') (m:ey) (w:dO) (a:Act),cp P m h w->ep P m h t a.tmps->a.defers=b.defers->fc P (aa.fy f) m h w b cs (fr (b.at a K) cs w) r
def ov(P:c')(aa:iQ)(f:di):List jt->List F->ai->k8×List F×ai->Prop
 |.ops J all l::k,t,h,r=>∃e dQ E,pD P aa f all l t h e dQ E/\(match e with|none=>Gg P aa f k dQ E r|some v=>r=(.panic v,dQ,E))
 |.ops U all l::k,t,h,r=>∀bT:List Nat,l=bT.map (λi=>(fI all i,[]))->(∀i∈bT,i<all.size)->∀K,uS (aa.cM f) (aa.fy f) k K->∀(b:g') (cs:List g') (m:ey) (w:dO) (a:Act),cp P m h w->ep P m h t a.tmps->a.defers=b.defers->fc P (aa.fy f) m h w b cs (fr (b.at a (.inRegion all bT::K)) cs w) r
 |k,t,h,r=>Gg P aa f k t h r
section
variable{P:c'}{aa:iQ}{f:di}{k:List jt}{t:List F}{h E:ai}{r:k8×List F×ai}
theorem ov.cY(hm:ov P aa f k t h r):Gg P aa f k t h r:=by
 rcases k with _|⟨x,k⟩
 ·exact hm
 ·cases x with
  |ops d all l=>intro K eB;cases eB
  |_=>exact hm
theorem apm{pl:Nat->List (Nat×List Nat)}{S:Nat->Bool}{id:Nat}:∀{k ee:List jt} {K:List Item},uS pl S k K->ps id k=o ee->∃Kl,exitTo id K=o Kl/\uS pl S ee Kl:=by
 intro k ee K ab;induction ab with
 |nil=>intro he;simp[ps]at he
 |code c k K _ _ aR=>intro he;simp only[ps]at he;simpa[exitTo]using aR he
 |inBlock i k K ab aR=>
   intro he;simp only[ps]at he;by_cases af:i=id
   ·rw[if_pos af]at he;injection he with he;subst he;exact⟨K,by simp[exitTo,af],ab⟩
   ·rw[if_neg af]at he;simpa[exitTo,af]using aR he
 |inLoop c k K _ _ aR=>intro he;simp only[ps]at he;simpa[exitTo]using aR he
 |halt K k=>intro he;simp[ps]at he
theorem Km(dx:m0 P aa){O:bm}{v:F}{m:ey}{w:dO}{a:Act}{b:g'}{cs:List g'}{K:List Item}{all:Array bm}{i:Nat}(aK:all[i]? =o O)(lb:jk all t O=o J)(hw:cp P m h w)(a6:ep P m h t a.tmps)(bo:BF P aa f t h O v E):∃bf bj u,Ext m h bf E/\cp P bf E bj/\b8 P bf E v u/\Below m.base w bj/\Steps P (fr (b.at a (.inRegion all (i::rest)::K)) cs w) (fr (b.at (a.put O.dst u) (.inRegion all rest::K)) cs bj):=by
 have DY:=Ae a6 all O lb;rcases bo with⟨_,R⟩|⟨g,args,fn,aW,bD,cl,eg⟩
 ·obtain⟨bf,bj,u,d1,d2,d3,d4,d5⟩:=XI dx.ty hw a6 (aa.bh f) R;exact⟨bf,bj,u,d2,d3,d4,d5,Pw aK DY d1⟩
 ·obtain⟨bI,cI,b6⟩:=J5 (w:=w) a6 aW bD cl.2 cl.1;obtain⟨e,bj,hS,bW⟩:=F3 (b:=b) (cs:=cs) (k:=K) (rest:=rest) aK DY b6 (eg m w bI hw cI) (by rintro bj ⟨bf,_,_,_,g8,h,_⟩;cases h);obtain⟨bf,cb,dF,gH,g8,h7,hE⟩:=hS;subst h7;rcases bW with⟨a',aj,aH⟩|⟨hv,aj,_⟩
  ·injection aj with aj;subst aj;exact⟨bf,bj,g8,cb,dF,hE,gH,aH⟩
  ·cases aj
theorem Ym{S:Nat->Bool}(dx:m0 P aa){O:bm}{v:F}{m:ey}{w:dO}{a:Act}{b:g'}{cs:List g'}{K:List Item}{all:Array bm}{i:Nat}(aK:all[i]? =o O)(hw:cp P m h w)(a6:ep P m h t a.tmps)(bg:a.defers=b.defers)(bo:Ag P all O t h v E):fc P S m h w b cs (fr (b.at a (.inRegion all (i::rest)::K)) cs w) (.panic v,t,E):=by
 obtain⟨lb,⟨aW,bD⟩|⟨g,args,fn,aW,bD,cl,eg⟩⟩:=bo
 ·have DY:=Ae a6 all O lb;obtain⟨g8,cb,dF⟩:=XP (w:=w) a6 aW;subst bD;exact⟨m,w,Ext.refl _ _,hw,nq _ _,a,_,g8,⟨t,a6,λ_ _=>rfl⟩,bg,cb,XQ aK DY dF⟩
 have DY:=Ae a6 all O lb;obtain⟨bI,cI,b6⟩:=J5 (w:=w) a6 aW bD cl.2 cl.1;obtain⟨e,bj,hS,bW⟩:=F3 (b:=b) (cs:=cs) (k:=K) (rest:=rest) aK DY b6 (eg m w bI hw cI) (by rintro bj ⟨bf,_,_,_,g8,h,_⟩;cases h);obtain⟨bf,cb,dF,gH,g8,h7,hE⟩:=hS;subst h7;rcases bW with⟨a',aj,_⟩|⟨hv,aj,todo,aH⟩
 ·cases aj
 ·injection aj with aj;subst aj;exact⟨bf,bj,cb,dF,gH,a,todo,g8,⟨t,a6.ext cb,λ_ _=>rfl⟩,bg,hE,aH⟩
theorem PV(dx:m0 P aa){g:di}{fn:Func}{c:gu}{args:List F}(bo:P.funcs[g]? =o fn)(ad:fn.body=o c)(DZ:aa.use g=J)(a5:Gg P aa g [.code c] (args++ap (fn.ntmps - args.length) .aD) h r):∀q,DB P fn r=o q->AC P g args h q:=by
 have key:∀(m:ey) (w:dO) (bI:List b'),cp P m h w->eb P m h args bI->∀cs,∃b:g',b.fn=g/\b.kind= .normal/\b.defers=[]/\fc P (aa.fy g) m h w b cs (fr (kC P g bI.toArray .normal) cs w) r:=by
  intro m w bI hw Z cs;refine⟨kC P g bI.toArray .normal,rfl,rfl,rfl,?_⟩;have:=a5 [.code c] (.code c _ _ (dx.cM g fn c bo ad DZ) .nil) (kC P g bI.toArray .normal) cs m w {tmps:=(bI++ap (fn.ntmps - bI.length) g0).toArray,defers:=[]} hw ?_ rfl
  ·have e:(kC P g bI.toArray .normal).at {tmps:=(bI++ap (fn.ntmps - bI.length) g0).toArray,defers:=[]} [.code c]=kC P g bI.toArray .normal:=by simp[kC,Frame.at,bo,ad]
   rwa [e]at this
  ·have am:=Z.1;have R:eb P m h (args++ap (fn.ntmps - args.length) .aD) (bI++ap (fn.ntmps - bI.length) g0):=by rw[am];exact eb.append Z ⟨by simp,λD ae dM=>by simp only[List.getElem_replicate];exact .aD _⟩
   refine⟨by simpa using R.1,λi af=>?_⟩;have iG:i<(bI++ap (fn.ntmps - bI.length) g0).length:=by rw[R.1];exact af
   have:=R.2 i af iG;simp only[jo,List.getElem?_toArray,fT iG,qT];exact this
 obtain⟨x,dQ,E⟩:=r;cases x with
 |ret=>intro q aX;obtain⟨v,Z,rfl⟩:=ed.1 aX;intro m w bI hw fQ cs;obtain⟨b,pu,qQ,yF,bf,bj,I,R,aj,eR,todo,aH,bq,cq⟩:=key m w bI hw fQ cs;rw[yF]at bq;obtain⟨u,de,hu⟩:=Af R aH Z;exact⟨.returned u,bj,_,⟨bf,I,R,aj,u,rfl,hu⟩,cq,pu,rfl,bq,qQ,fn,by simpa[Frame.at,pu]using bo,de⟩
 |halt K=>intro q aX;cases aX
 |panic v=>intro q aX;injection aX with aX;subst aX;intro m w bI hw fQ cs;obtain⟨b,pu,qQ,yF,bf,bj,I,R,aj,eR,todo,u,_,aH,bq,cq⟩:=key m w bI hw fQ cs;rw[yF]at aH;exact⟨.panicked _,bj,_,⟨bf,I,R,aj,u,rfl,bq⟩,cq,pu,rfl,aH,fn,by simpa[Frame.at,pu]using bo⟩
theorem ov.apn{all:Array bm}(hm:ov P aa f k t h r):ov P aa f (.ops dI all []::k) t h r:=by
 cases dI with
 |true=>exact⟨ag,t,h,.nil t h,hm.cY⟩
 |false=>
   intro bT ow ba K eB b cs m w a hw a6 bg;cases bT with
   |cons i bT=>simp at ow
   |nil=>exact fc.steps (.one step_region_end) (hm.cY K eB b cs m w a hw a6 bg)
theorem ov.Kn(dx:m0 P aa){all:Array bm}{q:bm×List bm}{l:List (bm×List bm)}{t1:List F}{I:ai}(aC:yP P aa f all q t h t1 I)(hm:ov P aa f (.ops dI all l::k) t1 I r):ov P aa f (.ops dI all (q::l)::k) t h r:=by
 cases dI with
 |true=>obtain⟨e,dQ,E,R,aj⟩:=hm;exact⟨e,dQ,E,.step _ _ _ _ _ _ _ _ _ aC R,aj⟩
 |false=>
   intro bT ow ba K eB b cs m w a hw a6 bg;cases bT with
   |nil=>simp at ow
   |cons i bT=>
     simp only[kf,yY]at ow;obtain⟨rfl,ow⟩:=ow;have aK:=xn (all:=all) (ba i (by simp));rcases aC with⟨bd,rfl,rfl⟩|⟨bd,v,aY,rfl,_⟩
     ·exact fc.steps (Px aK (Ae a6 all _ bd)) (hm bT ow (λD ae=>ba D (by simp[ae])) K eB b cs m w _ hw (a6.put b8.O3 _) (by rw[Act.DS];exact bg))
     ·obtain⟨bf,bj,u,d1,d2,d3,d4,d5⟩:=Km (b:=b) (cs:=cs) (K:=K) (rest:=bT) dx aK bd hw a6 aY;exact fc.steps d5 (fc.after d1 d4 (hm bT ow (λD ae=>ba D (by simp[ae])) K eB b cs bf bj _ d2 ((a6.ext d1).put d3 _) (by rw[Act.DS];exact bg)))
theorem ov.PW(dx:m0 P aa){all:Array bm}{q:bm×List bm}{l:List (bm×List bm)}{v:F}(aC:Ag P all q.1 t h v E):ov P aa f (.ops dI all (q::l)::k) t h (.panic v,t,E):=by
 cases dI with
 |true=>exact⟨o v,t,E,.stop _ _ _ _ _ _ aC,rfl⟩
 |false=>
   intro bT ow ba K eB b cs m w a hw a6 bg;cases bT with
   |nil=>simp at ow
   |cons i bT=>simp only[kf,yY]at ow;obtain⟨rfl,ow⟩:=ow;exact Ym dx (xn (ba i (by simp))) hw a6 bg aC
theorem apo(dx:m0 P aa){id:Nat}{all:Array bm}{d:Bool}(hm:ov P aa f (.ops d all (jT d all (aa.cM f id))::k) t h r):Gg P aa f (.code (.region id all d)::k) t h r:=by
 intro K eB b cs m w a hw a6 bg;cases eB with
 |code _ _ K au eB=>
 cases d with
 |false=>
   refine fc.steps (.one step_region) (hm (jG all.size) ?_ (λi af=>kD.1 af) K eB b cs m w a hw a6 bg);simp only[jT,mF,if_false];apply List.ext_getElem (by simp);intro i I R;have af:i<all.size:=by simpa using I
   simp[fI,af]
 |true=>
   simp only[i9,Bool.not_true,Bool.false_or]at au;rw[gv]at au;obtain⟨au,nV⟩:=au;rw[o3]at au;rcases au with au|au
   case inr=>
    obtain⟨hi,y,dj,bH,qd,dB⟩:=apk au;obtain⟨iS,Am⟩:=aoT (by omega) dB;obtain⟨e,dQ,E,az,he⟩:=hm;rw[dj]at az;have Gh:jT J all (hi++[(y,[])])=jT J all hi++[(fI all y,[])]:=by simp[jT,fI]
    rw[Gh]at az;have PX:y<all.size:=by omega
    have Gi:∀{t1:List F} {I:ai},pD P aa f all [(fI all y,[])] t1 I e dQ E->∀(cO:ey) (cx:dO) (aP:Act),cp P cO I cx->ep P cO I t1 aP.tmps->aP.defers=b.defers->fc P (aa.fy f) cO I cx b cs (fr (b.at aP (.inRegion all [y]::K)) cs cx) r:=by
     intro t1 I ox cO cx aP bR bQ da;cases ox with
     |step _ _ _ _ t2 R _ _ _ aC rE=>
       cases rE;have ki:∀(c8:ey) (gn:dO) (a2:Act),cp P c8 E gn->ep P c8 E dQ a2.tmps->a2.defers=b.defers->fc P (aa.fy f) c8 E gn b cs (fr (b.at a2 (.inRegion all []::K)) cs gn) r:=λc8 gn a2 ei fd ha=>fc.steps (.one step_region_end) (he K eB b cs c8 gn a2 ei fd ha);rcases aC with⟨bd,rfl,rfl⟩|⟨bd,v,aY,rfl,_⟩
       ·exact fc.steps (Px (xn PX) (Ae bQ all _ bd)) (ki cO cx _ bR (bQ.put b8.O3 _) (by rw[Act.DS];exact da))
       ·obtain⟨c8,gn,u,d1,d2,d3,d4,d5⟩:=Km (b:=b) (cs:=cs) (K:=K) (rest:=[]) dx (xn PX) bd bR bQ aY;exact fc.steps d5 (fc.after d1 d4 (ki c8 gn _ d2 ((bQ.ext d1).put d3 _) (by rw[Act.DS];exact da)))
     |stop _ _ _ _ v _ aC=>have he:r=(.panic v,dQ,E):=he;rw[he];exact Ym dx (xn PX) bR bQ da aC
    refine fc.steps (.one step_region_draw) (fc.after (Ext.refl _ _) (nq _ _).drew ?_);simp only[Region.schedule,dx.mixed,Bool.true_or,if_true,Region.linearise];obtain⟨q0,apq,Yn⟩:=apj Am iS bH qd (J' Am.BG _ _ (m6 all) (by simp) (by simp[List.countP_replicate];exact b9 _)) (by simp) (q1 y) (λD _ ez=>by rw[q1]at ez;cases ez);rw[apq];rcases Ye az with⟨t1,I,cb,dF⟩|⟨v,kk,cb⟩
    ·exact Yd dx Am nV cb (λ_=>Gi dF) (λv Z=>by cases Z) Yn hw.drew a6 bg
    ·subst kk;exact Yd dx Am nV cb (λZ=>by cases Z) (λb6 Z=>by injection Z with Z;rw[<-Z];exact he) Yn hw.drew a6 bg
   rw[o3]at au;rcases au with au|au
   case inr=>
    obtain⟨pre,x,y,dj,dw,bJ,q2,dB,gm⟩:=apl au;obtain⟨e,dQ,E,az,he⟩:=hm;rw[dj]at az;have aF:x<all.size:=by
     obtain⟨bR,bQ⟩:pre.length<(pre++[(x,[]),(y,[])]:List (Nat×List Nat)).length/\dG (pre++[(x,[]),(y,[])]) pre.length=x:=by simp[dG]
     rw[<-bQ];exact dB.lt _ bR
    have iS:∀a b:Nat×List Nat,jT J all (pre++[a,b])=jT J all pre++[(fI all a.1,a.2.map (fI all)),(fI all b.1,b.2.map (fI all))]:=by intro a b;simp[jT,fI]
    rw[iS]at az;obtain⟨bd,aY⟩:=Yj bJ q2 az;have h6:e=ag->∀(cO:ey) (cx:dO) (aP:Act),cp P cO E cx->ep P cO E dQ aP.tmps->aP.defers=b.defers->fc P (aa.fy f) cO E cx b cs (fr (b.at aP K) cs cx) r:=by intro dj;subst dj;exact λcO cx aP bR bQ da=>he K eB b cs cO cx aP bR bQ da
    have qZ:∀v,e=o v->r=(.panic v,dQ,E):=by intro v dj;subst dj;exact he
    have oo:∀L,mg all (λ_ _=>False) (m6 all) L->fc P (aa.fy f) m h w.drew b cs (fr (b.at a (.inRegion all L::K)) cs w.drew) r:=by
     intro L aK;rcases Gc dw aF aK (by simp) (q1 x) (q1 y)with aK|aK
     ·refine PS dx dB nV (by rw[iS];exact bd) h6 qZ (aK.mono λi D ae=>?_) hw.drew a6 bg;simp only[xq,kW]at ae;exact .inr ae
     ·refine PS dx gm nV (by rw[iS];exact aY) h6 qZ (aK.mono λi D ae=>?_) hw.drew a6 bg;simp only[xq,kW]at ae;exact .inr ae
    refine fc.steps (.one step_region_draw) (fc.after (Ext.refl _ _) (nq _ _).drew ?_);simp only[Region.schedule,dx.mixed,Bool.true_or,if_true,Region.linearise];exact oo _ (J' dB.BG _ _ _ (by simp) (by simp[List.countP_replicate]))
   have pp:=aoU au;have cw:∀d,aa.fy f d=J->∀k,k<(aa.cM f id).length->(dr all (aa.cM f id) k).dst≠o d:=λd bg k ab e=>by have ba:=pp.lt k ab;have hm:=jW.1 nV (dr all (aa.cM f id) k) (Array.mem_toList_iff.2 (Array.mem_of_getElem? (xn ba)));rw[e]at hm;simp[bg]at hm
   obtain⟨e,dQ,E,az,he⟩:=hm;obtain⟨N,cK,aC,I,R,aj,aH,bq,cq⟩:=az.trace;generalize iS:aa.cM f id=pl at*;have hlen:(jT J all pl).length=pl.length:=by simp[jT]
   have nW:∀i,i<pl.length->(jT J all pl)[i]? =o (dr all pl i,(uN pl i).map (fI all)):=by
    intro i af;simp only[jT,if_true,xl,fT af,i3,iF];have aw:pl.getD i default=pl[i]:=by simp[cZ,af]
    simp only[dr,fI,dG,uN,aw];rfl
   have T:m3 P aa f all pl (FN (aa.fy f)) (λ_ _=>False) N cK aC:=⟨pp.toQ,by omega,(λty h=>dx.XK f ty h),λi af=>bq i _ af (nW i (by omega))⟩;subst R;subst aj;subst aH;refine fc.steps (.one step_region_draw) (fc.after (Ext.refl _ _) (nq _ _).drew ?_);simp only[Region.schedule,dx.mixed,Bool.true_or,if_true,Region.linearise];have yL:m=m.gO m.gN:=rfl;rw[yL];refine Ya (S:=aa.fy f) (aL:=m.gN) pp.len cw (r:=r) (K:=K) (b:=b) (cs:=cs) dx (λe I he=>dx.XJ f e I he) T ?_ ?_ _ (Array.replicate all.size U) 0 (λ_=>0) m a _ (J' pp.BG _ _ _ (by simp) ?_) ⟨mI _,by simp,λD ae ez=>?_,λD ae ez=>?_,λD ae ez=>?_,λD ae=>by omega,λD _ ae ez=>?_,λD tv _ _ ae dM ez=>?_,hw.drew,?_,bg,λ_ _ h=>h⟩
   ·cases e with
    |none=>exact .inl (by omega)
    |some v=>
      obtain⟨q,aX,bW⟩:=cq;have e5:N<pl.length:=by have:=(fO.1 aX).1;omega
      rw[nW N e5]at aX;injection aX with aX;subst aX;exact .inr ⟨v,E,e5,bW,he⟩
   ·intro e5 cO cx aP bR bQ da;cases e with
    |none=>obtain⟨_,cq⟩:=cq;subst cq;exact he K eB b cs cO cx aP bR bQ da
    |some v=>obtain⟨q,aX,bW⟩:=cq;have:=(fO.1 aX).1;omega
   ·simp[List.countP_replicate]
   ·rw[pp.len]at ae;simp[jo,ae]at ez
   ·rw[pp.len]at ae;simp[jo,ae]at ez
   ·have:=pp.lt D ae;simp[jo,this]at ez
   ·have:=pp.lt D ae;simp[jo,this]at ez
   ·have:=pp.lt D ae;simp[jo,this]at ez
   ·have am:=T.len 0 (mI _);refine ep.of (by rw[nU,<-am];exact a6.1) λd uR=>?_;have Gb:d<(cK 0).length:=by rw[nU]at uR;omega
    by_cases v6:sB all pl (Array.replicate all.size U) 0 d
    ·rw[uQ v6];have be:=T.g9 d 0 N (by omega) (λD _ ae he=>by
      have ez:D<pl.length:=by omega
      have:=(v6 D ez he).2;omega)
     rw[ir]at be;rw[be];exact a6.slot Gb
    ·rw[DR v6];exact .aD _
end
theorem Ko{P:c'}{aa:iQ}(dx:m0 P aa):∀(f:di) (k:List jt) (t:List F) (h:ai) (r:k8×List F×ai),dW P aa f k t h=o r->ov P aa f k t h r:=by
 refine dW.partial_correctness P aa (ov P aa) λrun aR f k t h r au=>?_;split at au
 ·injection au with au;subst au;intro K eB b cs m w a hw a6 bg;cases eB;exact⟨m,w,Ext.refl _ _,hw,nq _ _,a,[],a6,bg,.one step_end⟩
 ·rename_i id k;intro K eB b cs m w a hw a6 bg;cases eB with
  |inBlock _ _ K eB=>exact fc.steps (.one step_inBlock) ((aR _ _ _ _ _ au).cY K eB b cs m w a hw a6 bg)
 ·rename_i apr k;injection au with au;subst au;intro K eB b cs m w a hw a6 bg;cases eB;exact⟨m,w,Ext.refl _ _,hw,nq _ _,a,a6,bg,Steps.refl _ _⟩
 ·rename_i c k;intro K eB b cs m w a hw a6 bg;cases eB with
  |inLoop _ _ K an eB=>exact fc.steps (.one step_inLoop) ((aR _ _ _ _ _ au).cY _ (.code c _ _ an (.inLoop c _ _ an eB)) b cs m w a hw (a6.clear _) bg)
 ·exact(aR _ _ _ _ _ au).apn
 ·rename_i dI all O ca l k;split at au
  ·cases au
  ·rename_i lb;exact ov.Kn dx (.inl ⟨lb,rfl,rfl⟩) (aR _ _ _ _ _ au)
  ·rename_i lb;split at au
   ·rename_i v Gh;injection au with au;subst au;exact ov.PW (q:=(O,ca)) dx ⟨lb,.inl ⟨Gh,rfl⟩⟩
   split at au
   ·rename_i g args D0;split at au
    ·rename_i ah dJ;obtain⟨⟨x,I⟩,aF,au⟩:=dX.1 au;obtain⟨fn,pF,ie,iT⟩:=dx.ext g ah dJ;cases x with
     |inl v=>
       simp only at au;split at au
       ·rename_i qW;exact ov.Kn (q:=(O,ca)) dx (.inr ⟨lb,v,.inr ⟨g,args,fn,D0,pF,ie,iT args h _ aF⟩,rfl,qW⟩) (aR _ _ _ _ _ au)
       ·cases au
     |inr v=>simp only at au;injection au with au;subst au;exact ov.PW dx ⟨lb,.inr ⟨g,args,fn,D0,pF,ie,iT args h _ aF⟩⟩
    ·split at au
     ·cases au
     ·rename_i fn pF;split at au
      ·cases au
      ·rename_i c an;split at au
       ·cases au
       ·rename_i bV;have DZ:aa.use g=J:=by simpa using bV
        obtain⟨bx,aF,au⟩:=dX.1 au;obtain⟨bR,Kp,au⟩:=dX.1 au;obtain⟨⟨x,I⟩,uT,au⟩:=dX.1 au;have iT:=(PV dx pF an DZ (aR _ _ _ _ _ aF).cY bR Kp).forget uT;have qX:fn.body.isNone=U/\(fn.name== "runtime.NumGoroutine")=U:=⟨by simp[an],dx.name g fn pF DZ⟩;cases x with
        |inl v=>
          simp only at au;split at au
          ·rename_i qW;exact ov.Kn (q:=(O,ca)) dx (.inr ⟨lb,v,.inr ⟨g,args,fn,D0,pF,qX,iT⟩,rfl,qW⟩) (aR _ _ _ _ _ au)
          ·cases au
        |inr v=>simp only at au;injection au with au;subst au;exact ov.PW dx ⟨lb,.inr ⟨g,args,fn,D0,pF,qX,iT⟩⟩
   ·rename_i D0;obtain⟨⟨v,I⟩,aF,au⟩:=dX.1 au;simp only at au;split at au
    ·rename_i qW;exact ov.Kn (q:=(O,ca)) dx (.inr ⟨lb,v,.inl ⟨D0,aF⟩,rfl,qW⟩) (aR _ _ _ _ _ au)
    ·cases au
 ·rename_i c k;split at au
  ·intro K eB b cs m w a hw a6 bg;cases eB with
   |code _ _ K an eB=>exact fc.steps (.one step_skip) ((aR _ _ _ _ _ au).cY K eB b cs m w a hw a6 bg)
  ·intro K eB b cs m w a hw a6 bg;cases eB with
   |code _ _ K an eB=>exact fc.steps (.one step_label) ((aR _ _ _ _ _ au).cY K eB b cs m w a hw a6 bg)
  ·intro K eB b cs m w a hw a6 bg;cases eB with
   |code _ _ K an eB=>simp only[i9,gv]at an;exact fc.steps (.one step_seq) ((aR _ _ _ _ _ au).cY _ (.code _ _ _ an.1 (.code _ _ _ an.2 eB)) b cs m w a hw a6 bg)
  ·rename_i c x y;split at au
   ·rename_i a0 tu;intro K eB b cs m w a hw a6 bg;cases eB with
    |code _ _ K an eB=>
      simp only[i9,gv]at an;have Z:=h4 a6 c;rw[tu]at Z;have aps:a.eval c= .bool a0:=by revert Z;generalize a.eval c=q;intro Z;cases Z;rfl
      refine fc.steps (.one (step_cond aps)) ?_;cases a0 with
      |true=>exact(aR _ _ _ _ _ (by simpa using au)).cY _ (.code _ _ _ an.1 eB) b cs m w a hw a6 bg
      |false=>exact(aR _ _ _ _ _ (by simpa using au)).cY _ (.code _ _ _ an.2 eB) b cs m w a hw a6 bg
   ·cases au
  ·intro K eB b cs m w a hw a6 bg;cases eB with
   |code _ _ K an eB=>exact fc.steps (.one step_block) ((aR _ _ _ _ _ au).cY _ (.code _ _ _ (by simpa[i9]using an) (.inBlock _ _ _ eB)) b cs m w a hw a6 bg)
  ·intro K eB b cs m w a hw a6 bg;cases eB with
   |code _ _ K an eB=>have kY:=an;simp only[i9]at kY;exact fc.steps (.one step_loop) ((aR _ _ _ _ _ au).cY _ (.code _ _ _ kY (.inLoop _ _ _ kY eB)) b cs m w a hw (a6.clear _) bg)
  ·obtain⟨ee,jZ,au⟩:=dX.1 au;intro K eB b cs m w a hw a6 bg;cases eB with
   |code _ _ K an eB=>obtain⟨Kl,I,R⟩:=apm eB jZ;exact fc.steps (.one (step_exit I)) ((aR _ _ _ _ _ au).cY Kl R b cs m w a hw a6 bg)
  ·injection au with au;subst au;intro K eB b cs m w a hw a6 bg;cases eB with
   |code _ _ K an eB=>exact⟨m,w,Ext.refl _ _,hw,nq _ _,a,_,a6,bg,.one step_ret⟩
  ·exact apo dx (aR _ _ _ _ _ au)
  ·cases au
theorem Yo{P:c'}{aa:iQ}(dx:m0 P aa){g:di}{args:List F}{h:ai}{r:(F⊕F)×ai}(au:aU P aa g args h=o r):AC P g args h r:=by
 unfold aU at au;split at au
 ·rename_i ah dJ;obtain⟨fn,_,_,iT⟩:=dx.ext g ah dJ;exact iT args h r au
 ·split at au
  ·cases au
  ·rename_i fn pF;split at au
   ·cases au
   ·rename_i c an;split at au
    ·cases au
    ·rename_i bV;have DZ:aa.use g=J:=by simpa using bV
     obtain⟨bx,aF,au⟩:=dX.1 au;obtain⟨bR,Kp,au⟩:=dX.1 au;exact(PV dx pF an DZ (Ko dx _ _ _ _ _ aF).cY bR Kp).forget au
inductive Arg where
 |v (D:Nat)
 |l (i:Nat)
 |c (a:F)
def arg(V L:List F):Arg->F
 |.v D=>V.getD D .aD
 |.l i=>L.getD i .aD
 |.c a=>a
inductive eT where
 |a8 (x:Arg)
 |pick (c x y:Arg)
 |build (z:List F) (pl:List (Nat×Nat)) (parts:List (Nat×Arg))
 |lN (x:Arg)
 |bin (fj:kO) (op:BinOp) (x y:Arg)
 |BN (fj:kO) (aQ:Option (List kO)) (hU:Bool) (op:BinOp) (x y:Arg)
 |un (op:UnOp) (x:Arg)
 |conv (fj:kO) (x:Arg)
 |Gj (t:a9) (x:Arg)
 |Gk (g:di) (first captured:List Arg)
 |yZ (s:Bool) (e:Option a9) (x:Arg) (iP af:Option Arg)
 |db (off:Nat) (x:Arg)
 |Gl (agg:Bool) (n off:Nat) (x:Arg)
 |fe (e:Option a9) (g2:Option (Nat×Nat)) (x k:Arg)
 |bJ (s:Bool) (g2:Option (Nat×Nat×Bool)) (x k:Arg)
 |Gm (aS:a9) (ok:Bool) (x:Arg)
 |ext (x:Arg) (i:Nat)
 |len (s:Bool) (e:Option a9) (x:Arg)
 |alloc (z:List F)
 |PY (t:a9) (z:List F)
 |kV (od:Bool) (x y:Arg)
 |box (n:Nat) (x:Arg)
 |PZ (t:a9) (n:Nat) (x:Arg)
 |lx (bh:Bool) (e:a9) (z:List F) (n len:Nat) (parts:List (Nat×Arg))
 |Kq (e:a9) (z:List F) (n len:Nat) (parts:List (Nat×Arg))
 |load (agg:Bool) (n:Nat) (x:Arg)
 |store (n:Nat) (a x:Arg)
 |Kr (e:a9) (z:List F) (l c:Arg)
 |app (bh:Bool) (e:a9) (x y:Arg)
 |apps (bh:Bool) (e:a9) (x y:Arg)
 |call (f:Arg) (args:List Arg)
 |An (x:Arg)
inductive qg where
 |l
 |v (D:Nat)
 |n
structure xr where
 guard:Option (Arg×Bool)
 agg:Bool
 n:Nat
 a:Arg
 d:Arg
inductive aE where
 |i (d:qg) (O:eT)
 |g (a:Arg) (w:Bool) (d:qg) (O:eT)
 |ca (l:List xr)
inductive bb where
 |ops (l:List aE)
 |cond (a:Arg) (x y:List bb)
 |block (id:Nat) (b:List bb)
 |loop (b:List bb)
 |exit (id:Nat)
 |ret
inductive j0 where
 |bP (l:List bb)
 |ops (l:List aE)
 |cu (id:Nat)
 |eM (b:List bb)
 |halt (K:List Item)
inductive o8 where
 |v (D:Nat)
 |cell (agg:Bool) (n:Nat) (D:Nat)
def dY(e:Option a9)(g2:Option (Nat×Nat))(x k:F):Option F:=
 match x,k with
 |.b5 _ el es,.int _ k=>if e=o el/\0<=k then(es[k.toNat]?).map λe=>.ip e 0 else ag
 |.bw b O n el,.int _ k=>if e=o el/\0<=k/\k<n then o (.ptr b (O+k.toNat) 0)else ag
 |.ptr b i off,.int _ k=>g2.bind λq=>if q.2≠0/\0<=k/\k<q.1 then o (.ptr b i (off+k.toNat*q.2))else ag
 |.ip e off,.int _ k=>g2.bind λq=>if q.2≠0/\0<=k/\k<q.1 then o (.ip e (off+k.toNat*q.2))else ag
 |_,_=>ag
def Gn(s:Bool)(g2:Option (Nat×Nat×Bool))(x k:F):Option F:=
 match x,k with
 |.str l,.int _ k=>if s=J/\0<=k then(l[k.toNat]?).map λc=>.int .u8 c.toNat else ag
 |.agg cs,.int _ k=>g2.bind λq=>if q.2.1≠0/\0<=k/\k<q.1 then fZ q.2.2 q.2.1 cs (k.toNat*q.2.1)else ag
 |_,_=>ag
def kE(s:Bool)(e:Option a9):F->Bool
 |.str _=>s
 |.b5 _ el _=>e==o el
 |.bw _ _ _ el=>e==o el
 |.aJ=>e.isSome
 |_=>U
def Gp:F->Option F
 |.ptr b i off=>o (.ptr b i off)
 |.gM t b=>o (.gM t b)
 |.ip e off=>o (.ip e off)
 |.fn f a c=>o (.fn f a c)
 |.iface q v=>o (.iface q v)
 |_=>ag
def P0:kO->Bool
 |.iface=>J
 |_=>U
def rK(fj:kO)(aQ:Option (List kO))(hU:Bool)(op:BinOp)(x y:F):Option F:=
 match x,y with
 |.iZ,.iZ=>if P0 fj&&hU then(match op with|.eql=>o (.bool J)|.neq=>o (.bool U)|_=>ag)else ag
 |.agg xs,.agg eG=>aQ.bind λaQ=>match op with
   |.eql=>(uy aQ xs eG).map λb=>.bool b
   |.neq=>(uy aQ xs eG).map λb=>.bool !b
   |_=>ag
 |a,b=>eO fj op a b
def P1(c x y:F):Option F:=match c with
 |.bool v=>o (if v then x else y)
 |_=>ag
def Ks(t:a9)(x:F):Option F:=if x.one then o (.iface t x)else match x with
 |.agg cs=>o (.iface t (.agg cs))
 |_=>ag
def D1(aS:a9)(ok:Bool):F->Option F
 |.iface q v=>if q=aS then o (if ok then .bS [v,.bool J]else v)else ag
 |_=>ag
def P2(x:F)(i:Nat):Option F:=match x with
 |.bS bI=>bI[i]?
 |_=>ag
def Kt(agg:Bool)(n off:Nat):F->Option F
 |.agg cs=>fZ agg n cs off
 |_=>ag
def P3(e:a9)(z:List F)(l c:F)(h:ai):Option (F×ai):=match l,c with
 |.int _ n,.int _ m=>if 0<=n/\n=m/\n<=100000 then o (.bw h.n 0 n.toNat e,h.push (ap n.toNat z))else ag
 |_,_=>ag
def ig(V L:List F)(h:ai):eT->Option (F×ai)
 |.a8 x=>o (arg V L x,h)
 |.pick c x y=>(P1 (arg V L c) (arg V L x) (arg V L y)).map λv=>(v,h)
 |.build z pl parts=>(qL pl z (parts.map λq=>(q.1,arg V L q.2))).map λcs=>(.agg cs,h)
 |.lN x=>(Gp (arg V L x)).map λv=>(v,h)
 |.bin fj op x y=>(eO fj op (arg V L x) (arg V L y)).map λv=>(v,h)
 |.BN fj aQ hU op x y=>(rK fj aQ hU op (arg V L x) (arg V L y)).map λv=>(v,h)
 |.un op x=>(Bt op (arg V L x)).map λv=>(v,h)
 |.conv fj x=>(z2 fj (arg V L x)).map λv=>(v,h)
 |.Gj t x=>(Ks t (arg V L x)).map λv=>(v,h)
 |.Gk g first captured=>o (.fn g (first.map (arg V L)) (captured.map (arg V L)),h)
 |.yZ s e x iP af=>if kE s e (arg V L x)then(ru (arg V L x) (iP.map (arg V L)) (af.map (arg V L))).map λv=>(v,h)else ag
 |.db off x=>(cd off (arg V L x)).map λv=>(v,h)
 |.Gl agg n off x=>(Kt agg n off (arg V L x)).map λv=>(v,h)
 |.fe e g2 x k=>(dY e g2 (arg V L x) (arg V L k)).map λv=>(v,h)
 |.bJ s g2 x k=>(Gn s g2 (arg V L x) (arg V L k)).map λv=>(v,h)
 |.Gm aS ok x=>(D1 aS ok (arg V L x)).map λv=>(v,h)
 |.ext x i=>(P2 (arg V L x) i).map λv=>(v,h)
 |.len s e x=>if kE s e (arg V L x)then(hX (arg V L x)).map λ(n:Nat)=>(JC n,h)else ag
 |.alloc z=>o (.ptr h.n 0 0,h.push [z])
 |.PY t z=>o (.gM t h.n,h.push [z])
 |.kV od x y=>(z3 od (arg V L x) (arg V L y)).map λv=>(v,h)
 |.box n x=>if(arg V L x).cells.all F.one/\(arg V L x).cells.length=n then o (.ptr h.n 0 0,h.push [(arg V L x).cells])else ag
 |.PZ t n x=>if(arg V L x).cells.all F.one/\(arg V L x).cells.length=n then o (.gM t h.n,h.push [(arg V L x).cells])else ag
 |.lx bh e z n len parts=>(qM n (ap len z) (parts.map λq=>(q.1,arg V L q.2))).map λes=>if bh then(.bw h.n 0 len e,h.push es)else(.b5 (o h.ids) e es,h.fresh len)
 |.Kq e z n len parts=>(qM n (ap len z) (parts.map λq=>(q.1,arg V L q.2))).map λes=>(.b5 ag e es,h)
 |.load agg n x=>(cR agg n h (arg V L x)).map λv=>(v,h)
 |.store n a x=>(e0 n h (arg V L a) (arg V L x)).map λE=>(.aD,E)
 |.Kr e z l c=>P3 e z (arg V L l) (arg V L c) h
 |.app bh e x y=>eH bh e (arg V L x) (arg V L y) h
 |.apps bh e x y=>FL bh e (arg V L x) (arg V L y) h
 |.call _ _=>ag
 |.An _=>ag
def BO(V L:List F)(a:Arg)(w:Bool):Option Bool:=match arg V L a with
 |.bool b=>o (if w then b else !b)
 |.bS _=>o U
 |_=>ag
def D2(V L:List F):Option (Arg×Bool)->Option Bool
 |none=>o J
 |some (a,w)=>BO V L a w
def xt(V L:List F)(h:ai):List xr->Prop
 |[]=>True
 |q::r=>(match D2 V L q.guard with
    |some J=>cR q.agg q.n h (arg V L q.a)=o (arg V L q.d)
    |_=>True)/\xt V L h r
def iK(V L:List F):eT->Option (di×List F)
 |.call f args=>match arg V L f with
   |.fn g first captured=>o (g,first++args.map (arg V L)++captured)
   |_=>ag
 |_=>ag
def Ao(V L:List F):eT->Option F
 |.An x=>match arg V L x with
   |.iface q v=>o (.iface q v)
   |_=>ag
 |_=>ag
def ly(V:List F)(v:F):qg->List F
 |.v D=>V.set D v
 |_=>V
def l6(L:List F)(v:F):qg->List F
 |.l=>v::L
 |_=>L
def nX(id:Nat):List j0->Option (List j0)
 |[]=>ag
 |.cu i::k=>if i=id then o k else nX id k
 |.halt _::_=>ag
 |_::k=>nX id k
open Classical in
noncomputable def bB(C:di->List F->ai->Option ((F⊕F)×ai))(aZ:Nat)(k:List j0)(V L:List F)(h:ai):Option (k8×List F×ai):=
 match k with
 |[]=>o (.ret,V,h)
 |.bP []::k=>bB C aZ k V L h
 |.bP (s::l)::k=>
   match s with
   |.ops bT=>bB C aZ (.ops bT::.bP l::k) V [] h
   |.cond a x y=>match arg V [] a with
     |.bool b=>if b then bB C aZ (.bP x::.bP l::k) V [] h else bB C aZ (.bP y::.bP l::k) V [] h
     |_=>ag
   |.block id b=>bB C aZ (.bP b::.cu id::.bP l::k) V L h
   |.loop b=>bB C aZ (.eM b::.bP l::k) V L h
   |.exit id=>nX id k>>= λee=>bB C aZ ee V L h
   |.ret=>o (.ret,V,h)
 |.cu _::k=>bB C aZ k V L h
 |.halt K::_=>o (.halt K,V,h)
 |.eM b::k=>bB C aZ (.bP b::.eM b::k) (b2 aZ V) L h
 |.ops []::k=>bB C aZ k V [] h
 |.ops (.ca l::bT)::k=>if xt V L h l then bB C aZ (.ops bT::k) V L h else ag
 |.ops (.i d O::bT)::k=>
  match Ao V L O with
  |some v=>o (.panic v,V,h)
  |none=>
   match iK V L O with
   |some (g,args)=>C g args h>>= λr=>match r.1 with
     |.inl v=>bB C aZ (.ops bT::k) (ly V v d) (l6 L v d) r.2
     |.inr v=>o (.panic v,V,r.2)
   |none=>ig V L h O>>= λr=>bB C aZ (.ops bT::k) (ly V r.1 d) (l6 L r.1 d) r.2
 |.ops (.g a w d O::bT)::k=>
   match BO V L a w with
   |none=>ag
   |some U=>bB C aZ (.ops bT::k) (ly V (.bS []) d) (l6 L (.bS []) d) h
   |some J=>
    match Ao V L O with
    |some v=>o (.panic v,V,h)
    |none=>
     match iK V L O with
     |some (g,args)=>C g args h>>= λr=>match r.1 with
       |.inl v=>bB C aZ (.ops bT::k) (ly V v d) (l6 L v d) r.2
       |.inr v=>o (.panic v,V,r.2)
     |none=>ig V L h O>>= λr=>bB C aZ (.ops bT::k) (ly V r.1 d) (l6 L r.1 d) r.2
partial_fixpoint
section
variable(P:c')
def uU(l:List Nat)(i:Nat):Option Nat:=go l 0
where go:List Nat->Nat->Option Nat
 |[],_=>ag
 |x::l,n=>if x=i then o n else go l (n+1)
def qh(bk lm:List Nat):g7->Option Arg
 |.tmp i=>match uU lm i with
   |some k=>o (.l k)
   |none=>(uU bk i).map .v
 |.const v=>o (.c (Bs v))
 |.func f=>o (.c (.fn f [] []))
 |.global _=>ag
def BP(bk lm:List Nat):List g7->Option (List Arg)
 |[]=>o []
 |x::l=>(qh bk lm x).bind λa=>(BP bk lm l).map (a::·)
def Ku(a b:Bool)(e:a9)(z:List F)(n len:Nat)(e7:List (Nat×Arg)):eT:=if a then .lx J e z n len e7 else if b then .Kq e z n len e7 else .lx U e z n len e7
def D3(bk lm:List Nat):List (Nat×g7)->Option (List (Nat×Arg))
 |[]=>o []
 |x::l=>(qh bk lm x.2).bind λa=>(D3 bk lm l).map ((x.1,a)::·)
def Gq(bk lm:List Nat):Option g7->Option (Option Arg)
 |none=>o ag
 |some x=>(qh bk lm x).map o
def BQ:kO->Bool
 |.iface|.agg|.other=>U
 |_=>J
def Kv:g7->Bool
 |.const _=>J
 |_=>U
def y0(bh:a9->Bool)(bk lm:List Nat)(O:bm):Option eT:=
 let A:=qh bk lm
 match O.op with
 |.move x=>(A x).map .a8
 |.assign x=>(A x).map .a8
 |.pick c x y=>(A c).bind λc=>(A x).bind λx=>(A y).map λy=>.pick c x y
 |.build ty parts=>(lp P ty).bind λz=>(D3 bk lm parts.toList).bind λe7=>match ux P ty with
   |some pl=>if pl.all (λq=>dA P q.2 != 0)then o (.build z (pl.map λq=>(q.1,dA P q.2)) e7)else ag
   |none=>(sp P ty).bind λq=>if dA P q.2=0 then ag else o (.build z ((jG q.1).map λi=>(i*dA P q.2,dA P q.2)) e7)
 |.nilCheck x=>(A x).map .lN
 |.binOp op ty x y _=>(A x).bind λkP=>(A y).map λtB=>if BQ (iE P ty)then .bin (iE P ty) op kP tB else .BN (iE P ty) (xc P ty) (Kv y) op kP tB
 |.unOp op _ x=>(A x).map (.un op)
 |.convert src dst x=>if(P.underlying src).isNone then ag else(A x).map (.conv (iE P dst))
 |.makeInterface ty x=>if yv P ty=U then ag else(A x).map (.Gj ty)
 |.makeFunc f first captured=>match f with
   |.func g=>(BP bk lm first.toList).bind λa=>(BP bk lm captured.toList).map λc=>.Gk g a c
   |_=>ag
 |.slice ty x iP af od=>if od.isSome then ag else(A x).bind λx=>(Gq bk lm iP).bind λiP=>(Gq bk lm af).map λaf=>.yZ (p4 P ty) (kN P ty) x iP af
 |.fieldAddr s x f=>((ux P s).bind (·[f]?)).bind λq=>if dA P q.2=0 then ag else(A x).map (.db q.1)
 |.field s x f=>((ux P s).bind (·[f]?)).bind λq=>if dA P q.2=0\/(P.underlying q.2).isNone then ag else(A x).map (.Gl (k7 P q.2) (dA P q.2) q.1)
 |.indexAddr ty x bJ=>(A x).bind λx=>(A bJ).map λk=>.fe (kN P ty) ((sp P ty).map λq=>(q.1,dA P q.2)) x k
 |.index ty x bJ=>(A x).bind λx=>(A bJ).map λk=>.bJ (p4 P ty) ((sp P ty).bind λq=>if(P.underlying q.2).isSome then o (q.1,dA P q.2,k7 P q.2)else ag) x k
 |.typeAssert x _ aS ok=>if yv P aS=J then(A x).map (.Gm aS ok)else ag
 |.extract x i=>(A x).map λx=>.ext x i
 |.call {callee:=.builtin .len,args,argTypes}=>match args.toList,argTypes.toList with
   |[x],ty::_=>(A x).map (.len (p4 P ty) (kN P ty))
   |_,_=>ag
 |.alloc e=>(lp P e).map λz=>if bh e then .PY e z else .alloc z
 |.box e x=>(A x).map λx=>if bh e then .PZ e (dA P e) x else .box (dA P e) x
 |.buildSlice ty len parts=>(kN P ty).bind λe=>(lp P e).bind λz=>if len*dA P e<=16777216 then(D3 bk lm parts.toList).map (Ku (bh ty) (bh (ty+1000000)) e z (dA P e) len)else ag
 |.load ty a=>if(P.underlying ty).isNone then ag else(A a).map (.load (k7 P ty) (dA P ty))
 |.store ty a x=>if dA P ty=0 then ag else(A a).bind λa=>(A x).map (.store (dA P ty) a)
 |.makeSlice ty l c=>(kN P ty).bind λe=>(lp P e).bind λz=>(A l).bind λl=>(A c).map λc=>.Kr e z l c
 |.call {callee:=.builtin .append,args,argTypes}=>match args.toList,argTypes.toList with
   |[x,y],[ty,vT]=>if ty=vT then(kN P ty).bind λe=>if(lp P e).isSome then(A x).bind λx=>(A y).map λy=>.app (bh ty) e x y else ag else if p4 P vT then(kN P ty).bind λe=>if FK P e then(A x).bind λx=>(A y).map λy=>.apps (bh ty) e x y else ag else ag
   |_,_=>ag
 |.call {callee:=.value f,args,..}=>(A f).bind λf=>(BP bk lm args.toList).map (.call f)
 |.panic x=>(A x).map .An
 |.call {callee:=.builtin .min,args,..}=>match args.toList with
   |[x,y]=>(A x).bind λx=>(A y).map (.kV U x)
   |_=>ag
 |.call {callee:=.builtin .max,args,..}=>match args.toList with
   |[x,y]=>(A x).bind λx=>(A y).map (.kV J x)
   |_=>ag
 |_=>ag
def D4(bk lm:List Nat)(all:Array bm)(O:bm):Option (Option (Arg×Bool)):=
 match O.guard with
 |none=>o ag
 |some (D,want)=>((all[D]?).bind (·.dst)).bind λd=>(qh bk lm (.tmp d)).map λa=>o (a,want)
def Yp(bk lm:List Nat)(all:Array bm)(O:bm):Option xr:=
 match O.op,O.dst with
 |.load ty a,o d=>(D4 bk lm all O).bind λg=>(qh bk lm a).bind λa=>(qh bk lm (.tmp d)).map λd=>⟨g,k7 P ty,dA P ty,a,d⟩
 |.store ty a x,ag=>(D4 bk lm all O).bind λg=>(qh bk lm a).bind λa=>(qh bk lm x).map λd=>⟨g,k7 P ty,dA P ty,a,d⟩
 |_,_=>ag
def Ap(bk lm:List Nat)(all:Array bm):List bm->Option (List xr)
 |[]=>o []
 |O::l=>(Yp P bk lm all O).bind λq=>(Ap bk lm all l).map (q::·)
def BR(n:Nat)(bk lm:List Nat):Option Tmp->Option (qg×List Nat)
 |none=>o (.n,lm)
 |some d=>if n<=d\/(uU lm d).isSome then ag else match uU bk d with
   |some D=>o (.v D,lm)
   |none=>o (.l,d::lm)
def Yq(g:Option (Arg×Bool))(d:qg)(r:eT):aE:=match g with
 |none=>.i d r
 |some (a,w)=>.g a w d r
def Kw(c:List xr)(bT:List aE):List aE:=match c with
 |[]=>bT
 |q::c=>.ca (q::c)::bT
def oy(bh:a9->Bool)(n:Nat)(bk:List Nat)(all:Array bm):List Nat->List (bm×List bm)->Option (List aE)
 |_,[]=>o []
 |lm,(O,ca)::l=>(y0 P bh bk lm O).bind λr=>(D4 bk lm all O).bind λg=>(BR n bk lm O.dst).bind λd=>(Ap P bk d.2 all ca).bind λc=>(oy bh n bk all d.2 l).map λbT=>Yq g d.1 r::Kw c bT
def hF(bh:a9->Bool)(cM:Nat->List (Nat×List Nat))(n:Nat)(bk:List Nat):gu->List bb->Option (List bb)
 |.skip,r=>o r
 |.label _,r=>o r
 |.seq a b,r=>(hF bh cM n bk b r).bind λr=>hF bh cM n bk a r
 |.cond c x y,r=>(qh bk [] c).bind λc=>(hF bh cM n bk x []).bind λx=>(hF bh cM n bk y []).map λy=>.cond c x y::r
 |.block id b,r=>(hF bh cM n bk b []).map λb=>.block id b::r
 |.loop b,r=>(hF bh cM n bk b []).map λb=>.loop b::r
 |.exit id,r=>o (.exit id::r)
 |.ret,r=>o (.ret::r)
 |.region id ops d,r=>(oy P bh n bk ops [] (jT d ops (cM id))).map λbT=>.ops bT::r
 |_,_=>ag
def q3(bk:List Nat):List ResultVar->Option (List o8)
 |[]=>o []
 |.tmp i::l=>(uU bk i).bind λD=>(q3 bk l).map (.v D::·)
 |.cell i ty::l=>if(P.underlying ty).isNone then ag else(uU bk i).bind λD=>(q3 bk l).map (.cell (k7 P ty) (dA P ty) D::·)
end
def jc(V:List F)(h:ai):List o8->Option (List F)
 |[]=>o []
 |.v D::rs=>(jc V h rs).map λl=>V.getD D .aD::l
 |.cell agg n D::rs=>(cR agg n h (V.getD D .aD)).bind λv=>(jc V h rs).map λl=>v::l
structure hG(n:Nat)(bk lm:List Nat)(t V L:List F):Prop where
 len:t.length=n
 bn:V.length=bk.length
 sF:L.length=lm.length
 v:∀D s,bk[D]? =o s->s<n/\t.getD s .aD=V.getD D .aD
 l:∀D s,lm[D]? =o s->s<n/\t.getD s .aD=L.getD D .aD
section
variable{P:c'}{aa:iQ}{f:di}{n:Nat}{bk lm:List Nat}{t V L:List F}{h:ai}{bh:a9->Bool}
theorem Yr{i:Nat}:∀(l:List Nat) (m k:Nat),uU.go i l m=o k->m<=k/\l[k - m]? =o i
 |[],m,k,he=>by simp[uU.go]at he
 |x::l,m,k,he=>by
   simp only[uU.go]at he;split at he
   ·rename_i aF;injection he with he;subst he;exact⟨b9 _,by simp[aF]⟩
   ·obtain⟨I,R⟩:=Yr l (m+1) k he;refine⟨by omega,?_⟩;rw[show k - m=(k - (m+1))+1 by omega,sz];exact R
theorem Gr{l:List Nat}{i k:Nat}(he:uU l i=o k):l[k]? =o i:=by simpa using(Yr l 0 k he).2
theorem P4{i:Nat}:∀(l:List Nat) (m:Nat),uU.go i l m=ag->i ∉ l
 |[],m,_=>by simp
 |x::l,m,he=>by
   simp only[uU.go]at he;split at he
   ·cases he
   ·rename_i aF;have:=P4 l (m+1) he;simp only[mJ,not_or];exact⟨λe=>aF e.symm,this⟩
theorem h0(r:hG n bk lm t V L){x:g7}{a:Arg}(he:qh bk lm x=o a):bM t x=arg V L a:=by
 cases x with
 |tmp i=>
   simp only[qh]at he;split at he
   ·rename_i k ab;injection he with he;subst he;exact(r.l k i (Gr ab)).2
   ·obtain⟨D,ae,rfl⟩:=ed.1 he;exact(r.v D i (Gr ae)).2
 |const v=>simp only[qh,iF]at he;subst he;rfl
 |func g=>simp only[qh,iF]at he;subst he;rfl
 |global g=>simp[qh]at he
theorem Kx(r:hG n bk lm t V L):∀{xs:List g7} {aS:List Arg},BP bk lm xs=o aS->xs.map (bM t)=aS.map (arg V L)
 |[],aS,he=>by simp[BP]at he;subst he;rfl
 |x::xs,aS,he=>by simp only[BP]at he;obtain⟨a,aV,he⟩:=dX.1 he;obtain⟨PR,has,rfl⟩:=ed.1 he;simp[h0 r aV,Kx r has]
theorem P5(r:hG n bk lm t V L):∀{xs:List (Nat×g7)} {aS:List (Nat×Arg)},D3 bk lm xs=o aS->(xs.map λq=>(q.1,bM t q.2))=aS.map λq=>(q.1,arg V L q.2)
 |[],aS,he=>by simp[D3]at he;subst he;rfl
 |x::xs,aS,he=>by simp only[D3]at he;obtain⟨a,aV,he⟩:=dX.1 he;obtain⟨PR,has,rfl⟩:=ed.1 he;simp[h0 r aV,P5 r has]
theorem Ys(r:hG n bk lm t V L){x:Option g7}{a:Option Arg}(he:Gq bk lm x=o a):x.map (bM t)=a.map (arg V L):=by
 cases x with
 |none=>simp[Gq]at he;subst he;rfl
 |some x=>simp only[Gq]at he;obtain⟨a,aV,rfl⟩:=ed.1 he;simp[h0 r aV]
theorem Yt(P:c')(ty:a9)(x:F):yw P ty x=kE (p4 P ty) (kN P ty) x:=by cases x<;>rfl
theorem apt(P:c')(ty:a9)(x k:F):rv P ty x k=dY (kN P ty) ((sp P ty).map λq=>(q.1,dA P q.2)) x k:=by cases x<;>cases k<;>first|rfl|(simp only[rv,dY];cases sp P ty<;>rfl)
theorem apu(P:c')(ty:a9)(x k:F):yx P ty x k=Gn (p4 P ty) ((sp P ty).bind λq=>if(P.underlying q.2).isSome then o (q.1,dA P q.2,k7 P q.2)else ag) x k:=by
 cases x<;>cases k<;>first|rfl|skip
 simp only[yx,Gn];cases sp P ty with
 |none=>rfl
 |some q=>cases bV:(P.underlying q.2).isSome<;>simp[bV]
theorem apv(fj:kO)(op:BinOp):eO fj op .iZ .iZ=ag:=by unfold eO;simp only;split<;>(cases fj<;>rfl)
theorem apw(fj:kO)(op:BinOp)(xs eG:List F):eO fj op (.agg xs) (.agg eG)=ag:=by unfold eO;simp only;split<;>(cases fj<;>rfl)
theorem apx(r:hG n bk lm t V L){O:bm}{nx:eT}(he:y0 P bh bk lm O=o nx):gk P bh t h O=ig V L h nx/\gz t O=iK V L nx:=by
 unfold y0 at he;simp only at he;split at he
 case h_1 x aK=>
  obtain⟨a,aV,rfl⟩:=ed.1 he;exact⟨by simp[gk,kB,aK,ig,h0 r aV],by simp[gz,iK,aK]⟩
 case h_2 x aK=>
  obtain⟨a,aV,rfl⟩:=ed.1 he;exact⟨by simp[gk,kB,aK,ig,h0 r aV],by simp[gz,iK,aK]⟩
 case h_3 c x y aK=>
  obtain⟨eo,an,he⟩:=dX.1 he;obtain⟨kP,aF,he⟩:=dX.1 he;obtain⟨tB,bH,rfl⟩:=ed.1 he;refine⟨?_,by simp[gz,iK,aK]⟩;simp only[gk,kB,aK,ig,h0 r an,h0 r aF,h0 r bH];rfl
 case h_4 ty parts aK=>
  obtain⟨z,aB,he⟩:=dX.1 he;obtain⟨e7,Aq,he⟩:=dX.1 he;have az:=P5 r Aq;split at he
  ·rename_i pl iS;split at he
   ·rename_i oo;injection he with he;subst he;exact⟨by simp only[gk,kB,aK,ig,aB,iS,du,oo,if_true,az,Option.map_map];rfl,by simp[gz,iK,aK]⟩
   ·cases he
  ·rename_i iS;obtain⟨q,aX,he⟩:=dX.1 he;split at he
   ·cases he
   ·rename_i F2;injection he with he;subst he;exact⟨by simp only[gk,kB,aK,ig,aB,iS,aX,du,F2,if_false,az,Option.map_map];rfl,by simp[gz,iK,aK]⟩
 case h_5 x aK=>
  obtain⟨a,aV,rfl⟩:=ed.1 he;exact⟨by simp only[gk,kB,aK,ig,h0 r aV];rfl,by simp[gz,iK,aK]⟩
 case h_6 op ty x y uG aK=>
  obtain⟨kP,aF,he⟩:=dX.1 he;obtain⟨tB,bH,rfl⟩:=ed.1 he;refine⟨?_,by split<;>simp[gz,iK,aK]⟩;have aw:ig V L h (if BQ (iE P ty)then .bin (iE P ty) op kP tB else .BN (iE P ty) (xc P ty) (Kv y) op kP tB)=(if BQ (iE P ty)then eO (iE P ty) op (arg V L kP) (arg V L tB)else rK (iE P ty) (xc P ty) (Kv y) op (arg V L kP) (arg V L tB)).map λv=>(v,h):=by split<;>rfl
  rw[aw];have P6:BQ (iE P ty)=J->xc P ty=ag:=by
   intro ab;unfold xc;split
   ·rename_i dN xh;simp[iE,xh,BQ]at ab
   ·rfl
  have ay:kB P t O=if BQ (iE P ty)then eO (iE P ty) op (arg V L kP) (arg V L tB)else rK (iE P ty) (xc P ty) (Kv y) op (arg V L kP) (arg V L tB):=by
   simp only[kB,aK,h0 r aF,h0 r bH];generalize arg V L kP=X;generalize arg V L tB=Y;generalize iE P ty=fj at*;generalize xc P ty=aQ at*;cases aC:BQ fj
   ·simp only[mF,if_false];cases X<;>first|rfl|skip
    ·cases Y<;>first|rfl|(cases fj<;>cases y<;>cases op<;>rfl)
    ·cases Y<;>rfl
   ·simp only[if_true];have ak:=P6 aC;subst ak;cases X<;>first|rfl|skip
    ·cases Y<;>first|rfl|skip
     rw[apv];cases fj<;>first|rfl|cases aC
    ·cases Y<;>first|rfl|skip
     rw[apw];rfl
  simp only[gk,aK];rw[ay]
 case h_7 op ty x aK=>
  obtain⟨a,aV,rfl⟩:=ed.1 he;exact⟨by simp only[gk,kB,aK,ig,h0 r aV],by simp[gz,iK,aK]⟩
 case h_8 src dst x aK=>
  split at he
  ·cases he
  ·rename_i aA;obtain⟨a,aV,rfl⟩:=ed.1 he;exact⟨by simp only[gk,kB,aK,ig,h0 r aV,aA];rfl,by simp[gz,iK,aK]⟩
 case h_9 ty x aK=>
  split at he
  ·cases he
  ·rename_i aA;obtain⟨a,aV,rfl⟩:=ed.1 he;exact⟨by simp only[gk,kB,aK,ig,h0 r aV,aA];rfl,by simp[gz,iK,aK]⟩
 case h_10 g first captured aK=>
  split at he
  ·obtain⟨a,aV,he⟩:=dX.1 he;obtain⟨c,an,rfl⟩:=ed.1 he;exact⟨by simp[gk,kB,aK,ig,Kx r aV,Kx r an],by simp[gz,iK,aK]⟩
  ·cases he
 case h_11 ty x iP af od aK=>
  split at he
  ·cases he
  ·rename_i kR;obtain⟨a,aV,he⟩:=dX.1 he;obtain⟨aDC,DK,he⟩:=dX.1 he;obtain⟨fb,JW,rfl⟩:=ed.1 he;refine⟨?_,by simp[gz,iK,aK]⟩;simp only[gk,kB,aK,ig,h0 r aV,Ys r DK,Ys r JW,Yt];cases bo:kE (p4 P ty) (kN P ty) (arg V L a)<;>simp[kR]
 case h_12 s x Gs aK=>
  obtain⟨q,aX,he⟩:=dX.1 he;split at he
  ·cases he
  ·rename_i aA;obtain⟨a,aV,rfl⟩:=ed.1 he;exact⟨by simp only[gk,kB,aK,ig,h0 r aV,aX,du,aA,if_false],by simp[gz,iK,aK]⟩
 case h_13 s x Gs aK=>
  obtain⟨q,aX,he⟩:=dX.1 he;split at he
  ·cases he
  ·rename_i aA;obtain⟨a,aV,rfl⟩:=ed.1 he;exact⟨by simp only[gk,kB,aK,ig,h0 r aV,aX,du,aA,if_false];rfl,by simp[gz,iK,aK]⟩
 case h_14 ty x bJ aK=>
  obtain⟨a,aV,he⟩:=dX.1 he;obtain⟨k,ab,rfl⟩:=ed.1 he;exact⟨by simp only[gk,kB,aK,ig,h0 r aV,h0 r ab,apt],by simp[gz,iK,aK]⟩
 case h_15 ty x bJ aK=>
  obtain⟨a,aV,he⟩:=dX.1 he;obtain⟨k,ab,rfl⟩:=ed.1 he;exact⟨by simp only[gk,kB,aK,ig,h0 r aV,h0 r ab,apu],by simp[gz,iK,aK]⟩
 case h_16 x FV aS ok aK=>
  split at he
  ·rename_i az;obtain⟨a,aV,rfl⟩:=ed.1 he;refine⟨?_,by simp[gz,iK,aK]⟩;simp only[gk,kB,aK,ig,h0 r aV,az,true_and];rfl
  ·cases he
 case h_17 x i aK=>
  obtain⟨a,aV,rfl⟩:=ed.1 he;exact⟨by simp only[gk,kB,aK,ig,h0 r aV];rfl,by simp[gz,iK,aK]⟩
 case h_18 args argTypes aK=>
  split at he
  ·rename_i x ty rG aw ay;obtain⟨a,aV,rfl⟩:=ed.1 he;refine⟨?_,by simp[gz,iK,aK]⟩;simp only[gk,kB,aK,ig,aw,ay,h0 r aV,Yt];split<;>simp[Option.map_map,Function.comp_def]
  ·cases he
 case h_19 e aK=>
  obtain⟨z,aB,rfl⟩:=ed.1 he;refine⟨?_,?_⟩
  ·simp only[gk,aK,aB,i3];split<;>rfl
  ·split<;>simp[gz,iK,aK]
 case h_20 e x aK=>
  obtain⟨a,aV,rfl⟩:=ed.1 he;refine⟨?_,?_⟩
  ·simp only[gk,aK,h0 r aV];split<;>split<;>simp_all [ig]
  ·split<;>simp[gz,iK,aK]
 case h_21 ty len parts aK=>
  obtain⟨e,h6,he⟩:=dX.1 he;obtain⟨z,aB,he⟩:=dX.1 he;split at he
  ·rename_i an;obtain⟨e7,Aq,rfl⟩:=ed.1 he;refine⟨?_,?_⟩
   ·simp only[gk,aK,h6,aB,du,if_pos an,P5 r Aq];unfold Ku;cases bh ty
    ·cases bh (ty+1000000)
     ·simp only[mF,if_false,ig]
     ·simp only[mF,if_false,if_true,ig]
    ·simp only[if_true,ig]
   ·unfold Ku;split
    ·simp[gz,iK,aK]
    ·split<;>simp[gz,iK,aK]
  ·cases he
 case h_22 ty a aK=>
  split at he
  ·cases he
  ·rename_i aA;obtain⟨a,aV,rfl⟩:=ed.1 he;exact⟨by simp only[gk,aK,ig,h0 r aV,aA];rfl,by simp[gz,iK,aK]⟩
 case h_23 ty a x aK=>
  split at he
  ·cases he
  ·rename_i aA;obtain⟨a,aV,he⟩:=dX.1 he;obtain⟨x,aF,rfl⟩:=ed.1 he;exact⟨by simp only[gk,aK,ig,h0 r aV,h0 r aF,aA,if_false],by simp[gz,iK,aK]⟩
 case h_24 ty l c aK=>
  obtain⟨e,h6,he⟩:=dX.1 he;obtain⟨z,aB,he⟩:=dX.1 he;obtain⟨a,aV,he⟩:=dX.1 he;obtain⟨k,ab,rfl⟩:=ed.1 he;exact⟨by simp only[gk,aK,ig,h0 r aV,h0 r ab,h6,aB,du];rfl,by simp[gz,iK,aK]⟩
 case h_25 args argTypes aK=>
  split at he
  ·rename_i x y ty vT aw ay;split at he
   ·rename_i a6;obtain⟨e,h6,he⟩:=dX.1 he;split at he
    ·rename_i aB;obtain⟨a,aV,he⟩:=dX.1 he;obtain⟨k,ab,rfl⟩:=ed.1 he;exact⟨by simp only[gk,aK,ig,aw,ay,h0 r aV,h0 r ab,if_pos a6,h6,du,if_pos aB],by simp[gz,iK,aK]⟩
    ·cases he
   ·rename_i a6;split at he
    ·rename_i bW;obtain⟨e,h6,he⟩:=dX.1 he;split at he
     ·rename_i hu;obtain⟨a,aV,he⟩:=dX.1 he;obtain⟨k,ab,rfl⟩:=ed.1 he;exact⟨by simp only[gk,aK,ig,aw,ay,h0 r aV,h0 r ab,if_neg a6,if_pos bW,h6,du,if_pos hu],by simp[gz,iK,aK]⟩
     ·cases he
    ·cases he
  ·cases he
 case h_26 DO args XR aK=>
  obtain⟨a,aV,he⟩:=dX.1 he;obtain⟨aS,has,rfl⟩:=ed.1 he;refine⟨by simp[gk,kB,aK,ig],?_⟩;simp only[gz,iK,aK,h0 r aV,Kx r has];rfl
 case h_27 x aK=>
  obtain⟨a,aV,rfl⟩:=ed.1 he;exact⟨by simp[gk,kB,aK,ig],by simp[gz,iK,aK]⟩
 case h_28 args _ aK=>
  split at he
  ·rename_i x y aw;obtain⟨a,aV,he⟩:=dX.1 he;obtain⟨k,ab,rfl⟩:=ed.1 he;exact⟨by simp only[gk,kB,aK,aw,ig,h0 r aV,h0 r ab],by simp[gz,iK,aK]⟩
  ·cases he
 case h_29 args _ aK=>
  split at he
  ·rename_i x y aw;obtain⟨a,aV,he⟩:=dX.1 he;obtain⟨k,ab,rfl⟩:=ed.1 he;exact⟨by simp only[gk,kB,aK,aw,ig,h0 r aV,h0 r ab],by simp[gz,iK,aK]⟩
  ·cases he
 case h_30=>cases he
theorem apy{O:bm}{x:Arg}(he:y0 P bh bk lm O=o (.An x)):∃y,O.op= .panic y/\qh bk lm y=o x:=by
 unfold y0 at he;simp only at he;split at he
 case h_27 y aK=>
  obtain⟨a,aV,e⟩:=ed.1 he;injection e with e;subst e;exact⟨y,aK,aV⟩
 case h_21 ty len parts aK=>
  obtain⟨e,h6,he⟩:=dX.1 he;obtain⟨z,aB,he⟩:=dX.1 he;split at he
  ·obtain⟨e7,Aq,he⟩:=ed.1 he;unfold Ku at he;split at he
   ·cases he
   ·split at he<;>cases he
  ·cases he
 all_goals
  exfalso
  try (cases he;done)
  try simp only[ed,dX,reduceCtorEq,and_false,exists_false]at he
 case h_4=>
  obtain⟨_,_,_,_,he⟩:=he;split at he
  ·split at he<;>cases he
  ·obtain⟨_,_,he⟩:=dX.1 he;split at he<;>cases he
 all_goals repeat' (first
   |(cases he;done)
   |split at he
   |(obtain⟨_,_,he⟩:=he)
   |(simp only[ed,dX,reduceCtorEq,and_false,exists_false]at he))
theorem apz(r:hG n bk lm t V L){O:bm}{nx:eT}(he:y0 P bh bk lm O=o nx):oe t O=Ao V L nx:=by
 cases nx with
 |An x=>obtain⟨y,I,R⟩:=apy he;simp only[oe,I,Ao,h0 r R];rfl
 |_=>
   have:oe t O=ag:=by
    unfold oe;split
    ·rename_i x aK;unfold y0 at he;rw[aK]at he;simp only at he;obtain⟨a,aV,e⟩:=ed.1 he;cases e
    ·rfl
   rw[this];rfl
end
section
variable{P:c'}{aa:iQ}{f:di}{n:Nat}{bk lm:List Nat}{t V L:List F}{h:ai}{bh:a9->Bool}{cM:Nat->List (Nat×List Nat)}
theorem apA{l:List Nat}(h:l.Nodup){i D s:Nat}(af:l[i]? =o s)(ae:l[D]? =o s):i=D:=by
 obtain⟨aP,a2⟩:=fO.1 af;obtain⟨cg,c0⟩:=fO.1 ae;have:=List.pairwise_iff_getElem.1 h;rcases Nat.lt_trichotomy i D with h|h|h
 ·exact absurd (a2.trans c0.symm) (this i D aP cg h)
 ·exact h
 ·exact absurd (c0.trans a2.symm) (this D i cg aP h)
theorem apB(r:hG n bk lm t V L)(rL:bk.Nodup){dst:Option Tmp}{d:qg×List Nat}(he:BR n bk lm dst=o d)(v:F):hG n bk d.2 (fN t dst v) (ly V v d.1) (l6 L v d.1):=by
 cases dst with
 |none=>simp only[BR,iF]at he;subst he;exact r
 |some s=>
   simp only[BR]at he;split at he
   ·cases he
   ·rename_i an;simp only[not_or,Nat.not_le,Option.isSome_iff_ne_none,ne_eq,rM]at an;obtain⟨aW,bD⟩:=an;have BD:=P4 lm 0 bD;split at he
    ·rename_i D ae;injection he with he;subst he;have dM:=Gr ae;refine⟨by simp[fN,r.len],by simp[ly,r.bn],r.sF,λi q aX=>?_,λi q aX=>?_⟩
     ·obtain⟨I,R⟩:=r.v i q aX;refine⟨I,?_⟩;by_cases hY:i=D
      ·subst hY;rw[dM]at aX;injection aX with aX;subst aX;have ba:i<V.length:=by rw[r.bn];exact(fO.1 dM).1
       rw[J8 rfl (by rw[r.len];exact I)];simp[ly,cZ,ba]
      ·have dw:s≠q:=by intro e;subst e;exact hY (apA rL aX dM)
       rw[DQ (by simpa using dw),R];simp[ly,cZ,uP (mG hY)]
     ·obtain⟨I,R⟩:=r.l i q aX;refine⟨I,?_⟩;have dw:s≠q:=λe=>BD (by rw[e];exact o6 aX);rw[DQ (by simpa using dw),R];rfl
    ·rename_i ae;injection he with he;subst he;have P7:=P4 bk 0 ae;refine⟨by simp[fN,r.len],r.bn,by simp[l6,r.sF],λi q aX=>?_,λi q aX=>?_⟩
     ·obtain⟨I,R⟩:=r.v i q aX;have dw:s≠q:=λe=>P7 (by rw[e];exact o6 aX);exact⟨I,by rw[DQ (by simpa using dw),R];rfl⟩
     ·cases i with
      |zero=>simp only[oq,iF]at aX;subst aX;exact⟨aW,by rw[J8 rfl (by rw[r.len];exact aW)];rfl⟩
      |succ i=>simp only[sz]at aX;obtain⟨I,R⟩:=r.l i q aX;have dw:s≠q:=λe=>BD (by rw[e];exact o6 aX);exact⟨I,by rw[DQ (by simpa using dw),R];rfl⟩
theorem Ky(r:hG n bk lm t V L){all:Array bm}{O:bm}{g:Option (Arg×Bool)}(he:D4 bk lm all O=o g):jk all t O=D2 V L g:=by
 unfold D4 at he;split at he
 ·rename_i a5;injection he with he;subst he;simp[jk,a5,D2]
 ·rename_i D want a5;obtain⟨d,bg,he⟩:=dX.1 he;obtain⟨a,aV,rfl⟩:=ed.1 he;have:=h0 r aV;simp only[bM]at this;simp only[jk,a5,bg,this,D2,BO];rfl
theorem P8(r:hG n bk lm t V L){all:Array bm}:∀{l:List bm} {c:List xr},Ap P bk lm all l=o c->xt V L h c->qN P all t h l
 |[],c,_,_=>trivial
 |O::l,c,he,an=>by
   simp only[Ap]at he;obtain⟨q,aX,he⟩:=dX.1 he;obtain⟨eo,kY,rfl⟩:=ed.1 he;obtain⟨I,R⟩:=an;refine⟨?_,P8 r kY R⟩;unfold Yp at aX;split at aX
   ·rename_i ty a d aK bg;obtain⟨g,a5,aX⟩:=dX.1 aX;obtain⟨eR,aV,aX⟩:=dX.1 aX;obtain⟨mf,o1,rfl⟩:=ed.1 aX;rw[Ky r a5];have aw:=h0 r aV;have ay:=h0 r o1;simp only[bM]at ay;simp only at I;split at I
    ·rename_i hw;rw[hw];simp only[aK,bg,aw,ay];exact I
    ·rename_i hw;split
     ·rename_i lM;exact absurd lM hw
     ·trivial
   ·rename_i ty a x aK bg;obtain⟨g,a5,aX⟩:=dX.1 aX;obtain⟨eR,aV,aX⟩:=dX.1 aX;obtain⟨mf,o1,rfl⟩:=ed.1 aX;rw[Ky r a5];have aw:=h0 r aV;have ay:=h0 r o1;simp only at I;split at I
    ·rename_i hw;rw[hw];simp only[aK,bg,aw,ay];exact I
    ·rename_i hw;split
     ·rename_i lM;exact absurd lM hw
     ·trivial
   ·cases aX
def ny(P:c')(bh:a9->Bool)(cM:Nat->List (Nat×List Nat))(n:Nat)(bk:List Nat):List gu->List bb->Option (List bb)
 |[],r=>o r
 |c::cs,r=>(ny P bh cM n bk cs r).bind λr=>hF P bh cM n bk c r
inductive Ar(P:c')(bh:a9->Bool)(cM:Nat->List (Nat×List Nat))(n:Nat)(bk:List Nat):gu->bb->Prop
 |cond (c:g7) (x y:gu) (a:Arg) (xs eG:List bb):qh bk [] c=o a->hF P bh cM n bk x []=o xs->hF P bh cM n bk y []=o eG->Ar P bh cM n bk (.cond c x y) (.cond a xs eG)
 |block (id:Nat) (b:gu) (v7:List bb):hF P bh cM n bk b []=o v7->Ar P bh cM n bk (.block id b) (.block id v7)
 |loop (b:gu) (v7:List bb):hF P bh cM n bk b []=o v7->Ar P bh cM n bk (.loop b) (.loop v7)
 |exit (id:Nat):Ar P bh cM n bk (.exit id) (.exit id)
 |ret:Ar P bh cM n bk .ret .ret
 |region (id:Nat) (all:Array bm) (d:Bool) (bT:List aE):oy P bh n bk all [] (jT d all (cM id))=o bT->Ar P bh cM n bk (.region id all d) (.ops bT)
theorem Yu(cs jm:List gu)(r:List bb):ny P bh cM n bk (cs++jm) r=(ny P bh cM n bk jm r).bind λr=>ny P bh cM n bk cs r:=by
 induction cs with
 |nil=>simp only[l3,ny];cases ny P bh cM n bk jm r<;>rfl
 |cons c cs aR=>simp only[nz,ny,aR];cases ny P bh cM n bk jm r<;>rfl
theorem apC:∀(c:gu) (r l:List bb),hF P bh cM n bk c r=o l->(l=r/\∀k t h,dW P aa f (.code c::k) t h=dW P aa f k t h)\/(∃s ch aW cs,l=s::ch/\ny P bh cM n bk cs r=o ch/\Ar P bh cM n bk aW s/\∀k t h,dW P aa f (.code c::k) t h=dW P aa f (.code aW::(cs.map .code++k)) t h):=by
 intro c;induction c with
 |skip=>intro r l he;simp only[hF,iF]at he;exact .inl ⟨he.symm,λk t h=>anf⟩
 |label i=>intro r l he;simp only[hF,iF]at he;exact .inl ⟨he.symm,λk t h=>ang⟩
 |seq a b apD apE=>
   intro r l he;simp only[hF]at he;obtain⟨bx,I,R⟩:=dX.1 he;rcases apD bx l R with⟨aw,ay⟩|⟨s,ch,aW,cs,aw,ay,be,b1⟩
   ·subst aw;rcases apE r l I with⟨f1,f2⟩|⟨s,ch,aW,cs,f1,f2,f3,f4⟩
    ·exact .inl ⟨f1,λk t h=>by rw[O0,ay,f2]⟩
    ·exact .inr ⟨s,ch,aW,cs,f1,f2,f3,λk t h=>by rw[O0,ay,f4]⟩
   ·refine .inr ⟨s,ch,aW,cs++[b],aw,?_,be,λk t h=>?_⟩
    ·rw[Yu];simp only[ny,du,I,ay]
    ·rw[O0,b1];simp
 |cond c x y _ _=>intro r l he;simp only[hF]at he;obtain⟨a,aV,he⟩:=dX.1 he;obtain⟨xs,aF,he⟩:=dX.1 he;obtain⟨eG,bH,rfl⟩:=ed.1 he;exact .inr ⟨_,_,_,[],rfl,rfl,.cond _ _ _ _ _ _ aV aF bH,λk t h=>rfl⟩
 |block id b _=>intro r l he;simp only[hF]at he;obtain⟨v7,ad,rfl⟩:=ed.1 he;exact .inr ⟨_,_,_,[],rfl,rfl,.block _ _ _ ad,λk t h=>rfl⟩
 |loop b _=>intro r l he;simp only[hF]at he;obtain⟨v7,ad,rfl⟩:=ed.1 he;exact .inr ⟨_,_,_,[],rfl,rfl,.loop _ _ ad,λk t h=>rfl⟩
 |exit id=>intro r l he;simp only[hF,iF]at he;subst he;exact .inr ⟨_,_,_,[],rfl,rfl,.exit _,λk t h=>rfl⟩
 |ret=>intro r l he;simp only[hF,iF]at he;subst he;exact .inr ⟨_,_,_,[],rfl,rfl,.ret,λk t h=>rfl⟩
 |region id ops d=>intro r l he;simp only[hF]at he;obtain⟨bT,ow,rfl⟩:=ed.1 he;exact .inr ⟨_,_,_,[],rfl,rfl,.region _ _ _ _ ow,λk t h=>rfl⟩
 |_=>intro r l he;simp[hF]at he
theorem Yv:∀(cs:List gu) (l:List bb),ny P bh cM n bk cs []=o l->(l=[]/\∀k t h,dW P aa f (cs.map .code++k) t h=dW P aa f k t h)\/(∃s ch aW hB,l=s::ch/\ny P bh cM n bk hB []=o ch/\Ar P bh cM n bk aW s/\∀k t h,dW P aa f (cs.map .code++k) t h=dW P aa f (.code aW::(hB.map .code++k)) t h):=by
 intro cs;induction cs with
 |nil=>intro l he;simp only[ny,iF]at he;exact .inl ⟨he.symm,λk t h=>rfl⟩
 |cons c cs aR=>
   intro l he;simp only[ny]at he;obtain⟨r,I,R⟩:=dX.1 he;rcases apC (aa:=aa) (f:=f) c r l R with⟨aw,ay⟩|⟨s,ch,aW,P9,aw,ay,be,b1⟩
   ·subst aw;rcases aR l I with⟨f1,f2⟩|⟨s,ch,aW,hB,f1,f2,f3,f4⟩
    ·exact .inl ⟨f1,λk t h=>by simp only[kf,nz];rw[ay,f2]⟩
    ·exact .inr ⟨s,ch,aW,hB,f1,f2,f3,λk t h=>by simp only[kf,nz];rw[ay,f4]⟩
   ·refine .inr ⟨s,ch,aW,P9++cs,aw,?_,be,λk t h=>?_⟩
    ·rw[Yu,I];exact ay
    ·simp only[kf,nz];rw[b1];simp
inductive qi(P:c')(bh:a9->Bool)(cM:Nat->List (Nat×List Nat))(n:Nat)(bk:List Nat):List jt->List j0->Prop
 |nil:qi P bh cM n bk [] []
 |bP (cs:List gu) (l:List bb) (k:List jt) (qj:List j0):ny P bh cM n bk cs []=o l->qi P bh cM n bk k qj->qi P bh cM n bk (cs.map .code++k) (.bP l::qj)
 |cu (id:Nat) (k:List jt) (qj:List j0):qi P bh cM n bk k qj->qi P bh cM n bk (.inBlock id::k) (.cu id::qj)
 |eM (c:gu) (b:List bb) (k:List jt) (qj:List j0):hF P bh cM n bk c []=o b->qi P bh cM n bk k qj->qi P bh cM n bk (.inLoop c::k) (.eM b::qj)
 |halt (K:List Item) (k:List jt) (qj:List j0):qi P bh cM n bk (.halt K::k) (.halt K::qj)
theorem apF{id:Nat}(cs:List gu)(k:List jt):ps id (cs.map .code++k)=ps id k:=by
 induction cs with
 |nil=>rfl
 |cons c cs aR=>simp only[kf,nz,ps];exact aR
theorem apG{id:Nat}{k:List jt}{qj Kz:List j0}(ab:qi P bh cM n bk k qj)(he:nX id qj=o Kz):∃ee,ps id k=o ee/\qi P bh cM n bk ee Kz:=by
 induction ab with
 |nil=>simp[nX]at he
 |bP cs l k qj I R aR=>simp only[nX]at he;obtain⟨ee,aw,ay⟩:=aR he;exact⟨ee,by rw[apF];exact aw,ay⟩
 |cu i k qj I aR=>
   simp only[nX]at he;by_cases af:i=id
   ·rw[if_pos af]at he;injection he with he;subst he;exact⟨k,by simp[ps,af],I⟩
   ·rw[if_neg af]at he;obtain⟨ee,aw,ay⟩:=aR he;exact⟨ee,by simp[ps,af];exact aw,ay⟩
 |eM c b k qj I R aR=>simp only[nX]at he;obtain⟨ee,aw,ay⟩:=aR he;exact⟨ee,by simp only[ps];exact aw,ay⟩
 |halt K k qj=>simp[nX]at he
def pG(P:c')(aa:iQ)(f:di)(n:Nat)(bk:List Nat)(gP:List jt)(t:List F)(h:ai)(r:k8×List F×ai):Prop:=∃dQ,dW P aa f gP t h=o (r.1,dQ,r.2.2)/\hG n bk [] dQ r.2.1 []
def v8(P:c')(aa:iQ)(f:di)(n:Nat)(bk:List Nat)(k:List j0)(V L:List F)(h:ai)(r:k8×List F×ai):Prop:=(∀gP t,qi P (aa.bh f) (aa.cM f) n bk gP k->hG n bk [] t V []->pG P aa f n bk gP t h r)/\(∀d all l bT gP lm t ee,k= .ops bT::ee->oy P (aa.bh f) n bk all lm l=o bT->qi P (aa.bh f) (aa.cM f) n bk gP ee->hG n bk lm t V L->pG P aa f n bk (.ops d all l::gP) t h r)/\(∀d all l bT c ca gP lm t ee,k= .ops (.ca c::bT)::ee->Ap P bk lm all ca=o c->oy P (aa.bh f) n bk all lm l=o bT->qi P (aa.bh f) (aa.cM f) n bk gP ee->hG n bk lm t V L->qN P all t h ca/\pG P aa f n bk (.ops d all l::gP) t h r)
theorem pG.eq{Yw:List jt}{t dQ:List F}{h E:ai}{r:k8×List F×ai}(he:dW P aa f gP t h=dW P aa f Yw dQ E)(ab:pG P aa f n bk Yw dQ E r):pG P aa f n bk gP t h r:=by obtain⟨t2,I,R⟩:=ab;exact⟨t2,he.trans I,R⟩
theorem v8.D5{k:List j0}{V L:List F}{h:ai}{r:k8×List F×ai}(m1:∀bT ee,k≠.ops bT::ee)(ab:∀gP t,qi P (aa.bh f) (aa.cM f) n bk gP k->hG n bk [] t V []->pG P aa f n bk gP t h r):v8 P aa f n bk k V L h r:=⟨ab,λd all l bT gP lm t ee he=>absurd he (m1 _ _),λd all l bT c ca gP lm t ee he=>absurd he (m1 _ _)⟩
theorem hG.drop{L:List F}{lm:List Nat}(r:hG n bk lm t V L):hG n bk [] t V []:=⟨r.len,r.bn,rfl,r.v,λD s aC=>by simp at aC⟩
theorem hG.clear{KA P':Nat}(r:hG n bk [] t V [])(I:∀D s,bk[D]? =o s->(D<P'↔s<KA)):hG n bk [] (b2 KA t) (b2 P' V) []:=by
 refine⟨by rw[<-r.len,b2];simp;omega,by rw[<-r.bn,b2];simp;omega,rfl,λD s aC=>?_,λD s aC=>by simp at aC⟩;obtain⟨aP,a2⟩:=r.v D s aC;refine⟨aP,?_⟩;have ae:D<V.length:=by rw[r.bn];exact(fO.1 aC).1
 have yQ:s<t.length:=by rw[r.len];exact aP
 have get:∀(n:Nat) (x:List F) (i:Nat),i<x.length->(b2 n x).getD i .aD=if i<n then x.getD i .aD else .aD:=by
  intro n x i af;unfold b2;by_cases ga:i<n
  ·have:i<(x.take n).length:=by simp;omega
   rw[if_pos ga,cZ,l0 this,List.getElem?_take];simp[ga,cZ]
  ·rw[if_neg ga,cZ,l1 (by simp;omega)];simp only[List.getElem?_replicate];split<;>rfl
 rw[get _ _ _ yQ,get _ _ _ ae];by_cases ba:D<P'
 ·rw[if_pos ba,if_pos ((I D s aC).1 ba),a2]
 ·rw[if_neg ba,if_neg (λx=>ba ((I D s aC).2 x))]
end
noncomputable def m7(p:Bool)(rs:List o8)(ak:ai):Option (k8×List F×ai)->Option ((F⊕F)×ai)
 |some (.ret,V,h)=>yA.hf p ak h ((jc V h rs).map ju)
 |some (.panic v,_,h)=>oh p ak (.inr v,h)
 |some (.halt _,_,_)=>ag
 |none=>ag
section
variable{P:c'}{aa:iQ}{f:di}{n aZ:Nat}{bk lm:List Nat}{t V L:List F}{h:ai}
theorem Qa{d:qg}{bT:List aE}{ee:List j0}{O:bm}{c:List xr}{ca:List bm}{l:List (bm×List bm)}{all:Array bm}{pH:List Nat}{v:F}{E:ai}{r:k8×List F×ai}(rL:bk.Nodup)(bg:BR n bk lm O.dst=o (d,pH))(an:Ap P bk pH all ca=o c)(ow:oy P (aa.bh f) n bk all pH l=o bT)(ab:qi P (aa.bh f) (aa.cM f) n bk gP ee)(cL:hG n bk lm t V L)(hm:v8 P aa f n bk (.ops (Kw c bT)::ee) (ly V v d) (l6 L v d) E r):qN P all (fN t O.dst v) E ca/\pG P aa f n bk (.ops dI all l::gP) (fN t O.dst v) E r:=by
 have v9:=apB cL rL bg v;cases c with
 |nil=>refine⟨P8 v9 an trivial,hm.2.1 dI all l bT gP _ _ ee rfl ow ab v9⟩
 |cons q c=>exact hm.2.2 dI all l bT (q::c) ca gP _ _ ee rfl an ow ab v9
theorem Qb{bh:a9->Bool}{all:Array bm}{lm:List Nat}{l:List (bm×List bm)}{x:aE}{bT:List aE}(he:oy P bh n bk all lm l=o (x::bT)):∃O ca ch nx g d pH c uV,l=(O,ca)::ch/\y0 P bh bk lm O=o nx/\D4 bk lm all O=o g/\BR n bk lm O.dst=o (d,pH)/\Ap P bk pH all ca=o c/\oy P bh n bk all pH ch=o uV/\x=Yq g d nx/\bT=Kw c uV:=by
 cases l with
 |nil=>simp[oy]at he
 |cons q ch=>obtain⟨O,ca⟩:=q;simp only[oy]at he;obtain⟨nx,I,he⟩:=dX.1 he;obtain⟨g,R,he⟩:=dX.1 he;obtain⟨⟨d,pH⟩,aj,he⟩:=dX.1 he;obtain⟨c,aH,he⟩:=dX.1 he;obtain⟨uV,bq,he⟩:=ed.1 he;simp only[yY]at he;exact⟨O,ca,ch,nx,g,d,pH,c,uV,rfl,I,R,aj,aH,bq,he.1.symm,he.2.symm⟩
theorem apH{all:Array bm}{O:bm}{ca:List bm}{l:List (bm×List bm)}{v:F}{E:ai}(hw:jk all t O=o J)(az:oe t O=ag)(an:gz t O=ag)(he:gk P (aa.bh f) t h O=o (v,E))(qW:qN P all (fN t O.dst v) E ca):dW P aa f (.ops dI all ((O,ca)::l)::gP) t h=dW P aa f (.ops dI all l::gP) (fN t O.dst v) E:=by rw[FP,hw,JI,az,O1,an,ano,he,anp,W2 qW]
theorem apI{all:Array bm}{O:bm}{ca:List bm}{l:List (bm×List bm)}{g:di}{args:List F}{v:F}{E:ai}(hw:jk all t O=o J)(az:oe t O=ag)(an:gz t O=o (g,args))(he:aU P aa g args h=o (.inl v,E))(qW:qN P all (fN t O.dst v) E ca):dW P aa f (.ops dI all ((O,ca)::l)::gP) t h=dW P aa f (.ops dI all l::gP) (fN t O.dst v) E:=by rw[FP,hw,JI,az,O1,an,W1,he,anq,W2 qW]
theorem apJ{all:Array bm}{O:bm}{ca:List bm}{l:List (bm×List bm)}{g:di}{args:List F}{v:F}{E:ai}(hw:jk all t O=o J)(az:oe t O=ag)(an:gz t O=o (g,args))(he:aU P aa g args h=o (.inr v,E)):dW P aa f (.ops dI all ((O,ca)::l)::gP) t h=o (.panic v,t,E):=by rw[FP,hw,JI,az,O1,an,W1,he,anr]
theorem apK{all:Array bm}{O:bm}{ca:List bm}{l:List (bm×List bm)}(hw:jk all t O=o U):dW P aa f (.ops dI all ((O,ca)::l)::gP) t h=dW P aa f (.ops dI all l::gP) (fN t O.dst (.bS [])) h:=by rw[FP,hw,ann]
theorem KB(rL:bk.Nodup)(lI:∀D s,bk[D]? =o s->(D<aZ↔s<aa.aZ f)):∀(k:List j0) (V L:List F) (h:ai) (r:k8×List F×ai),bB (aU P aa) aZ k V L h=o r->v8 P aa f n bk k V L h r:=by
 refine bB.partial_correctness (aU P aa) aZ (v8 P aa f n bk) λrun aR k V L h r au=>?_;have wanted:∀{d:qg} {nx:eT} {bT:List aE} {ee:List j0},(match Ao V L nx with
   |some v=>o (.panic v,V,h)
   |none=>match iK V L nx with
   |some (g,args)=>aU P aa g args h>>= λr=>match r.1 with
     |.inl v=>run (.ops bT::ee) (ly V v d) (l6 L v d) r.2
     |.inr v=>o (.panic v,V,r.2)
   |none=>ig V L h nx>>= λr=>run (.ops bT::ee) (ly V r.1 d) (l6 L r.1 d) r.2)=o r->
   ∀{all O ca l lm pH c uV gP t dI},y0 P (aa.bh f) bk lm O=o nx->BR n bk lm O.dst=o (d,pH)->Ap P bk pH all ca=o c->oy P (aa.bh f) n bk all pH l=o uV->bT=Kw c uV->
   qi P (aa.bh f) (aa.cM f) n bk gP ee->hG n bk lm t V L->jk all t O=o J->pG P aa f n bk (.ops dI all ((O,ca)::l)::gP) t h r:=by
  intro d nx bT ee au all O ca l lm pH c uV gP t dI I R aj aH bq ab cL hw;obtain⟨aw,ay⟩:=apx (h:=h) cL I;have dj:=apz cL I;split at au
  ·rename_i v Gh;injection au with au;subst au;exact⟨t,by rw[FP,hw,JI,dj,Gh,anm],cL.drop⟩
  rename_i Gt;have dj:=dj.trans Gt;split at au
  ·rename_i g args KC;obtain⟨⟨x,E⟩,aF,au⟩:=dX.1 au;cases x with
   |inl v=>simp only at au;subst bq;have hm:=aR _ _ _ _ _ au;obtain⟨cO,c8⟩:=Qa (dI:=dI) rL R aj aH ab cL hm;exact c8.eq (apI hw dj (ay.trans KC) aF cO)
   |inr v=>simp only at au;injection au with au;subst au;exact⟨t,apJ hw dj (ay.trans KC) aF,cL.drop⟩
  ·rename_i KC;obtain⟨⟨v,E⟩,aF,au⟩:=dX.1 au;simp only at au;subst bq;have hm:=aR _ _ _ _ _ au;obtain⟨cO,c8⟩:=Qa (dI:=dI) rL R aj aH ab cL hm;exact c8.eq (apH hw dj (ay.trans KC) (aw.trans aF) cO)
 split at au
 ·injection au with au;subst au;refine v8.D5 (by simp) λgP t ab cL=>?_;cases ab;exact⟨t,am',cL⟩
 ·rename_i k;refine v8.D5 (by simp) λgP t ab cL=>?_;cases ab with
  |bP cs _ h5 _ j9 ab=>
    rcases Yv (aa:=aa) (f:=f) cs [] j9 with⟨_,ay⟩|⟨s,ch,aW,hB,aw,_⟩
    ·exact((aR _ _ _ _ _ au).1 _ _ ab cL.drop).eq (ay _ _ _)
    ·cases aw
 ·rename_i s l k;refine v8.D5 (by simp) λgP t ab cL=>?_;cases ab with
  |bP cs _ h5 _ j9 ab=>
    rcases Yv (aa:=aa) (f:=f) cs (s::l) j9 with⟨aw,_⟩|⟨ek,ch,aW,hB,aw,ay,be,b1⟩
    ·cases aw
    ·injection aw with aw apL;subst aw;subst apL;refine pG.eq (b1 _ _ _) ?_;have xu:qi P (aa.bh f) (aa.cM f) n bk (hB.map .code++h5) (.bP l::k):=.bP hB l h5 k ay ab;cases be with
     |region id all d bT Qc=>exact((aR _ _ _ _ _ au).2.1 d all _ bT _ [] t _ rfl Qc xu cL).eq ank
     |cond c x y a xs eG aV aF bH=>
       simp only at au;have tu:=h0 cL aV;split at au
       ·rename_i b ad;have Yx:bM t c= .bool b:=tu.trans ad;cases b with
        |true=>simp only[if_true]at au;refine pG.eq (by rw[W0,Yx,ans]) ((aR _ _ _ _ _ au).1 (.code x::(hB.map .code++h5)) t ?_ cL);exact .bP [x] xs _ _ (by simp[ny,aF]) xu
        |false=>simp only[mF,if_false]at au;refine pG.eq (by rw[W0,Yx,ant]) ((aR _ _ _ _ _ au).1 (.code y::(hB.map .code++h5)) t ?_ cL);exact .bP [y] eG _ _ (by simp[ny,bH]) xu
       ·cases au
     |block id b v7 ad=>refine pG.eq anh ((aR _ _ _ _ _ au).1 (.code b::.inBlock id::(hB.map .code++h5)) t ?_ cL);exact .bP [b] v7 _ _ (by simp[ny,ad]) (.cu id _ _ xu)
     |loop b v7 ad=>exact pG.eq ani ((aR _ _ _ _ _ au).1 (.inLoop b::(hB.map .code++h5)) t (.eM b v7 _ _ ad xu) cL)
     |exit id=>obtain⟨Kz,I,au⟩:=dX.1 au;obtain⟨ee,R,aj⟩:=apG xu (by simpa[nX]using I:nX id (.bP l::k)=o Kz);exact pG.eq (by rw[anl,R,anu]) ((aR _ _ _ _ _ au).1 ee t aj cL)
     |ret=>injection au with au;subst au;exact⟨t,anj,cL⟩
 ·rename_i id k;refine v8.D5 (by simp) λgP t ab cL=>?_;cases ab with
  |cu _ h5 _ ab=>exact pG.eq anb ((aR _ _ _ _ _ au).1 _ _ ab cL)
 ·rename_i apr k;injection au with au;subst au;refine v8.D5 (by simp) λgP t ab cL=>?_;cases ab with
  |halt _ h5 _=>exact⟨t,ana,cL⟩
 ·rename_i b k;refine v8.D5 (by simp) λgP t ab cL=>?_;cases ab with
  |eM c _ h5 _ ad ab=>refine pG.eq anc ((aR _ _ _ _ _ au).1 (.code c::.inLoop c::h5) _ ?_ (cL.clear lI));exact .bP [c] b _ _ (by simp[ny,ad]) (.eM c b _ _ ad ab)
 ·rename_i k;refine⟨λgP t ab cL=>(by cases ab),λdI all l bT gP lm t ee he j9 ab cL=>?_,λdI all l bT c ca gP lm t ee he=>(by cases he)⟩;injection he with h6 qZ;injection h6 with h6;subst h6;subst qZ;cases l with
  |nil=>exact pG.eq ane ((aR _ _ _ _ _ au).1 _ _ ab cL.drop)
  |cons q l=>obtain⟨O,ca⟩:=q;simp only[oy]at j9;obtain⟨nx,I,j9⟩:=dX.1 j9;obtain⟨g,R,j9⟩:=dX.1 j9;obtain⟨⟨d,pH⟩,aj,j9⟩:=dX.1 j9;obtain⟨c,aH,j9⟩:=dX.1 j9;obtain⟨uV,bq,j9⟩:=ed.1 j9;cases j9
 ·rename_i l bT k;split at au
  ·rename_i qW;refine⟨λgP t ab cL=>(by cases ab),λdI all c9 Gu gP lm t ee he j9 ab cL=>?_,λdI all c9 Gu c ca gP lm t ee he an j9 ab cL=>?_⟩
   ·injection he with h6 qZ;injection h6 with h6;subst h6;subst qZ;obtain⟨O,ca,ch,nx,g,d,pH,c,uV,_,_,_,_,_,_,aF,_⟩:=Qb j9;cases g<;>cases aF
   ·injection he with h6 qZ;injection h6 with h6;injection h6 with Gv h6;injection Gv with Gv;subst Gv;subst h6;subst qZ;exact⟨P8 cL an qW,(aR _ _ _ _ _ au).2.1 dI all c9 bT gP lm t _ rfl j9 ab cL⟩
  ·cases au
 ·rename_i d nx bT k;refine⟨λgP t ab cL=>(by cases ab),λdI all l Gu gP lm t ee he j9 ab cL=>?_,λdI all l Gu c ca gP lm t ee he=>(by cases he)⟩;injection he with h6 qZ;injection h6 with h6;subst h6;subst qZ;obtain⟨O,ca,ch,apM,g,mf,pH,c,uV,rfl,I,R,aj,aH,bq,aF,cq⟩:=Qb j9;cases g with
  |some g=>cases aF
  |none=>injection aF with y1 tr;subst y1;subst tr;exact wanted au I aj aH bq cq ab cL (by rw[Ky cL R];rfl)
 ·rename_i a w d nx bT k;refine⟨λgP t ab cL=>(by cases ab),λdI all l Gu gP lm t ee he j9 ab cL=>?_,λdI all l Gu c ca gP lm t ee he=>(by cases he)⟩;injection he with h6 qZ;injection h6 with h6;subst h6;subst qZ;obtain⟨O,ca,ch,apM,g,mf,pH,c,uV,rfl,I,R,aj,aH,bq,aF,cq⟩:=Qb j9;cases g with
  |none=>cases aF
  |some g=>
    injection aF with y1 tr y2 apN;obtain⟨aDD,aDE⟩:=g;simp only at y1 tr;subst y1;subst tr;subst y2;subst apN;have a5:=Ky cL R;simp only[D2]at a5;split at au
    ·cases au
    ·rename_i Yy;subst cq;obtain⟨_,c8⟩:=Qa (dI:=dI) rL aj aH bq ab cL (aR _ _ _ _ _ au);exact c8.eq (apK (a5.trans Yy))
    ·rename_i gF;exact wanted au I aj aH bq cq ab cL (a5.trans gF)
theorem D6(cL:hG n bk [] t V []):∀{l:List ResultVar} {rs:List o8},q3 P bk l=o rs->rx P t h l=jc V h rs
 |[],rs,he=>by simp only[q3,iF]at he;subst he;rfl
 |.tmp i::l,rs,he=>by simp only[q3]at he;obtain⟨D,ae,he⟩:=dX.1 he;obtain⟨tC,D7,rfl⟩:=ed.1 he;simp only[rx,jc,D6 cL D7,(cL.v D i (Gr ae)).2]
 |.cell i ty::l,rs,he=>by
   simp only[q3]at he;split at he
   ·cases he
   ·rename_i aA;obtain⟨D,ae,he⟩:=dX.1 he;obtain⟨tC,D7,rfl⟩:=ed.1 he;simp only[rx,jc,D6 cL D7,(cL.v D i (Gr ae)).2,if_neg aA]
def uW(a n KA aZ:Nat)(bk:List Nat):Bool:=
 decide (a<=bk.length/\a<=n)&&(jG bk.length).all λD=>let s:=bk.getD D 0
  decide (s<n)&&(decide (D<aZ)==decide (s<KA))&&(if D<a\/s<a then s==D else J)&&(jG D).all λi=>bk.getD i 0 != s
def cv(P:c')(aa:iQ)(g:di)(a aZ:Nat)(bk:List Nat)(bP:List bb)(rs:List o8)(p:Bool):Prop:=∃fn c,P.funcs[g]? =o fn/\fn.body=o c/\aa.ext g=ag/\aa.use g=J/\aa.pure g=p/\hF P (aa.bh g) (aa.cM g) fn.ntmps bk c []=o bP/\uW a fn.ntmps (aa.aZ g) aZ bk=J/\q3 P bk fn.results.toList=o rs
theorem a4{g:di}{a:Nat}{bP:List bb}{rs:List o8}{p:Bool}{args:List F}{q:(F⊕F)×ai}(bo:cv P aa g a aZ bk bP rs p)(aV:args.length=a)(au:m7 p rs h (bB (aU P aa) aZ [.bP bP] (args++ap (bk.length - args.length) .aD) [] h)=o q):aU P aa g args h=o q:=by
 obtain⟨fn,c,I,R,aj,aH,bq,cq,de,hu⟩:=bo;rw[anw aj I R aH bq];unfold uW at de;simp only[gv,decide_eq_true_eq,jW,kD,beq_iff_eq,bne_iff_ne,ne_eq]at de;obtain⟨⟨aP,a2⟩,bl⟩:=de;have get:∀D s,bk[D]? =o s->D<bk.length/\bk.getD D 0=s:=λD s ae=>⟨(fO.1 ae).1,by simp[cZ,ae]⟩;have rL:bk.Nodup:=by rw[List.nodup_iff_pairwise_ne,List.pairwise_iff_getElem];intro i D af ae hY e;have:=(bl D ae).2 i hY;apply this;simp[cZ,af,ae,e]
 have lI:∀D s,bk[D]? =o s->(D<aZ↔s<aa.aZ g):=by intro D s ae;obtain⟨cS,cf⟩:=get D s ae;have:=(bl D cS).1.1.2;rw[cf]at this;exact decide_eq_decide.1 this
 have cL:hG fn.ntmps bk [] (args++ap (fn.ntmps - args.length) .aD) (args++ap (bk.length - args.length) .aD) []:=by
  refine⟨by simp;omega,by simp;omega,rfl,λD s ae=>?_,λD s ae=>by simp at ae⟩;obtain⟨cS,cf⟩:=get D s ae;obtain⟨⟨⟨cg,_⟩,c0⟩,_⟩:=bl D cS;rw[cf]at cg c0;refine⟨cg,?_⟩;by_cases an:D<a\/s<a
  ·rw[if_pos an]at c0;have:s=D:=by simpa using c0
   subst this;have ba:s<args.length:=by omega
   simp[cZ,l0 ba]
  ·have aW:¬D<args.length:=by omega
   have bD:¬s<args.length:=by omega
   simp only[cZ,l1 (Nat.not_lt.1 aW),l1 (Nat.not_lt.1 bD),List.getElem?_replicate];split<;>split<;>rfl
 generalize mC:bB (aU P aa) aZ [.bP bP] (args++ap (bk.length - args.length) .aD) [] h=x at au;cases x with
 |none=>cases au
 |some r=>
   have hm:=(KB (n:=fn.ntmps) (f:=g) rL lI _ _ _ _ _ mC).1 [.code c] _ (.bP [c] bP [] [] (by simp[ny,cq]) .nil) cL;obtain⟨dQ,aw,ay⟩:=hm;rw[aw];obtain⟨x,gI,E⟩:=r;cases x with
   |panic v=>exact au
   |halt K=>cases au
   |ret=>rw[anv];have:=D6 (h:=E) ay hu;unfold ry;rw[this];exact au
end
abbrev aT:aE:=.i .l (.load U 1 (.l 0))
abbrev bc:aE:=.i .l (.a8 (.v 0))
abbrev ct:aE:=.i .l (.lN (.l 0))
abbrev cn:aE:=.i .l (.a8 (.l 0))
abbrev c6:aE:=.i .l (.a8 (.v 3))
abbrev dC:aE:=.i .l (.db 0 (.l 0))
abbrev dc:aE:=.i .l (.a8 (.v 1))
abbrev oG:aE:=.i .l (.bin (.int j) .add (.l 0) (.c (.int j 1)))
abbrev lU:aE:=.i .l (.build [.int j 0,.int j 0,.aJ] [(0,1),(1,1),(2,1)] [])
abbrev ft:aE:=.i .l (.ext (.l 1) 1)
abbrev fs:aE:=.i .l (.ext (.l 0) 0)
abbrev l':aE:=.i .l (.fe (o 35) ag (.l 0) (.c (.int j 0)))
abbrev fu:aE:=.i .l (.a8 (.v 4))
abbrev g4:aE:=.i .l (.db 1 (.l 0))
abbrev nb:aE:=.i .l (.bin (.int j) .sub (.l 0) (.c (.int j 1)))
abbrev jA:aE:=.i (.v 3) (.a8 (.l 0))
abbrev rV:aE:=.i (.v 3) (.a8 (.c (.int j 0)))
abbrev jM:aE:=.i (.v 6) (.a8 (.l 0))
abbrev u1:aE:=.i (.v 4) (.a8 (.c (.int j 0)))
abbrev hd:aE:=.i .l (.a8 (.v 2))
abbrev jP:aE:=.i .l (.load J 3 (.l 0))
abbrev je:aE:=.i (.v 4) (.a8 (.l 0))
abbrev hV:aE:=.i .l (.a8 (.v 5))
abbrev pJ:aE:=.i (.v 5) (.a8 (.c (.int j 0)))
abbrev zo:aE:=.i (.v 2) (.a8 (.c (.bool U)))
abbrev d8:aE:=.i (.v 5) (.a8 (.l 0))
abbrev rU:aE:=.i .l (.bin (.int j) .geq (.l 0) (.c (.int j 0)))
abbrev sV:aE:=.i .n (.store 3 (.v 5) (.l 1))
abbrev lT:aE:=.i .n (.store 1 (.l 0) (.l 2))
abbrev jz:aE:=.i (.v 2) (.a8 (.l 0))
abbrev Az:aE:=.i .l (.build [.int j 0,.int j 0,.int j 0,.int j 0,.aJ] [(0,1),(1,1),(2,3)] [(0,(.l 0))])
abbrev ld:aE:=.g (.l 1) U .l (.load U 1 (.l 0))
abbrev AA:aE:=.i (.v 2) (.a8 (.c (.int j 0)))
abbrev nH:aE:=.g (.l 1) J .l (.load U 1 (.l 0))
abbrev qs:aE:=.i .l (.call (.c (.fn 90 [] [])) [.l 0])
abbrev AK:aE:=.i .l (.build [.int j 0,.int j 0,.aJ] [(0,1),(1,1),(2,1)] [(0,(.c (.int j 1))),(1,(.l 0))])
abbrev kH:aE:=.i .l (.a8 (.v 7))
abbrev qp:aE:=.i .l (.bin (.int j) .lss (.l 0) (.c (.int j 0)))
abbrev kI:aE:=.i .l (.db 2 (.l 0))
abbrev mR:aE:=.i .l (.load J 4 (.l 0))
abbrev n9:aE:=.i .n (.store 5 (.v 3) (.l 0))
abbrev xP:aE:=.i (.v 5) (.alloc [.int j 0,.int j 0,.aJ])
abbrev xO:aE:=.i (.v 4) (.alloc [.int j 0,.int j 0,.aJ])
abbrev kZ:aE:=.i (.v 8) (.a8 (.l 0))
abbrev ky:aE:=.i .l (.a8 (.v 6))
abbrev tP:aE:=.i .l (.bin (.int j) .neq (.l 0) (.c (.int j 0)))
abbrev rb:aE:=.i .n (.store 3 (.v 5) (.l 0))
abbrev rW:aE:=.i (.v 6) (.a8 (.c (.int j 0)))
abbrev qB:aE:=.i .l (.len U (o 109) (.l 0))
abbrev sS:aE:=.i .l (.len U (o 35) (.l 0))
abbrev zr:aE:=.i .l (.pick (.l 2) (.c (.bool J)) (.l 0))
abbrev ii:aE:=.i .l (.db 0 (.v 1))
abbrev aCU:aE:=.i .l (.call (.l 0) [.c (.int j 2)])
abbrev nF:aE:=.i .l (.db 1 (.v 2))
abbrev nG:aE:=.i (.v 7) (.a8 (.l 0))
abbrev wO:aE:=.i .l (.fe (o 109) ag (.l 1) (.l 0))
abbrev wE:aE:=.i .l (.fe (o 35) ag (.l 1) (.l 0))
abbrev rX:aE:=.i (.v 8) (.a8 (.c (.int j 0)))
abbrev xD:aE:=.i .l (.fe ag (o (4,1)) (.l 0) (.l 2))
abbrev pK:aE:=.i (.v 1) (.a8 (.l 0))
abbrev qA:aE:=.i .l (.db 3 (.v 2))
abbrev HA:aE:=.g (.l 1) U .l (.bin (.int j) .lss (.l 0) (.c (.int j 0)))
abbrev K0:aE:=.i .l (.build [.int j 0,.int j 0,.int j 0,.int j 0,.aJ] [(0,1),(1,1),(2,3)] [(2,(.l 0))])
abbrev oE:aE:=.i .l (.db 1 (.v 4))
abbrev sX:aE:=.i .n (.store 2 (.v 2) (.l 0))
abbrev zt:aE:=.i .l (.pick (.l 3) (.l 0) (.c (.bool U)))
abbrev KY:aE:=.i .l (.build [.int j 0,.int j 0,.aJ] [(0,1),(1,1),(2,1)] [(0,(.c (.int j 4))),(1,(.l 0))])
abbrev LG:aE:=.i .l (.build [.int j 0,.int j 0,.aJ] [(0,1),(1,1),(2,1)] [(0,(.c (.int j 2))),(2,(.l 0))])
abbrev tR:aE:=.i .l (.load J 3 (.v 5))
abbrev sT:aE:=.i .l (.load J 3 (.v 4))
abbrev B7:aE:=.i .l (.lx U 3 [.int j 0] 1 1 [(0,(.l 0))])
abbrev zf:aE:=.g (.l 3) J .l (.load U 1 (.l 0))
abbrev u':aE:=.i (.v 9) (.a8 (.l 0))
abbrev wH:aE:=.i .n (.store 3 (.v 7) (.l 0))
abbrev xE:aE:=.g (.l 0) J .l (.a8 (.v 1))
abbrev wo:aE:=.g (.l 0) J .l (.a8 (.v 0))
abbrev pL:aE:=.i .l (.a8 (.v 8))
abbrev LN:aE:=.i .l (.lx U 137 [.int j 0,.int j 0,.int j 0,.int j 0] 4 1 [(0,(.l 0))])
abbrev tJ:aE:=.i .l (.load J 3 (.v 6))
abbrev tQ:aE:=.i .l (.load J 3 (.v 3))
abbrev r3:aE:=.i .l (.db 0 (.v 2))
abbrev Rg:aE:=.i .l (.build [.int j 0,.int j 0,.int j 0,.int j 0,.int j 0,.int j 0] [(0,1),(1,1),(2,1),(3,1),(4,1),(5,1)] [])
abbrev IQ:aE:=.i .l (.call (.c (.fn 95 [] [])) [.l 7,.l 6,.l 2,.l 1,.l 0])
abbrev HG:aE:=.i (.v 2) (.a8 (.c .aJ))
abbrev IT:aE:=.i (.v 1) (.a8 (.c .aJ))
abbrev qt:aE:=.i .l (.a8 (.v 9))
abbrev CB:aE:=.i .l (.bin (.int j) .eql (.l 0) (.c (.int j 5)))
abbrev EI:aE:=.i .l (.bin (.int j) .eql (.l 0) (.c (.int j 0)))
abbrev zg:aE:=.g (.l 0) U .l (.a8 (.v 1))
abbrev LR:aE:=.g (.l 1) U .l (.bin (.int j) .geq (.l 0) (.c (.int j 4)))
abbrev wv:aE:=.i (.v 7) (.a8 (.c (.int j 0)))
abbrev Mp:aE:=.i (.v 4) (.a8 (.c (.bool U)))
abbrev wF:aE:=.i .n (.store 3 (.v 4) (.l 0))
abbrev sU:aE:=.i .l (.load J 3 (.v 2))
abbrev acw:aE:=.i .l (.lx U 132 [.int j 0,.int j 0,.int j 0,.int j 0,.int j 0,.int j 0] 6 1 [(0,(.l 0))])
abbrev alD:aE:=.i (.v 3) (.alloc [.int j 0,.int j 0,.int j 0,.int j 0,.aJ])
abbrev va:aE:=.i (.v 10) (.a8 (.l 0))
abbrev tK:aE:=.i .l (.db 2 (.v 2))
abbrev He:aE:=.i .l (.call (.c (.fn 91 [] [])) [.l 0,.c (.int j 4)])
abbrev zR:aE:=.i .l (.len U (o 82) (.l 0))
abbrev El:aE:=.g (.l 4) J .l (.load U 1 (.l 0))
abbrev zs:aE:=.i .n (.store 3 (.v 7) (.l 1))
abbrev ze:aE:=.i .n (.store 1 (.l 0) (.l 1))
abbrev QU:aE:=.i .l (.lx J 35 [.int j 0,.int j 0,.aJ] 3 1 [(0,(.c (.agg [.int j 0,.int j 0,.aJ])))])
abbrev Em:aE:=.i .l (.pick (.l 5) (.l 0) (.c (.bool U)))
abbrev acm:aE:=.i .l (.build [.int j 0,.int j 0,.int j 0,.int j 0,.int j 0,.int j 0] [(0,1),(1,1),(2,1),(3,1),(4,1),(5,1)] [(0,(.c (.int j (-1)))),(1,(.l 2)),(2,(.l 1)),(3,(.l 0)),(4,(.c (.int j (-1))))])
abbrev AN:aE:=.i (.v 11) (.a8 (.l 0))
abbrev LK:aE:=.i .l (.lx U 35 [.int j 0,.int j 0,.aJ] 3 1 [(0,(.l 0))])
abbrev tS:aE:=.i .l (.a8 (.v 10))
abbrev Tv:aE:=.i .l (.build [.int j 0,.int j 0] [(0,1),(1,1)] [(0,(.c (.int j 3))),(1,(.c (.int j (-1))))])
abbrev Co:aE:=.i (.v 1) (.box 3 (.v 0))
abbrev Hj:aE:=.i (.v 9) (.alloc [.int j 0,.int j 0,.aJ])
abbrev Hm:aE:=.i (.v 7) (.alloc [.int j 0,.int j 0,.aJ])
abbrev GJ:aE:=.i (.v 6) (.alloc [.int j 0,.int j 0,.aJ])
abbrev G9:aE:=.i (.v 1) (.alloc [.int j 0,.int j 0,.aJ])
abbrev EN:aE:=.g (.l 0) U .l (.a8 (.v 2))
abbrev acq:aE:=.i .l (.build [.int j 0,.int j 0,.int j 0,.int j 0,.int j 0,.int j 0] [(0,1),(1,1),(2,1),(3,1),(4,1),(5,1)] [(0,(.c (.int j (-1)))),(1,(.l 3)),(2,(.l 2)),(4,(.l 1)),(5,(.l 0))])
abbrev Sd:aE:=.i (.v 6) (.alloc [.int j 0,.int j 0,.int j 0,.int j 0,.int j 0,.int j 0])
abbrev Rh:aE:=.i (.v 4) (.alloc [.int j 0,.int j 0,.int j 0,.int j 0,.int j 0,.int j 0])
abbrev wG:aE:=.i .l (.db 7 (.l 0))
abbrev wL:aE:=.i .l (.db 2 (.v 1))
abbrev r5:aE:=.i .l (.db 0 (.v 3))
abbrev B':aE:=.i .l (.len U (o 3) (.l 0))
abbrev acu:aE:=.i .l (.build [.int j 0,.int j 0,.int j 0,.int j 0,.int j 0,.int j 0] [(0,1),(1,1),(2,1),(3,1),(4,1),(5,1)] [(0,(.l 2)),(1,(.l 1)),(2,(.l 0)),(4,(.c (.int j (-1))))])
abbrev Hs:aE:=.i (.v 5) (.a8 (.c (.bool U)))
abbrev vb:aE:=.i (.v 17) (.a8 (.l 0))
abbrev B3:aE:=.i (.v 1) (.a8 (.c (.int j 0)))
abbrev Le:aE:=.g (.l 2) J .l (.bin (.int j) .lss (.l 0) (.c (.int j 0)))
abbrev CA:aE:=.g (.l 0) U .l (.db 0 (.v 1))
abbrev Hf:aE:=.i .l (.call (.c (.fn 114 [] [])) [.l 1,.l 0])
abbrev Es:aE:=.i .l (.fe (o 3) ag (.l 1) (.l 0))
abbrev Ti:aE:=.i .l (.call (.c (.fn 79 [] [])) [.l 4,.l 0])
abbrev aet:aE:=.i (.v 2) (.a8 (.c (.bool J)))
abbrev xC:aE:=.i .l (.lN (.l 2))
abbrev SS:aE:=.i .l (.build [.int j 0,.int j 0,.aJ] [(0,1),(1,1),(2,1)] [(0,(.l 2)),(1,(.l 0))])
abbrev GS:aE:=.i .l (.pick (.l 2) (.l 0) (.c (.bool U)))
abbrev oH:aE:=.i .l (.db 1 (.v 3))
abbrev LB:aE:=.i .l (.call (.c (.fn 91 [] [])) [.l 0,.c (.int j 1)])
abbrev Lv:aE:=.i .l (.call (.c (.fn 89 [] [])) [.l 0,.c (.int j 2)])
abbrev EU:aE:=.i .l (.build [.int j 0,.int j 0] [(0,1),(1,1)] [])
abbrev wq:aE:=.i .l (.un .not (.l 0))
abbrev CC:aE:=.i .l (.pick (.l 3) (.c (.bool J)) (.l 0))
abbrev zm:aE:=.i (.v 12) (.a8 (.l 0))
abbrev GN:aE:=.i .l (.len U (o 132) (.l 0))
abbrev FS:aE:=.i (.v 8) (.bin (.int j) .neq (.l 0) (.c (.int j 0)))
abbrev Hi:aE:=.i .l (.fe ag (o (4,5)) (.l 0) (.l 2))
abbrev zn:aE:=.i .l (.lN (.l 4))
abbrev xQ:aE:=.i .l (.lN (.l 1))
abbrev NX:aE:=.i .l (.call (.l 1) [.l 0])
abbrev HC:aE:=.i .l (.bin (.int j) .lss (.l 3) (.l 0))
abbrev Cp:aE:=.i (.v 3) (.box 3 (.v 1))
abbrev My:aE:=.i (.v 2) (.box 3 (.v 1))
abbrev aCV:aE:=.i .l (.bin (.int j) .add (.v 11) (.c (.int j 1)))
abbrev CE:aE:=.i (.v 9) (.a8 (.c (.int j 0)))
abbrev Q4:aE:=.i (.v 4) (.a8 (.c (.int j 1)))
abbrev R6:aE:=.i .l (.call (.c (.fn 88 [] [])) [.l 0])
abbrev xU:aE:=.i .l (.a8 (.v 11))
abbrev aCW:aE:=.i .l (.bin (.int j) .add (.v 9) (.c (.int j 1)))
abbrev aCX:aE:=.i .l (.bin (.int j) .add (.v 5) (.c (.int j 1)))
abbrev Ej:aE:=.i .n (.store 1 (.l 0) (.c (.bool J)))
abbrev IK:aE:=.i .l (.fe (o 82) ag (.l 1) (.l 0))
abbrev tT:aE:=.i .l (.db 0 (.v 4))
abbrev Vc:aE:=.i .l (.fe (o 109) ag (.l 0) (.c (.int j 1)))
abbrev Vb:aE:=.i .l (.fe (o 109) ag (.l 0) (.c (.int j 0)))
abbrev Fr:aE:=.i (.v 3) (.alloc [.int j 0,.int j 0,.aJ])
abbrev Lw:aE:=.i (.v 2) (.alloc [.int j 0,.int j 0,.aJ])
abbrev NW:aE:=.i .l (.fe (o 35) ag (.l 0) (.c (.int j 1)))
abbrev B5:aE:=.i (.v 6) (.un .not (.l 0))
abbrev GM:aE:=.g (.l 2) J .l (.load U 1 (.l 0))
abbrev aeb:aE:=.i .l (.lx J 126 [.int j 0,.int j 0,.int j 0,.int j 0,.int j 0,.aJ,.aJ,.aJ,.bool U,.aJ] 10 1 [(0,(.l 0))])
abbrev AB:aE:=.i (.v 5) (.a8 (.l 1))
abbrev aCY:aE:=.i (.v 12) (.bin (.int j) .lss (.v 11) (.v 10))
abbrev ES:aE:=.g (.l 1) J .l (.a8 (.v 1))
abbrev LF:aE:=.i .l (.call (.c (.fn 89 [] [])) [.l 1,.l 0])
abbrev MY:aE:=.i (.v 2) (.alloc [.int j 0,.int j 0])
abbrev aCZ:aE:=.i (.v 10) (.bin (.int j) .lss (.v 9) (.v 8))
abbrev Lt:aE:=.i .l (.len U (o 126) (.l 0))
abbrev AO:aE:=.i .l (.db 3 (.l 0))
abbrev aC0:aE:=.i (.v 6) (.bin (.int j) .lss (.v 5) (.v 4))
abbrev HF:aE:=.i (.v 11) (.a8 (.c (.int j 0)))
abbrev Q3:aE:=.i .l (.pick (.l 7) (.l 0) (.c (.bool U)))
abbrev Ov:aE:=.i .l (.pick (.l 6) (.l 0) (.c (.bool U)))
abbrev ajE:aE:=.i .l (.build [.int j 0,.int j 0,.int j 0,.int j 0,.aJ] [(0,1),(1,1),(2,3)] [(0,(.l 2)),(1,(.l 1)),(2,(.l 0))])
abbrev GR:aE:=.i (.v 3) (.a8 (.c (.bool U)))
abbrev Cq:aE:=.i (.v 13) (.a8 (.l 0))
abbrev SM:aE:=.g (.l 2) J .l (.bin (.int j) .neq (.l 0) (.c (.int j 0)))
abbrev Eo:aE:=.i .l (.load J 6 (.l 0))
abbrev EZ:aE:=.i .l (.load J 4 (.v 4))
abbrev ED:aE:=.i .l (.load J 3 (.v 1))
abbrev HE:aE:=.g (.l 0) J .l (.db 1 (.v 1))
abbrev L':aE:=.i .l (.bin (.int j) .sub (.l 4) (.l 0))
abbrev SZ:aE:=.i .l (.bin (.int j) .sub (.l 1) (.l 0))
abbrev Ha:aE:=.i .l (.bin (.int j) .neq (.l 1) (.l 0))
abbrev B6:aE:=.i (.v 4) (.a8 (.l 1))
abbrev B8:aE:=.i (.v 0) (.a8 (.l 0))
abbrev aC1:aE:=.i (.v 0) (.a8 (.c .e'))
abbrev Hp:aE:=.i (.v 7) (.load U 1 (.l 0))
abbrev Hr:aE:=.i (.v 6) (.load U 1 (.l 0))
abbrev NQ:aE:=.i .l (.call (.c (.fn 57 [] [])) [.l 0])
abbrev ajC:aE:=.i .l (.build [.int j 0,.int j 0,.int j 0,.int j 0,.aJ] [(0,1),(1,1),(2,3)] [(0,(.c (.int j 8)))])
abbrev ajH:aE:=.i .l (.build [.int j 0,.int j 0,.int j 0,.int j 0,.aJ] [(0,1),(1,1),(2,3)] [(0,(.c (.int j 2)))])
abbrev ajF:aE:=.i .l (.build [.int j 0,.int j 0,.int j 0,.int j 0,.aJ] [(0,1),(1,1),(2,3)] [(0,(.c (.int j 1)))])
abbrev Dg:aE:=.i .l (.db 3 (.v 5))
abbrev Lb:aE:=.g (.l 4) U .l (.load U 1 (.l 0))
abbrev LJ:aE:=.g (.l 3) U .l (.load U 1 (.l 0))
abbrev SF:aE:=.i (.v 16) (.bin (.int j) .neq (.l 0) (.c (.int j 0)))
abbrev Rd:aE:=.i (.v 11) (.bin (.int j) .eql (.l 0) (.c (.int j 0)))
abbrev GK:aE:=.i .n (.store 3 (.v 6) (.l 0))
abbrev HO:aE:=.i .n (.store 3 (.v 4) (.l 1))
abbrev EC:aE:=.i .n (.store 3 (.v 3) (.l 0))
abbrev G':aE:=.i .n (.store 3 (.v 1) (.l 0))
abbrev QP:aE:=.i (.v 7) (.bin (.int j) .neq (.l 0) (.c (.int j 0)))
abbrev EG:aE:=.i (.v 15) (.a8 (.l 0))
abbrev Fq:aE:=.i .l (.a8 (.v 17))
abbrev CF:aE:=.i .l (.a8 (.v 13))
abbrev HR:aE:=.i .l (.bin (.int j) .lss (.l 0) (.c (.int j 1)))
abbrev aC2:aE:=.i .l (.bin (.int j) .add (.v 8) (.c (.int j 1)))
abbrev M7:aE:=.i (.v 2) (.a8 (.c (.int j (-1))))
abbrev SG:aE:=.i (.v 12) (.alloc [.int j 0,.int j 0,.aJ])
abbrev ace:aE:=.g (.l 6) J .l (.bin (.int j) .lss (.l 5) (.l 0))
abbrev SY:aE:=.g (.l 2) J .l (.bin (.int j) .leq (.l 1) (.l 0))
abbrev ad9:aE:=.i .l (.build [.int j 0,.int j 0,.aJ] [(0,1),(1,1),(2,1)] [(0,(.c (.int j 5))),(1,(.l 0))])
abbrev IJ:aE:=.i .l (.load J 9 (.v 2))
abbrev IS:aE:=.i .l (.load J 9 (.l 0))
abbrev Hk:aE:=.i .l (.load J 3 (.v 9))
abbrev EJ:aE:=.i .l (.load J 1 (.v 3))
abbrev acy:aE:=.i (.v 5) (.alloc [.int j 0,.int j 0,.int j 0,.int j 0,.int j 0,.int j 0])
abbrev acC:aE:=.i (.v 2) (.alloc [.int j 0,.int j 0,.int j 0,.int j 0,.int j 0,.int j 0])
abbrev K3:aE:=.g (.l 4) J .l (.un .not (.l 0))
abbrev aj6:aE:=.i .l (.lx U 41 [.int j 0,.int j 0,.int j 0,.int j 0,.aJ] 5 1 [(0,(.l 0))])
abbrev Fo:aE:=.i .l (.db 6 (.v 2))
abbrev aC3:aE:=.i (.v 3) (.a8 (.c .aJ))
abbrev QW:aE:=.i .l (.len U (o 4) (.l 0))
abbrev aC4:aE:=.i (.v 3) (.a8 (.c (.int j 9)))
abbrev aC5:aE:=.i (.v 3) (.a8 (.c (.int j 1)))
abbrev Rw:aE:=.i .l (.call (.c (.fn 154 [] [])) [.l 1,.l 0])
abbrev Sf:aE:=.i .l (.call (.c (.fn 114 [] [])) [.l 5,.l 0])
abbrev aeI:aE:=.i (.v 7) (.pick (.l 2) (.c (.bool J)) (.l 0))
abbrev VU:aE:=.i (.v 2) (.box 9 (.v 1))
abbrev Tr:aE:=.i (.v 2) (.box 4 (.v 0))
abbrev BT:aE:=.i (.v 1) (.box 1 (.v 0))
abbrev K1:aE:=.g (.l 1) J .l (.lN (.l 0))
abbrev Ra:aE:=.i (.v 9) (.bin (.int j) .lss (.v 8) (.v 7))
abbrev Tw:aE:=.i (.v 5) (.bin (.int j) .lss (.l 3) (.l 0))
abbrev Rt:aE:=.i .l (.pick (.l 4) (.l 0) (.c (.bool U)))
abbrev N0:aE:=.i .l (.a8 (.v 22))
abbrev aC6:aE:=.i (.v 2) (.bin .slice .eql (.l 0) (.c .aJ))
abbrev EW:aE:=.g (.l 2) U .l (.a8 (.v 0))
abbrev La:aE:=.g (.l 1) U .l (.a8 (.v 0))
abbrev agQ:aE:=.i .l (.lx U 109 [.int j 0,.int j 0,.int j 0,.aJ] 4 1 [(0,(.l 0))])
abbrev Cr:aE:=.i (.v 16) (.a8 (.l 0))
abbrev Hl:aE:=.i (.v 14) (.a8 (.l 0))
abbrev K8:aE:=.i .n (.store 6 (.v 4) (.l 0))
abbrev K6:aE:=.i .n (.store 6 (.v 2) (.l 0))
abbrev LM:aE:=.i .n (.store 3 (.v 9) (.l 0))
abbrev Hb:aE:=.i .n (.store 3 (.v 2) (.l 0))
abbrev GL:aE:=.i .l (.db 19 (.l 0))
abbrev Ht:aE:=.i .l (.db 12 (.l 0))
abbrev Sc:aE:=.i .l (.call (.c (.fn 115 [] [])) [.l 0])
abbrev ad':aE:=.i .l (.lx U 35 [.int j 0,.int j 0,.aJ] 3 2 [(0,(.l 2)),(1,(.l 0))])
abbrev U0:aE:=.i .l (.bin (.int j) .lss (.l 2) (.l 0))
abbrev R':aE:=.i .l (.bin (.int j) .eql (.l 1) (.l 0))
abbrev SE:aE:=.i .n (.store 1 (.v 8) (.c (.int j 0)))
abbrev Q':aE:=.i .l (.fe (o 132) ag (.l 1) (.l 0))
abbrev Tg:aE:=.i .l (.fe (o 109) ag (.v 7) (.v 9))
abbrev Q6:aE:=.i .l (.call (.c (.fn 96 [] [])) [.l 0])
abbrev S6:aE:=.i .l (.call (.c (.fn 53 [] [])) [.l 0])
abbrev R9:aE:=.i .l (.call (.c (.fn 47 [] [])) [.l 0])
abbrev agD:aE:=.i .l (.build [.int j 0,.int j 0] [(0,1),(1,1)] [(0,(.l 1)),(1,(.l 0))])
abbrev alF:aE:=.i (.v 6) (.alloc [.int j 0,.int j 0,.int j 0,.int j 0,.aJ])
abbrev II:aE:=.i .l (.db 5 (.v 2))
abbrev EP:aE:=.i .l (.db 2 (.v 3))
abbrev K':aE:=.i .l (.box 2 (.l 0))
abbrev Tj:aE:=.i (.v 8) (.len U (o 109) (.v 7))
abbrev Q1:aE:=.g (.l 6) J .l (.load U 1 (.l 0))
abbrev Ek:aE:=.i .l (.lN (.l 6))
abbrev IP:aE:=.i .l (.a8 (.v 14))
abbrev Lu:aE:=.i (.v 2) (.box 3 (.v 0))
abbrev Ve:aE:=.i .l (.call (.c (.fn 35 [] [])) [])
abbrev ae3:aE:=.g (.l 1) U .l (.bin (.int j) .gtr (.l 0) (.c (.int j 2000)))
abbrev WD:aE:=.i .l (.len U (o 41) (.l 0))
abbrev aj4:aE:=.i .l (.Kq 35 [.int j 0,.int j 0,.aJ] 3 1 [(0,(.l 0))])
abbrev agl:aE:=.i (.v 6) (.alloc [.int j 0,.int j 0,.int j 0,.aJ])
abbrev agB:aE:=.i (.v 4) (.alloc [.int j 0,.int j 0,.int j 0,.aJ])
abbrev ajU:aE:=.g (.l 4) U .l (.bin (.int j) .neq (.l 0) (.c (.int j 1)))
abbrev agG:aE:=.g (.l 3) U .l (.bin (.int j) .gtr (.l 0) (.c (.int j 6)))
abbrev Mf:aE:=.g (.l 2) U .l (.bin (.int j) .gtr (.l 0) (.c (.int j 5)))
abbrev Tu:aE:=.g (.l 1) J .l (.bin (.int j) .eql (.l 0) (.c (.int j 12)))
abbrev aC7:aE:=.g (.l 1) U .l (.bin (.int j) .geq (.l 0) (.c (.int j 6)))
abbrev Q8:aE:=.i (.v 6) (.a8 (.c (.int j 1)))
abbrev GO:aE:=.i (.v 5) (.a8 (.c (.int j 1)))
abbrev NZ:aE:=.i (.v 22) (.a8 (.l 0))
abbrev LL:aE:=.i (.v 20) (.a8 (.l 0))
abbrev SR:aE:=.i (.v 2) (.a8 (.c (.int j 5)))
abbrev Rk:aE:=.i (.v 1) (.a8 (.c (.bool U)))
abbrev alL:aE:=.g (.l 5) J .l (.bin (.int j) .eql (.l 0) (.c (.int j 0)))
abbrev MQ:aE:=.g (.l 2) J .l (.bin (.int j) .neq (.l 0) (.c (.int j 2)))
abbrev akd:aE:=.g (.l 2) J .l (.bin (.int j) .eql (.l 0) (.c (.int j 0)))
abbrev ajo:aE:=.g (.l 1) J .l (.bin (.int j) .lss (.l 0) (.c (.int j 4)))
abbrev ae9:aE:=.g (.l 1) J .l (.bin (.int j) .geq (.l 0) (.c (.int j 0)))
abbrev agz:aE:=.g (.l 1) J .l (.bin (.int j) .eql (.l 0) (.c (.int j 1)))
abbrev zu:aE:=.g (.l 0) U .l (.db 1 (.v 3))
abbrev aC8:aE:=.i .l (.build [.e',.aJ] [(0,1),(1,1)] [(0,(.l 1)),(1,(.l 0))])
abbrev ajS:aE:=.g (.l 1) U .l (.fe (o 35) ag (.l 0) (.c (.int j 1)))
abbrev SU:aE:=.i (.v 7) (.call (.l 4) [.l 0])
abbrev So:aE:=.i (.v 5) (.a8 (.c (.bool J)))
abbrev Q2:aE:=.g (.l 3) J .l (.db 0 (.l 0))
abbrev Q0:aE:=.g (.l 2) J .l (.db 1 (.l 0))
abbrev SV:aE:=.g (.l 0) J .l (.db 1 (.v 2))
abbrev aC9:aE:=.i .l (.lx J 4 [.bool U] 1 1 [(0,(.c (.bool U)))])
abbrev LD:aE:=.i (.v 6) (.a8 (.l 1))
abbrev aj5:aE:=.i .l (.call (.c (.fn 65 [] [])) [.l 3,.l 2,.l 1,.l 0])
abbrev ajG:aE:=.i .l (.call (.c (.fn 59 [] [])) [.l 4,.l 2,.l 1,.l 0])
abbrev acd:aE:=.g (.l 2) J .l (.lN (.l 0))
abbrev SH:aE:=.i .n (.store 3 (.v 12) (.l 1))
abbrev KZ:aE:=.i .l (.lN (.l 10))
abbrev xN:aE:=.i .l (.db 6 (.l 0))
abbrev LC:aE:=.i .l (.db 4 (.v 6))
abbrev NS:aE:=.i .l (.db 4 (.v 2))
abbrev MV:aE:=.i .l (.db 3 (.v 3))
abbrev Mi:aE:=.i .l (.db 1 (.v 1))
abbrev NR:aE:=.i .l (.db 0 (.v 6))
abbrev aC':aE:=.i .l (.call (.c (.fn 89 [] [])) [.l 0,.c (.int j 4)])
abbrev SL:aE:=.g (.l 0) U .l (.a8 (.v 3))
abbrev af0:aE:=.i (.v 18) (.bin (.int j) .neq (.l 0) (.c (.int j 0)))
abbrev M1:aE:=.i (.v 15) (.bin (.int j) .neq (.l 0) (.c (.int j 0)))
abbrev afe:aE:=.i (.v 13) (.bin (.int j) .neq (.l 0) (.c (.int j 0)))
abbrev Tm:aE:=.i .n (.store 4 (.v 6) (.l 0))
abbrev Tp:aE:=.i .n (.store 2 (.v 3) (.l 0))
abbrev ajt:aE:=.i (.v 8) (.bin (.int j) .geq (.l 0) (.c (.int j 0)))
abbrev aes:aE:=.i (.v 8) (.bin (.int j) .eql (.l 0) (.c (.int j 0)))
abbrev afY:aE:=.i (.v 6) (.bin (.int j) .neq (.l 0) (.c (.int j 0)))
abbrev afn:aE:=.i (.v 5) (.bin (.int j) .eql (.l 0) (.c (.int j 4)))
abbrev acD:aE:=.i (.v 5) (.bin (.int j) .eql (.l 0) (.c (.int j 0)))
abbrev SP:aE:=.g (.l 7) U .l (.pick (.l 3) (.l 0) (.c (.bool U)))
abbrev acb:aE:=.g (.l 1) J .l (.a8 (.v 0))
abbrev SX:aE:=.g (.l 0) J .l (.a8 (.v 4))
abbrev Rv:aE:=.g (.l 0) J .l (.a8 (.v 3))
abbrev MW:aE:=.g (.l 0) J .l (.a8 (.v 2))
abbrev Sh:aE:=.i .l (.lN (.l 7))
abbrev acg:aE:=.i .l (.bin (.int j) .neq (.l 0) (.c (.int j (-1))))
abbrev NE:aE:=.i .l (.load U 1 (.v 11))
abbrev alN:aE:=.g (.l 9) J .l (.pick (.l 4) (.c (.bool J)) (.l 0))
abbrev ajx:aE:=.g (.l 7) U .l (.fe ag (o (4,1)) (.l 0) (.l 2))
abbrev ajA:aE:=.g (.l 10) U .l (.bin (.int j) .geq (.l 8) (.l 0))
abbrev ael:aE:=.i .l (.bin (.int j) .eql (.v 10) (.c (.int j 6)))
abbrev aej:aE:=.i .l (.bin (.int j) .eql (.v 10) (.c (.int j 4)))
abbrev aeh:aE:=.i .l (.bin (.int j) .eql (.v 10) (.c (.int j 3)))
abbrev aeg:aE:=.i .l (.bin (.int j) .eql (.v 10) (.c (.int j 2)))
abbrev aef:aE:=.i .l (.bin (.int j) .eql (.v 10) (.c (.int j 1)))
abbrev aDa:aE:=.i .l (.bin (.int j) .eql (.l 0) (.c (.int j 20)))
abbrev afX:aE:=.i .l (.bin (.int j) .add (.v 10) (.c (.int j 1)))
abbrev ac2:aE:=.g (.l 6) U .l (.bin (.int j) .geq (.l 5) (.l 0))
abbrev Ls:aE:=.i .n (.An (.l 0))
abbrev NY:aE:=.i .l (.a8 (.v 15))
abbrev N1:aE:=.i .l (.a8 (.v 12))
abbrev SD:aE:=.i .l (.load U 1 (.v 6))
abbrev SJ:aE:=.i .l (.load U 1 (.v 1))
abbrev afE:aE:=.i .l (.bin (.int j) .eql (.v 6) (.c (.int j 5)))
abbrev LP:aE:=.i .l (.bin (.int j) .eql (.v 4) (.c (.int j 4)))
abbrev afG:aE:=.i .l (.bin (.int j) .eql (.l 0) (.c (.int j 3)))
abbrev acH:aE:=.i .l (.bin (.int j) .add (.v 7) (.c (.int j 1)))
abbrev aer:aE:=.i (.v 10) (.alloc [.int j 0,.int j 0,.aJ])
abbrev aly:aE:=.g (.l 5) J .l (.bin (.int j) .eql (.l 1) (.l 0))
abbrev afu:aE:=.g (.l 4) J .l (.bin (.int j) .eql (.l 2) (.l 0))
abbrev alI:aE:=.g (.l 3) J .l (.bin (.int j) .lss (.l 2) (.l 0))
abbrev alx:aE:=.g (.l 3) J .l (.bin (.int j) .and (.l 1) (.l 0))
abbrev agk:aE:=.i .l (.fe (o 109) ag (.l 0) (.c (.int j 2)))
abbrev aep:aE:=.i (.v 8) (.alloc [.int j 0,.int j 0,.aJ])
abbrev Si:aE:=.i .l (.load J 5 (.l 0))
abbrev Tn:aE:=.i .l (.load J 4 (.v 6))
abbrev Sm:aE:=.i .l (.load J 3 (.v 7))
abbrev To:aE:=.i .l (.load J 1 (.v 1))
abbrev UX:aE:=.i .l (.load J 1 (.l 0))
abbrev QZ:aE:=.i (.v 3) (.un .not (.l 0))
abbrev alK:aE:=.g (.l 2) J .l (.fe (o 41) ag (.l 1) (.l 0))
abbrev ab8:aE:=.g (.l 5) J .l (.fe (o 4) ag (.l 1) (.l 0))
abbrev ad3:aE:=.i .l (.call (.c (.fn 145 [] [])) [.l 1,.l 0])
abbrev ajX:aE:=.i .l (.call (.c (.fn 138 [] [])) [.l 1,.l 0])
abbrev afU:aE:=.i .l (.call (.c (.fn 128 [] [])) [.l 1,.l 0])
abbrev aen:aE:=.i .l (.call (.c (.fn 114 [] [])) [.l 8,.l 0])
abbrev aei:aE:=.i .l (.call (.c (.fn 114 [] [])) [.l 4,.l 0])
abbrev agj:aE:=.i .l (.call (.c (.fn 107 [] [])) [.l 1,.l 0])
abbrev acS:aE:=.i .l (.call (.c (.fn 100 [] [])) [.l 1,.l 0])
abbrev afz:aE:=.i (.v 6) (.pick (.l 3) (.l 0) (.c (.bool U)))
abbrev ae':aE:=.i (.v 5) (.pick (.l 2) (.l 0) (.c (.bool U)))
abbrev acW:aE:=.i .l (.call (.c (.fn 99 [] [])) [.l 4,.l 0])
abbrev ab2:aE:=.i .l (.call (.c (.fn 98 [] [])) [.l 1,.l 0])
abbrev acn:aE:=.i .l (.call (.c (.fn 97 [] [])) [.l 4,.l 0])
abbrev agf:aE:=.i .l (.call (.c (.fn 79 [] [])) [.l 1,.l 0])
abbrev alS:aE:=.i .l (.call (.c (.fn 36 [] [])) [.l 1,.l 0])
abbrev agH:aE:=.i (.v 6) (.pick (.l 4) (.c (.bool J)) (.l 0))
abbrev afW:aE:=.i (.v 11) (.bin (.int j) .lss (.v 10) (.v 9))
abbrev ac1:aE:=.g (.l 5) U .l (.len U (o 132) (.l 0))
abbrev agF:aE:=.g (.l 2) U .l (.len U (o 109) (.l 0))
abbrev ajp:aE:=.i (.v 6) (.alloc [.int j 0,.int j 0])
abbrev aeJ:aE:=.i (.v 5) (.alloc [.int j 0,.int j 0])
abbrev agn:aE:=.i (.v 4) (.alloc [.int j 0,.int j 0])
abbrev agm:aE:=.i (.v 3) (.alloc [.int j 0,.int j 0])
abbrev ajz:aE:=.g (.l 9) U .l (.len U (o 35) (.l 0))
abbrev acF:aE:=.i (.v 8) (.bin (.int j) .lss (.v 7) (.v 6))
abbrev ake:aE:=.i (.v 7) (.bin (.int j) .lss (.l 2) (.l 0))
abbrev afw:aE:=.i (.v 5) (.bin (.int j) .lss (.l 2) (.l 0))
abbrev afx:aE:=.i (.v 4) (.bin (.int j) .neq (.l 2) (.l 0))
abbrev alH:aE:=.g (.l 2) J .l (.len U (o 41) (.l 0))
abbrev ab':aE:=.i .l (.pick (.l 8) (.l 0) (.c (.bool U)))
abbrev aDb:aE:=.g (.l 5) J .l (.len U (o 4) (.l 0))
abbrev acL:aE:=.i .l (.build [.aJ,.aJ] [(0,1),(1,1)] [])
abbrev U':aE:=.i (.v 23) (.a8 (.l 0))
abbrev Ho:aE:=.i (.v 19) (.a8 (.l 0))
abbrev Hn:aE:=.i (.v 18) (.a8 (.l 0))
abbrev aj0:aE:=.i .l (.fe ag (o (4,3)) (.l 0) (.l 2))
abbrev alp:aE:=.i .l (.fe ag (o (2,1)) (.v 5) (.l 0))
abbrev U9:aE:=.i .l (.db 4 (.v 21))
abbrev afI:aE:=.i .l (.call (.c (.fn 165 [] [])) [.l 0])
abbrev K2:aE:=.i .l (.call (.c (.fn 120 [] [])) [.l 0])
abbrev aeo:aE:=.i .l (.call (.c (.fn 116 [] [])) [.l 0])
abbrev agP:aE:=.i .l (.call (.c (.fn 111 [] [])) [.l 0])
abbrev aek:aE:=.i .l (.bin (.int j) .sub (.l 2) (.l 0))
abbrev aDc:aE:=.i .l (.bin (.int j) .mul (.l 1) (.l 0))
abbrev Lx:aE:=.i .l (.bin (.int j) .lss (.l 1) (.l 0))
abbrev afs:aE:=.i .l (.bin (.int j) .eql (.l 2) (.l 0))
abbrev adf:aE:=.i .l (.bin (.int j) .and (.l 1) (.l 0))
abbrev afA:aE:=.i .l (.bin (.int j) .add (.l 9) (.l 0))
abbrev aDd:aE:=.i .l (.bin (.int j) .add (.l 1) (.l 0))
abbrev Vd:aE:=.i (.v 7) (.a8 (.l 1))
abbrev Sb:aE:=.i (.v 3) (.a8 (.l 1))
abbrev R5:aE:=.i (.v 2) (.a8 (.v 0))
abbrev ac5:aE:=.i .l (.fe (o 132) ag (.l 4) (.l 0))
abbrev afC:aE:=.i .l (.call (.c (.fn 94 [] [])) [.l 0])
abbrev afc:aE:=.i .l (.call (.c (.fn 87 [] [])) [.l 0])
abbrev ajY:aE:=.i .l (.call (.c (.fn 68 [] [])) [.l 0])
abbrev ad8:aE:=.i .l (.call (.c (.fn 63 [] [])) [.l 0])
abbrev ae8:aE:=.i .l (.call (.c (.fn 48 [] [])) [.l 0])
abbrev alE:aE:=.i .l (.call (.c (.fn 17 [] [])) [.l 0])
abbrev Sn:aE:=.i .l (.lN (.l 11))
abbrev amR:aE:=.i .l (.fe (o 41) ag (.l 1) (.l 0))
abbrev ajD:aE:=.i .l (.fe (o 35) ag (.l 2) (.l 0))
abbrev VW:aE:=.i .l (.db 5 (.l 0))
abbrev Lz:aE:=.i .l (.db 3 (.v 4))
abbrev Rb:aE:=.i .l (.db 1 (.v 5))
abbrev Sj:aE:=.i .l (.db 0 (.v 7))
abbrev Ss:aE:=.i .l (.db 0 (.v 5))
abbrev ajy:aE:=.g (.l 8) U .l (.load U 1 (.l 0))
abbrev ae7:aE:=.g (.l 7) U .l (.load U 1 (.l 0))
abbrev MU:aE:=.g (.l 6) U .l (.load U 1 (.l 0))
abbrev aDe:aE:=.i .l (.fe (o 4) ag (.l 1) (.l 0))
abbrev aj1:aE:=.i .l (.bin .ptr .eql (.l 0) (.c .e'))
abbrev agq:aE:=.i (.v 1) (.a8 (.c (.int j (-1))))
abbrev agd:aE:=.i .l (.len U (o 184) (.l 0))
abbrev ajW:aE:=.i .l (.app U 137 (.l 9) (.l 0))
abbrev aeB:aE:=.i .l (.app U 137 (.l 5) (.l 0))
abbrev aDf:aE:=.i .l (.app U 132 (.l 2) (.l 0))
abbrev agR:aE:=.i .l (.app U 109 (.l 7) (.l 0))
abbrev aev:aE:=.i .l (.len U (o 35) (.l 1))
abbrev af1:aE:=.i .l (.app U 35 (.l 2) (.l 0))
abbrev acj:aE:=.i (.v 4) (.a8 (.c (.int j 11)))
abbrev abW:aE:=.i (.v 2) (.a8 (.c (.int j 11)))
abbrev afZ:aE:=.i (.v 10) (.a8 (.c (.int j 0)))
abbrev ab9:aE:=.g (.l 7) J .l (.un .not (.l 0))
abbrev alT:aE:=.g (.l 2) J .l (.un .not (.l 0))
abbrev acG:aE:=.i .l (.app U 3 (.l 3) (.l 0))
abbrev afl:aE:=.i .l (.app U 3 (.l 2) (.l 0))
abbrev act:aE:=.i (.v 5) (.a8 (.c (.int j 8)))
abbrev HV:aE:=.i (.v 5) (.a8 (.c (.int j 5)))
abbrev aci:aE:=.i (.v 4) (.a8 (.c (.int j 8)))
abbrev ab3:aE:=.i (.v 2) (.a8 (.c (.int j 8)))
abbrev afb:aE:=.i (.v 2) (.a8 (.c (.int j 3)))
abbrev afg:aE:=.i (.v 2) (.a8 (.c (.int j 2)))
abbrev afh:aE:=.i (.v 2) (.a8 (.c (.int j 1)))
abbrev alR:aE:=.i (.v 0) (.a8 (.c (.bool U)))
abbrev ae6:aE:=.g (.l 6) U .l (.db 1 (.l 0))
abbrev MT:aE:=.g (.l 4) U .l (.db 0 (.l 0))
abbrev ajv:aE:=.g (.l 3) U .l (.db 1 (.v 2))
abbrev ac0:aE:=.g (.l 3) U .l (.db 0 (.l 0))
abbrev ajT:aE:=.g (.l 2) U .l (.db 0 (.l 0))
abbrev aju:aE:=.g (.l 0) U .l (.db 4 (.v 2))
abbrev aDg:aE:=.i .l (.app J 4 (.l 1) (.l 0))
abbrev akb:aE:=.i (.v 4) (.a8 (.c (.bool J)))
abbrev acE:aE:=.i (.v 3) (.a8 (.c (.bool J)))
abbrev aee:aE:=.i (.v 10) (.load U 1 (.l 0))
abbrev ajw:aE:=.g (.l 5) U .l (.lN (.l 2))
abbrev aDh:aE:=.g (.l 3) J .l (.db 1 (.l 0))
abbrev ae5:aE:=.g (.l 3) U .l (.lN (.l 1))
abbrev MS:aE:=.g (.l 3) U .l (.lN (.l 0))
abbrev afv:aE:=.g (.l 2) J .l (.db 2 (.v 3))
abbrev aft:aE:=.g (.l 2) J .l (.db 1 (.v 3))
abbrev acZ:aE:=.g (.l 2) U .l (.lN (.l 0))
abbrev ach:aE:=.g (.l 1) J .l (.db 1 (.v 2))
abbrev WF:aE:=.g (.l 0) J .l (.db 2 (.v 2))
abbrev ac6:aE:=.g (.l 0) J .l (.db 1 (.v 8))
abbrev Tt:aE:=.g (.l 0) J .l (.db 0 (.v 3))
abbrev Rl:aE:=.i .l (.conv (.int .u64) (.l 0))
abbrev afi:aE:=.i (.v 9) (.load U 1 (.l 0))
abbrev SO:aE:=.g (.l 3) U .l (.a8 (.l 0))
abbrev MR:aE:=.g (.l 2) U .l (.a8 (.v 2))
abbrev ae4:aE:=.g (.l 2) U .l (.a8 (.v 1))
abbrev aj':aE:=.g (.l 1) U .l (.a8 (.v 7))
abbrev ac7:aE:=.g (.l 0) U .l (.a8 (.v 0))
abbrev ad6:aE:=.i .n (.store 6 (.v 6) (.l 0))
abbrev acz:aE:=.i .n (.store 6 (.v 5) (.l 0))
abbrev abU:aE:=.i .n (.store 5 (.v 5) (.l 0))
abbrev ajr:aE:=.i .n (.store 5 (.v 4) (.l 0))
abbrev agC:aE:=.i .n (.store 4 (.v 4) (.l 0))
abbrev agT:aE:=.i .n (.store 4 (.v 3) (.l 0))
abbrev aed:aE:=.i .n (.store 3 (.v 9) (.l 1))
abbrev aeq:aE:=.i .n (.store 3 (.v 8) (.l 0))
abbrev aDi:aE:=.i .n (.store 3 (.v 4) (.l 2))
abbrev aey:aE:=.i .n (.store 3 (.v 1) (.l 1))
abbrev aeL:aE:=.i .n (.store 3 (.l 0) (.l 3))
abbrev ajq:aE:=.i .n (.store 2 (.v 6) (.l 0))
abbrev aeK:aE:=.i .n (.store 2 (.v 5) (.l 0))
abbrev ago:aE:=.i .n (.store 2 (.v 4) (.l 0))
abbrev aew:aE:=.i .n (.store 1 (.l 0) (.l 3))
abbrev ab7:aE:=.g (.l 4) J .l (.a8 (.v 1))
abbrev alM:aE:=.g (.l 4) J .l (.a8 (.l 0))
abbrev alr:aE:=.g (.l 1) J .l (.a8 (.v 6))
abbrev agy:aE:=.g (.l 0) J .l (.a8 (.v 5))
abbrev vD:bb:=.ops [kH,aCU,fs,ft,sV,jM]
abbrev pd:bb:=.ops [zo]
abbrev wu:bb:=.ops [c6,jz]
abbrev rT:bb:=.ops [AA]
abbrev sL:bb:=.ops [rV]
abbrev Cb:bb:=.ops [hV,oG,d8]
abbrev Cz:bb:=.ops [fu,oG,je]
abbrev ack:bb:=.ops [bc,bc,ct,dC,aT,.i .l (.load J 6 (.v 2)),acw,.ca [⟨ag,U,1,.l 3,(.l 2)⟩],aDf,Sh,dC,lT]
abbrev u2:bb:=.ops [u1]
abbrev wr:bb:=.ops [c6,oG,jA]
abbrev U8:bb:=.ops [kH,N0,NX,fs,ft,sV,jM]
abbrev acp:bb:=.ops [dc,qp,cn,zg,LR,zr,cn,EN,HA,zr,cn,EN,aC7,aeI]
abbrev ab1:bb:=.ops [dc,rU,cn,xE,acb,acd,aDh,El,aDb,ace,Q3,jz]
abbrev AE:bb:=.ops [IT]
abbrev AD:bb:=.ops [HG]
abbrev xF:bb:=.ops [pJ]
abbrev HH:bb:=.ops [fu,jA]
abbrev abX:bb:=.ops [bc,bc,ct,g4,aT,aC9,aDg,Ek,g4,lT]
abbrev Ep:bb:=.ops [aC1]
abbrev ER:bb:=.ops [aet]
abbrev Me:bb:=.ops [aCV,AN]
abbrev EE:bb:=.ops [Mp]
abbrev Mn:bb:=.ops [aCX,d8]
abbrev Mx:bb:=.ops [aCW,u']
abbrev Mb:bb:=.ops [Co,AA]
abbrev aem:bb:=.ops [bc,qs,bc,qs,xO,xP,aDi,rb]
abbrev Mm:bb:=.ops [hV,jA]
abbrev aeu:bb:=.ops [bc,ct,kI,aT,nb,zn,kI,lT]
abbrev abY:bb:=.ops [bc,ct,g4,aT,QW,nb,pK,AA]
abbrev K4:bb:=.ops [u1,pJ]
abbrev acl:bb:=.ops [bc,ct,dC,aT,GN,nb,jA,u1]
abbrev ajZ:bb:=.ops [kH,Fq,NX,fs,ft,sV,jM]
abbrev GP:bb:=.ops [aC3]
abbrev Hd:bb:=.ops [My]
abbrev aea:bb:=.ops [bc,ct,g4,aT,Lt,aDa,aC']
abbrev Sl:bb:=.ops [bc,R6,jA]
abbrev ab4:bb:=.ops [bc,ct,g4,aT,dc,aDe,Ej]
abbrev acf:bb:=.ops [.i (.v 2) (.box 6 (.v 1)),rV,u1]
abbrev agh:bb:=.ops [bc,qA,aT,Vb,mR,Ti]
abbrev agi:bb:=.ops [bc,qA,aT,Vc,mR,Ti]
abbrev aex:bb:=.ops [c6,oE,aT,xC,kI,lT]
abbrev ad5:bb:=.ops [Cp,.i (.v 4) (.box 3 (.v 2))]
abbrev aeH:bb:=.ops [.i (.v 3) (.box 1 (.v 2)),u1]
abbrev Ts:bb:=.ops [Tr,rV]
abbrev UW:bb:=.ops [VU,alD]
abbrev Ly:bb:=.ops [aC5]
abbrev MA:bb:=.ops [aC4]
abbrev Mo:bb:=.ops [M7]
abbrev Re:bb:=.ops [aC2,kZ]
abbrev ahJ:bb:=.ops [bc,hd,aC8,K',nG]
abbrev Ml:bb:=.ops [aC0]
abbrev Mw:bb:=.ops [aCZ]
abbrev Md:bb:=.ops [aCY]
abbrev LS:bb:=.ops [Q4]
abbrev LO:bb:=.ops [Hs]
abbrev Rj:bb:=.ops [bc,aC6]
abbrev aj8:bb:=.ops [.i (.v 4) (.a8 (.c .aJ))]
abbrev agx:bb:=.ops [.i (.v 3) (.box 4 (.v 1))]
abbrev ad0:bb:=.ops [dc,hd,aDd,jA]
abbrev ad2:bb:=.ops [dc,hd,aDc,jA]
abbrev ad1:bb:=.ops [dc,hd,SZ,jA]
abbrev n5:eT:=.bin (.int j) .neq (.l 0) (.c (.int j 0))
abbrev GV:eT:=.alloc [.int j 0,.int j 0,.int j 0,.int j 0,.int j 0,.int j 0]
abbrev VY:eT:=.alloc [.int j 0,.int j 0,.int j 0,.int j 0,.int j 0,.int j 0,.int j 0,.int j 0,.aJ]
abbrev oD:eT:=.load U 1 (.l 0)
abbrev Ca:eT:=.pick (.l 3) (.l 0) (.c (.bool U))
abbrev KX:eT:=.alloc [.int j 0,.int j 0,.int j 0,.int j 0,.aJ]
abbrev Fs:eT:=.alloc [.int j 0,.int j 0,.aJ]
abbrev IN:eT:=.bin (.int j) .neq (.l 0) (.c (.int j 4))
abbrev oF:eT:=.a8 (.l 0)
abbrev vh:eT:=.un .not (.l 0)
abbrev K9:eT:=.bin (.int j) .geq (.l 0) (.c (.int j 0))
abbrev Mg:eT:=.bin (.int j) .eql (.l 0) (.c (.int j 2))
abbrev HK:eT:=.bin (.int j) .lss (.l 3) (.l 0)
abbrev GU:eT:=.bin (.int j) .lss (.l 2) (.l 0)
abbrev V0:eT:=.alloc [.bool U,.bool U,.bool U,.bool U]
abbrev HT:eT:=.pick (.l 2) (.l 0) (.c (.bool U))
abbrev Th:eT:=.alloc [.int j 0,.int j 0,.int j 0,.aJ]
abbrev Lc:eT:=.pick (.l 7) (.c (.bool J)) (.l 0)
abbrev AF:eT:=.pick (.l 4) (.c (.bool J)) (.l 0)
abbrev LQ:eT:=.bin (.int j) .lss (.l 1) (.l 0)
abbrev QX:eT:=.bin (.int j) .eql (.l 0) (.c (.int j 20))
abbrev Ru:eT:=.bin (.int j) .lss (.l 0) (.c (.int j 4))
abbrev Mc:eT:=.bin (.int j) .lss (.l 0) (.c (.int j 0))
abbrev S0:eT:=.bin (.int j) .eql (.l 0) (.c (.int j 4))
abbrev SN:eT:=.bin (.int j) .eql (.l 0) (.c (.int j 0))
abbrev Rf:eT:=.call (.c (.fn 158 [] [])) [.l 1,.l 0]
abbrev xV:eT:=.a8 (.l 1)
abbrev EV:eT:=.len U (o 109) (.l 0)
abbrev Rc:eT:=.pick (.l 5) (.l 0) (.c (.bool U))
abbrev Rp:eT:=.pick (.l 2) (.c (.bool J)) (.l 0)
abbrev VZ:eT:=.fe ag (o (4,1)) (.v 4) (.l 0)
abbrev E0:eT:=.bin (.int j) .gtr (.l 1) (.l 0)
abbrev Sr:eT:=.bin (.int j) .eql (.l 1) (.l 0)
abbrev HJ:eT:=.a8 (.c (.int j 2))
abbrev QT:eT:=.len U (o 35) (.l 0)
abbrev akc:eT:=.bin (.int j) .gtr (.l 0) (.c (.int j 200))
abbrev als:eT:=.bin (.int j) .sub (.c (.int j 1)) (.l 0)
abbrev ajR:eT:=.bin (.int j) .neq (.l 0) (.c (.int j 1))
abbrev ac9:eT:=.bin (.int j) .gtr (.l 0) (.c (.int j 0))
abbrev acP:eT:=.bin (.int j) .eql (.l 0) (.c (.int j 1))
abbrev HU:eT:=.a8 (.c (.int j 1))
abbrev SC:eT:=.alloc [.int j 0]
abbrev acs:eT:=.call (.c (.fn 112 [] [])) [.l 1,.l 0]
abbrev aka:eT:=.call (.c (.fn 13 [] [])) [.l 4,.l 0]
abbrev GT:eT:=.alloc [.aJ]
abbrev alO:eT:=.pick (.l 10) (.l 0) (.c (.bool U))
abbrev ac8:eT:=.pick (.l 9) (.l 0) (.c (.bool U))
abbrev alJ:eT:=.pick (.l 4) (.l 0) (.c (.bool U))
abbrev ajB:eT:=.pick (.l 11) (.c (.bool J)) (.l 0)
abbrev SQ:eT:=.pick (.l 8) (.c (.bool J)) (.l 0)
abbrev ajV:eT:=.pick (.l 5) (.c (.bool J)) (.l 0)
abbrev acV:eT:=.pick (.l 3) (.c (.bool J)) (.l 0)
abbrev HM:eT:=.db 2 (.v 4)
abbrev LI:eT:=.db 1 (.v 7)
abbrev EX:eT:=.db 0 (.l 0)
abbrev L6:eT:=.box 3 (.v 3)
abbrev aj2:eT:=.fe ag (o (4,1)) (.l 0) (.l 2)
abbrev aj9:eT:=.alloc [.int j 0,.int j 0]
abbrev afK:eT:=.call (.c (.fn 164 [] [])) [.l 0]
abbrev afk:eT:=.call (.c (.fn 143 [] [])) [.l 0]
abbrev afF:eT:=.bin (.int j) .neq (.l 1) (.l 0)
abbrev alq:eT:=.bin (.int j) .eql (.l 4) (.l 0)
def Yz(ops:Array bm)(M:Array Nat):Nat->List Nat->List Nat->List (Nat×List Nat)
 |0,_,_=>[]
 |n+1,rest,done=>
   let As:=rest.filter λi=>rest.all λD=>D==i|| !mB M D i
   match((As.find? λi=>og (ops.getD i default)).or (As.find? λi=>match(ops.getD i default).op with|.alloc _=>U|_=>J)).or As.head? with
   |none=>[]
   |some i=>(i,if og (ops.getD i default)then[]else done.filter λD=>uA (ops.getD D default)&& !mB M D i)::Yz ops M n (rest.filter (· != i)) (done++[i])
def YA(ops:Array bm)(M:Array Nat)(pl:List (Nat×List Nat)):List (Nat×List Nat):=match pl.reverse with
 |(y,[])::(x,[])::r=>if tj (ops.getD x default)&&tj (ops.getD y default)&& !mB M x y then r.reverse++[(x,[]),(y,[x])]else pl
 |_=>pl
def YB(ops:Array bm)(M:Array Nat):Nat->List Nat->List Nat->List (Nat×List Nat)
 |0,_,_=>[]
 |n+1,rest,done=>
   let As:=rest.filter λi=>rest.all λD=>D==i|| !mB M D i
   match(((As.find? λi=>og (ops.getD i default)).or (As.find? λi=>match(ops.getD i default).op with|.buildSlice .. =>J|_=>U)).or (As.find? λi=>match(ops.getD i default).op with|.alloc _=>U|_=>J)).or As.head? with
   |none=>[]
   |some i=>(i,if og (ops.getD i default)then[]else done.filter λD=>uA (ops.getD D default)&& !mB M D i)::YB ops M n (rest.filter (· != i)) (done++[i])
def apO(ops:Array bm):List (Nat×List Nat):=YA ops (nQ ops) (Yz ops (nQ ops) ops.size (jG ops.size) [])
def apP(ops:Array bm):List (Nat×List Nat):=YA ops (nQ ops) (YB ops (nQ ops) ops.size (jG ops.size) [])
def apQ(bh:a9->Bool)(ops:Array bm):Bool:=ops.any λO=>match O.op with|.buildSlice ty _ _=> !bh ty&&bh (ty+1000000)|_=>U
def BS(id:Nat):gu->Option (Array bm)
 |.region i ops _=>if i=id then o ops else ag
 |.seq a b=>(BS id a).or (BS id b)
 |.cond _ a b=>(BS id a).or (BS id b)
 |.block _ b=>BS id b
 |.loop b=>BS id b
 |_=>ag
def apR(fn:Func):Nat:=fn.ntmps
def BU(P:c')(bh:di->a9->Bool)(ext:di->Option (List F->ai->Option ((F⊕F)×ai)))(use pure:List di):iQ where
 ext:=ext
 bh:=bh
 aZ g:=match P.funcs[g]? with
  |some fn=>apR fn
  |none=>0
 cM g id:=match((P.funcs[g]?).bind (·.body)).bind (BS id)with
  |some ops=>if apQ (bh g) ops then apP ops else apO ops
  |none=>[]
 use:=use.contains
 pure:=pure.contains
 fy g d:=if 3000000<=d then !bh g (d - 3000000)&&bh g (d - 3000000+1000000)else if 1000000<=d then(lp P (d - 1000000)).isSome else match P.funcs[g]? with
  |some fn=>fn.results.toList.any λr=>match r with|.cell i _=>i==d|_=>U
  |none=>U
def YC(P:c'):Bool:=(jG P.types.size).all λt=>(match P.info? t with
 |some i=>decide (i.bytes<=100000)&&(match i.zero with|some v=>v.cells.size==i.size|none=>J)
 |none=>J)&&(match P.underlying t with
 |some (.slice e)=>decide (0<P.cellsOf e)
 |_=>J)
def y3(P:c')(aa:iQ)(use:List di):Bool:=use.all λg=>match P.funcs[g]? with
 |some fn=>(match fn.body with|some c=>i9 (aa.cM g) (aa.fy g) c|none=>J)&& !(fn.name== "runtime.NumGoroutine")
 |none=>J
theorem apS{P:c'}(h:YC P=J):qR P:=by
 unfold YC at h;rw[jW]at h;refine⟨λt i v ba I R=>?_,λt i ba I=>?_,λt e ba he=>?_⟩
 ·have:=h t (kD.2 ba);simp only[I,R,gv,beq_iff_eq]at this;exact this.1.2
 ·have:=h t (kD.2 ba);simp only[I,gv,decide_eq_true_eq]at this;exact this.1.1
 ·have:=h t (kD.2 ba);simp only[he,gv,decide_eq_true_eq]at this;exact this.2
theorem apT{P:c'}{bh:di->a9->Bool}{ext:di->Option (List F->ai->Option ((F⊕F)×ai))}{use pure:List di}(tq:qR P)(hm:P.follows .mixedOrders=J)(bo:y3 P (BU P bh ext use pure) use=J)(aF:∀g ah,ext g=o ah->∃fn,P.funcs[g]? =o fn/\(fn.body.isNone=U/\(fn.name== "runtime.NumGoroutine")=U)/\∀args h r,ah args h=o r->AC P g args h r):m0 P (BU P bh ext use pure):=by
 unfold y3 at bo;rw[jW]at bo;have v4:∀g,(BU P bh ext use pure).use g=J->g∈use:=λg a5=>by simpa[BU]using a5
 refine⟨tq,λg fn I R=>?_,aF,λg fn c I R aj=>?_,hm,λg e I he=>?_,λg ty he=>?_⟩
 ·have:=bo g (v4 g R);rw[I]at this;simp only[gv]at this;simpa using this.2
 ·have:=bo g (v4 g aj);rw[I]at this;simp only[R,gv]at this;exact this.1
 ·simp only[BU]at he;rw[if_neg (by omega),if_pos (Nat.le_add_right _ _),Nat.add_sub_cancel_left]at he;exact he
 ·simp only[BU]at he ⊢;rw[if_pos (by omega),show 1000000+(ty+2000000) - 3000000=ty by omega,gv,Bool.not_eq_true']at he;exact he
abbrev D8:=di->List F->ai->Option ((F⊕F)×ai)
abbrev mi:=Option (k8×List F×ai)
section
variable(C:D8)(aZ:Nat)
noncomputable def m8(d:qg)(bT:List aE)(k:List j0)(V L:List F)(h:ai):Option F->mi
 |some v=>bB C aZ (.ops bT::k) (ly V v d) (l6 L v d) h
 |none=>ag
noncomputable def YD(bT:List aE)(k:List j0)(V L:List F):Option ai->mi
 |some h=>bB C aZ (.ops bT::k) V L h
 |none=>ag
noncomputable def qk(d:qg)(bT:List aE)(k:List j0)(V L:List F):Option (F×ai)->mi
 |some (v,h)=>bB C aZ (.ops bT::k) (ly V v d) (l6 L v d) h
 |none=>ag
noncomputable def tD(d:qg)(bT:List aE)(k:List j0)(V L:List F):Option ((F⊕F)×ai)->mi
 |some (.inl v,h)=>bB C aZ (.ops bT::k) (ly V v d) (l6 L v d) h
 |some (.inr v,h)=>o (.panic v,V,h)
 |none=>ag
noncomputable def KD(d:qg)(bT:List aE)(k:List j0)(V L:List F)(h:ai):Option (di×List F)->mi
 |some (g,args)=>tD C aZ d bT k V L (C g args h)
 |none=>ag
noncomputable def KE(d:qg)(O:eT)(bT:List aE)(k:List j0)(V L:List F)(h:ai):Option Bool->mi
 |some J=>bB C aZ (.ops (.i d O::bT)::k) V L h
 |some U=>bB C aZ (.ops bT::k) (ly V (.bS []) d) (l6 L (.bS []) d) h
 |none=>ag
noncomputable def YE(x y l:List bb)(k:List j0)(V:List F)(h:ai):F->mi
 |.bool b=>if b then bB C aZ (.bP x::.bP l::k) V [] h else bB C aZ (.bP y::.bP l::k) V [] h
 |_=>ag
noncomputable def YF(V L:List F)(h:ai):Option (List j0)->mi
 |some k=>bB C aZ k V L h
 |none=>ag
end
section
variable{C:D8}{aZ:Nat}{k:List j0}{V L:List F}{h:ai}{d:qg}{bT:List aE}
theorem YG:bB C aZ [] V L h=o (.ret,V,h):=by rw[bB]
theorem YH:bB C aZ (.bP []::k) V L h=bB C aZ k V L h:=by rw[bB]
theorem Qd{l:List bb}:bB C aZ (.bP (.ops bT::l)::k) V L h=bB C aZ (.ops bT::.bP l::k) V [] h:=by rw[bB]
theorem YI{a:Arg}{x y l:List bb}:bB C aZ (.bP (.cond a x y::l)::k) V L h=YE C aZ x y l k V h (arg V [] a):=by rw[bB];cases arg V [] a<;>rfl
theorem Qe{id:Nat}{b l:List bb}:bB C aZ (.bP (.block id b::l)::k) V L h=bB C aZ (.bP b::.cu id::.bP l::k) V L h:=by rw[bB]
theorem Qf{b l:List bb}:bB C aZ (.bP (.loop b::l)::k) V L h=bB C aZ (.eM b::.bP l::k) V L h:=by conv=>lhs;rw[bB]
theorem YJ{id:Nat}{l:List bb}:bB C aZ (.bP (.exit id::l)::k) V L h=YF C aZ V L h (nX id k):=by rw[bB];cases nX id k<;>rfl
theorem YK{l:List bb}:bB C aZ (.bP (.ret::l)::k) V L h=o (.ret,V,h):=by rw[bB]
theorem YL{id:Nat}:bB C aZ (.cu id::k) V L h=bB C aZ k V L h:=by rw[bB]
theorem apU{b:List bb}:bB C aZ (.eM b::k) V L h=bB C aZ (.bP b::.eM b::k) (b2 aZ V) L h:=by rw[bB]
theorem Qg:bB C aZ (.ops []::k) V L h=bB C aZ k V [] h:=by rw[bB]
theorem YM{l:List xr}(an:xt V L h l):bB C aZ (.ops (.ca l::bT)::k) V L h=bB C aZ (.ops bT::k) V L h:=by rw[bB];simp[an]
theorem kF{O:eT}(aA:iK V L O=ag)(az:Ao V L O=ag):bB C aZ (.ops (.i d O::bT)::k) V L h=qk C aZ d bT k V L (ig V L h O):=by rw[bB];simp only[aA,az];rcases ig V L h O with _|⟨v,E⟩<;>rfl
theorem Qh{x:Arg}{q:a9}{v:F}(aF:arg V L x= .iface q v):bB C aZ (.ops (.i d (.An x)::bT)::k) V L h=o (.panic (.iface q v),V,h):=by rw[bB];simp[Ao,aF]
theorem YN{K:List Item}:bB C aZ (.halt K::k) V L h=o (.halt K,V,h):=by rw[bB]
theorem Qi{f:Arg}{args:List Arg}:bB C aZ (.ops (.i d (.call f args)::bT)::k) V L h=KD C aZ d bT k V L h (iK V L (.call f args)):=by
 rw[bB];simp only[Ao];rcases an:iK V L (.call f args)with _|⟨g,aS⟩
 ·rfl
 ·simp only[KD];rcases C g aS h with _|⟨_|_,E⟩<;>rfl
theorem YO{g:di}{args:List Arg}:bB C aZ (.ops (.i d (.call (.c (.fn g [] [])) args)::bT)::k) V L h=tD C aZ d bT k V L (C g (args.map (arg V L)) h):=by rw[Qi];simp[iK,arg,KD]
theorem YP{a:Arg}{w:Bool}{O:eT}:bB C aZ (.ops (.g a w d O::bT)::k) V L h=KE C aZ d O bT k V L h (BO V L a w):=by
 rw[bB];rcases BO V L a w with _|⟨_|_⟩
 ·rfl
 ·rfl
 ·simp only[KE]
  conv=>rhs;rw[bB]
theorem q4{x:Option F}:qk C aZ d bT k V L (x.map λv=>(v,h))=m8 C aZ d bT k V L h x:=by cases x<;>rfl
theorem YQ{x:Arg}:bB C aZ (.ops (.i d (.a8 x)::bT)::k) V L h=bB C aZ (.ops bT::k) (ly V (arg V L x) d) (l6 L (arg V L x) d) h:=by rw[kF rfl rfl];rfl
theorem YR{c x y:Arg}:bB C aZ (.ops (.i d (.pick c x y)::bT)::k) V L h=m8 C aZ d bT k V L h (P1 (arg V L c) (arg V L x) (arg V L y)):=by rw[kF rfl rfl];exact q4
theorem YS{z:List F}{pl:List (Nat×Nat)}{e7:List (Nat×Arg)}:bB C aZ (.ops (.i d (.build z pl e7)::bT)::k) V L h=m8 C aZ d bT k V L h ((qL pl z (e7.map λq=>(q.1,arg V L q.2))).map .agg):=by rw[kF rfl rfl];simp only[ig];cases qL pl z (e7.map λq=>(q.1,arg V L q.2))<;>rfl
theorem YT{x:Arg}:bB C aZ (.ops (.i d (.lN x)::bT)::k) V L h=m8 C aZ d bT k V L h (Gp (arg V L x)):=by rw[kF rfl rfl];exact q4
theorem YU{fj:kO}{op:BinOp}{x y:Arg}:bB C aZ (.ops (.i d (.bin fj op x y)::bT)::k) V L h=m8 C aZ d bT k V L h (eO fj op (arg V L x) (arg V L y)):=by rw[kF rfl rfl];exact q4
theorem YV{fj:kO}{aQ:Option (List kO)}{hU:Bool}{op:BinOp}{x y:Arg}:bB C aZ (.ops (.i d (.BN fj aQ hU op x y)::bT)::k) V L h=m8 C aZ d bT k V L h (rK fj aQ hU op (arg V L x) (arg V L y)):=by rw[kF rfl rfl];exact q4
theorem YW{op:UnOp}{x:Arg}:bB C aZ (.ops (.i d (.un op x)::bT)::k) V L h=m8 C aZ d bT k V L h (Bt op (arg V L x)):=by rw[kF rfl rfl];exact q4
theorem YX{fj:kO}{x:Arg}:bB C aZ (.ops (.i d (.conv fj x)::bT)::k) V L h=m8 C aZ d bT k V L h (z2 fj (arg V L x)):=by rw[kF rfl rfl];exact q4
theorem YY{t:a9}{x:Arg}:bB C aZ (.ops (.i d (.Gj t x)::bT)::k) V L h=m8 C aZ d bT k V L h (Ks t (arg V L x)):=by rw[kF rfl rfl];exact q4
theorem YZ{g:di}{f c:List Arg}:bB C aZ (.ops (.i d (.Gk g f c)::bT)::k) V L h=m8 C aZ d bT k V L h (o (.fn g (f.map (arg V L)) (c.map (arg V L)))):=by rw[kF rfl rfl];rfl
theorem Y0{s:Bool}{e:Option a9}{x:Arg}{iP af:Option Arg}:bB C aZ (.ops (.i d (.yZ s e x iP af)::bT)::k) V L h=m8 C aZ d bT k V L h (if kE s e (arg V L x)then ru (arg V L x) (iP.map (arg V L)) (af.map (arg V L))else ag):=by
 rw[kF rfl rfl];simp only[ig];split
 ·exact q4
 ·rfl
theorem Y1{off:Nat}{x:Arg}:bB C aZ (.ops (.i d (.db off x)::bT)::k) V L h=m8 C aZ d bT k V L h (cd off (arg V L x)):=by rw[kF rfl rfl];exact q4
theorem Y2{agg:Bool}{n off:Nat}{x:Arg}:bB C aZ (.ops (.i d (.Gl agg n off x)::bT)::k) V L h=m8 C aZ d bT k V L h (Kt agg n off (arg V L x)):=by rw[kF rfl rfl];exact q4
theorem Y3{e:Option a9}{g2:Option (Nat×Nat)}{x q:Arg}:bB C aZ (.ops (.i d (.fe e g2 x q)::bT)::k) V L h=m8 C aZ d bT k V L h (dY e g2 (arg V L x) (arg V L q)):=by rw[kF rfl rfl];exact q4
theorem Y4{s:Bool}{g2:Option (Nat×Nat×Bool)}{x q:Arg}:bB C aZ (.ops (.i d (.bJ s g2 x q)::bT)::k) V L h=m8 C aZ d bT k V L h (Gn s g2 (arg V L x) (arg V L q)):=by rw[kF rfl rfl];exact q4
theorem Y5{t:a9}{ok:Bool}{x:Arg}:bB C aZ (.ops (.i d (.Gm t ok x)::bT)::k) V L h=m8 C aZ d bT k V L h (D1 t ok (arg V L x)):=by rw[kF rfl rfl];exact q4
theorem Y6{x:Arg}{i:Nat}:bB C aZ (.ops (.i d (.ext x i)::bT)::k) V L h=m8 C aZ d bT k V L h (P2 (arg V L x) i):=by rw[kF rfl rfl];exact q4
theorem Y7{s:Bool}{e:Option a9}{x:Arg}:bB C aZ (.ops (.i d (.len s e x)::bT)::k) V L h=m8 C aZ d bT k V L h (if kE s e (arg V L x)then(hX (arg V L x)).map λ(n:Nat)=>JC n else ag):=by
 rw[kF rfl rfl];simp only[ig];split
 ·cases hX (arg V L x)<;>rfl
 ·rfl
theorem Y8{z:List F}:bB C aZ (.ops (.i d (.alloc z)::bT)::k) V L h=bB C aZ (.ops bT::k) (ly V (.ptr h.n 0 0) d) (l6 L (.ptr h.n 0 0) d) (h.push [z]):=by rw[kF rfl rfl];rfl
theorem D9{n:Nat}{x:Arg}(I:(arg V L x).cells.all F.one=J)(R:(arg V L x).cells.length=n):bB C aZ (.ops (.i d (.box n x)::bT)::k) V L h=bB C aZ (.ops bT::k) (ly V (.ptr h.n 0 0) d) (l6 L (.ptr h.n 0 0) d) (h.push [(arg V L x).cells]):=by rw[kF rfl rfl];simp[ig,I,R,qk]
theorem Y9{e:a9}{z:List F}{n len:Nat}{e7:List (Nat×Arg)}:bB C aZ (.ops (.i d (.lx U e z n len e7)::bT)::k) V L h=qk C aZ d bT k V L ((qM n (ap len z) (e7.map λq=>(q.1,arg V L q.2))).map λes=>(.b5 (o h.ids) e es,h.fresh len)):=by rw[kF rfl rfl];rfl
theorem Y'{e:a9}{z:List F}{n len:Nat}{e7:List (Nat×Arg)}:bB C aZ (.ops (.i d (.Kq e z n len e7)::bT)::k) V L h=qk C aZ d bT k V L ((qM n (ap len z) (e7.map λq=>(q.1,arg V L q.2))).map λes=>(.b5 ag e es,h)):=by rw[kF rfl rfl];rfl
theorem Za{e:a9}{z:List F}{n len:Nat}{e7:List (Nat×Arg)}:bB C aZ (.ops (.i d (.lx J e z n len e7)::bT)::k) V L h=qk C aZ d bT k V L ((qM n (ap len z) (e7.map λq=>(q.1,arg V L q.2))).map λes=>(.bw h.n 0 len e,h.push es)):=by rw[kF rfl rfl];rfl
theorem Zb{agg:Bool}{n:Nat}{x:Arg}:bB C aZ (.ops (.i d (.load agg n x)::bT)::k) V L h=m8 C aZ d bT k V L h (cR agg n h (arg V L x)):=by rw[kF rfl rfl];exact q4
theorem Zc{n:Nat}{a x:Arg}:bB C aZ (.ops (.i .n (.store n a x)::bT)::k) V L h=YD C aZ bT k V L (e0 n h (arg V L a) (arg V L x)):=by rw[kF rfl rfl];simp only[ig];cases e0 n h (arg V L a) (arg V L x)<;>rfl
theorem Zd{e:a9}{z:List F}{l c:Arg}:bB C aZ (.ops (.i d (.Kr e z l c)::bT)::k) V L h=qk C aZ d bT k V L (P3 e z (arg V L l) (arg V L c) h):=by rw[kF rfl rfl];rfl
theorem Ze{bh:Bool}{e:a9}{x y:Arg}:bB C aZ (.ops (.i d (.app bh e x y)::bT)::k) V L h=qk C aZ d bT k V L (eH bh e (arg V L x) (arg V L y) h):=by rw[kF rfl rfl];rfl
theorem Zf{bh:Bool}{e:a9}{x y:Arg}:bB C aZ (.ops (.i d (.apps bh e x y)::bT)::k) V L h=qk C aZ d bT k V L (FL bh e (arg V L x) (arg V L y) h):=by rw[kF rfl rfl];rfl
theorem Zg{t:a9}{n:Nat}{x:Arg}(I:(arg V L x).cells.all F.one=J)(R:(arg V L x).cells.length=n):bB C aZ (.ops (.i d (.PZ t n x)::bT)::k) V L h=bB C aZ (.ops bT::k) (ly V (.gM t h.n) d) (l6 L (.gM t h.n) d) (h.push [(arg V L x).cells]):=by rw[kF rfl rfl];simp[ig,I,R,qk]
theorem Zh{t:a9}{z:List F}:bB C aZ (.ops (.i d (.PY t z)::bT)::k) V L h=bB C aZ (.ops bT::k) (ly V (.gM t h.n) d) (l6 L (.gM t h.n) d) (h.push [z]):=by rw[kF rfl rfl];rfl
theorem Zi{od:Bool}{x y:Arg}:bB C aZ (.ops (.i d (.kV od x y)::bT)::k) V L h=m8 C aZ d bT k V L h (z3 od (arg V L x) (arg V L y)):=by rw[kF rfl rfl];exact q4
theorem Zj{v:F}:m8 C aZ d bT k V L h (o v)=bB C aZ (.ops bT::k) (ly V v d) (l6 L v d) h:=rfl
theorem Zk:YD C aZ bT k V L (o h)=bB C aZ (.ops bT::k) V L h:=rfl
theorem Zl{v:F}:qk C aZ d bT k V L (o (v,h))=bB C aZ (.ops bT::k) (ly V v d) (l6 L v d) h:=rfl
theorem Zm{v:F}:tD C aZ d bT k V L (o (.inl v,h))=bB C aZ (.ops bT::k) (ly V v d) (l6 L v d) h:=rfl
theorem Zn{v:F}:tD C aZ d bT k V L (o (.inr v,h))=o (.panic v,V,h):=rfl
theorem Zo{O:eT}:KE C aZ d O bT k V L h (o J)=bB C aZ (.ops (.i d O::bT)::k) V L h:=rfl
theorem Zp{O:eT}:KE C aZ d O bT k V L h (o U)=bB C aZ (.ops bT::k) (ly V (.bS []) d) (l6 L (.bS []) d) h:=rfl
theorem Zq{x y l:List bb}{b:Bool}:YE C aZ x y l k V h (.bool b)=if b=J then bB C aZ (.bP x::.bP l::k) V [] h else bB C aZ (.bP y::.bP l::k) V [] h:=rfl
theorem Zr:YF C aZ V L h (o k)=bB C aZ k V L h:=rfl
theorem Zs{b:Bool}{x y:F}:P1 (.bool b) x y=o (if b=J then x else y):=rfl
theorem At{p:Bool}{rs:List o8}{ak:ai}:m7 p rs ak (o (.ret,V,h))=yA.hf p ak h ((jc V h rs).map ju):=rfl
theorem Qj{p:Bool}{rs:List o8}{ak:ai}{v:F}:m7 p rs ak (o (.panic v,V,h))=oh p ak (.inr v,h):=rfl
theorem Zt{D:Nat}:arg V L (.v D)=V.getD D .aD:=rfl
theorem Zu{D:Nat}:arg V L (.l D)=L.getD D .aD:=rfl
theorem Zv{a:F}:arg V L (.c a)=a:=rfl
theorem Zw{v:F}{D:Nat}:ly V v (.v D)=V.set D v:=rfl
theorem Zx{v:F}:ly V v .l=V:=rfl
theorem Zy{v:F}:ly V v .n=V:=rfl
theorem Zz{v:F}{D:Nat}:l6 L v (.v D)=L:=rfl
theorem ZA{v:F}:l6 L v .l=v::L:=rfl
theorem ZB{v:F}:l6 L v .n=L:=rfl
end
end Go.Proofs.YtkdbjfncchmmpaaGreat
