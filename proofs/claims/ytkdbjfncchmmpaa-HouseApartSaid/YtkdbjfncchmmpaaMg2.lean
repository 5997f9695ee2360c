/- A call does in memory what the plain model says: what is to be shown, and the steps of the machine. Statements whose order Go leaves open: the plain facts. Statements whose order Go leaves open: the run of a plan, step by step, and what of it is true in every order. The run of a plan seen from its end: what each operation looks at stays. In every order that Go leaves open a statement comes to what its plan comes to. The memory that a call made may be forgotten. What the plain model says of a call is what the machine does. -/
import Derived.Test.YtkdbjfncchmmpaaMg1
import Derived.Orders
set_option linter.unusedSimpArgs false
set_option linter.unusedVariables false
set_option maxHeartbeats 4000000
set_option maxRecDepth 1000000
open Option renaming some→j,bind_eq_some_iff→c',map_eq_some_iff→dd,none→ab,bind_some→c7,map_some→hj,getD_some→pf
open List renaming replicate→ax,getElem?_eq_getElem→fz,getElem?_eq_some_iff→gg,getD→cK,length_cons→gT,getElem_mem→h2,all_eq_true→iR,mem_range→jl,append_assoc→kv,getElem?_append_left→mJ,getElem?_eq_none→lU,map_cons→jU,range→iQ,nil_append→k5,getElem?_cons_zero→n4,cons_append→l0,getElem?_append_right→pY,mem_of_getElem?→p6,mem_map→n0,mem_cons→pi,getElem?_take_of_lt→rW,append_nil→q9,getElem?_set_ne→s',contains_eq_mem→s8,getElem?_map→s6
open Go.IntKind renaming i64→o
open Nat renaming le_refl→bV,lt_of_lt_of_le→eL,le_trans→ef,zero_add→hk,zero_le→k4,lt_or_ge→mc,add_assoc→oE
open Bool renaming false→T,true→Q,and_eq_true→gS,false_eq_true→mI,or_eq_true→oI
open Go renaming TypeId→aT,Oper→a0,Program→cp,Value→bK,FuncId→cJ,World→cQ,Operand→fi,execOp→eG,undef→fg,Frame→fs,lone→ej,Code→ff
open Array renaming getD_eq_getD_getElem?→hB
open Option.some renaming injEq→g5
open Go.Result renaming andThen_ok→hc
open Go.Sem renaming run_bind→hi,run_pure→ku
open Go.Op renaming operands→hn
open Classical renaming not_not→la
open Prod.mk renaming injEq→jH
open Go.Frame renaming enter→i4
open Go.Region renaming binds→j8,before→lq
open Go.RowKit.Below renaming refl→k0
open Ne renaming symm→kw
open List.cons renaming injEq→uu
namespace Go.Proofs.Ytkdbjfncchmmpaa
variable{rest:List Nat}{u:bK}{cN:Bool}{e9:List hJ}
open Go Go.RowKit
def AC(P:cp)(g:cJ)(args:List I)(h:ad)(r:(I⊕I)×ad):Prop:=∀(m:dw) (w:cQ) (br:List bK),bU P m h w->dj P m h args br->Calls P g br.toArray w λe aV=>∃aR,Ext m h aR r.2/\bU P aR r.2 aV/\Below m.base w aV/\
   match r.1 with
   |.inl v=>∃u,e= .returned u/\bI P aR r.2 v u
   |.inr v=>∃u,e= .panicked [{v:=u,recovered:=T}]/\bI P aR r.2 v u
structure k6(P:cp)(W:hh):Prop where
 ty:nZ P
 name:∀(g:Nat) (fn:Func),P.funcs[g]? =j fn->W.use g=Q->(fn.name== "runtime.NumGoroutine")=T
 ext:∀g ag,W.ext g=j ag->∃fn,P.funcs[g]? =j fn/\(fn.body.isNone=T/\(fn.name== "runtime.NumGoroutine")=T)/\∀args h r,ag args h=j r->AC P g args h r
 cm:∀(g:Nat) (fn:Func) (c:ff),P.funcs[g]? =j fn->fn.body=j c->W.use g=Q->iJ (W.cm g) (W.e3 g) c=Q
 mixed:P.follows .mixedOrders=Q
 NY:∀g e,e<2000000->W.e3 g (1000000+e)=Q->(jv P e).isSome=Q
 NZ:∀g ty,W.e3 g (1000000+(ty+2000000))=Q->W.a2 g ty=T/\W.a2 g (ty+1000000)=Q
def dX(P:cp)(S:Nat->Bool)(m:dw)(h:ad)(w:cQ)(b:fs)(cs:List fs)(vz:Machine)(r:jd×List I×ad):Prop:=∃aR aV,Ext m h aR r.2.2/\bU P aR r.2.2 aV/\Below m.base w aV/\
   match r.1 with
   |.ret=>∃(dO:Act) (todo:List Item),dp P aR r.2.2 r.2.1 dO.tmps/\dO.defers=b.defers/\Steps P vz (ej {b.at dO todo with mode:=.returning} cs aV)
   |.panic v=>∃(dO:Act) (todo:List Item) (u:bK),(∃rS,dp P aR r.2.2 rS dO.tmps/\∀d,S d=Q->rS.getD d .aP=r.2.1.getD d .aP)/\dO.defers=b.defers/\bI P aR r.2.2 v u/\Steps P vz (ej {b.at dO todo with mode:=.panicking [{v:=u,recovered:=T}]} cs aV)
   |.halt K=>∃(dO:Act),dp P aR r.2.2 r.2.1 dO.tmps/\dO.defers=b.defers/\Steps P vz (ej (b.at dO K) cs aV)
section
variable{P:cp}{m c8 aR:dw}{h F J:ad}{w dm aV:cQ}{t:List I}{a:Act}{E:a0}{b:fs}{cs:List fs}{vz N0:Machine}{r:jd×List I×ad}
theorem dX.steps{S:Nat->Bool}(av:Steps P vz N0)(am:dX P S m h w b cs N0 r):dX P S m h w b cs vz r:=by
 obtain⟨aR,aV,F,O,af,aw⟩:=am;refine⟨aR,aV,F,O,af,?_⟩;split at aw
 ·rename_i ah;obtain⟨dO,todo,dc,dr,g6⟩:=aw;exact⟨dO,todo,dc,dr,av.trans g6⟩
 ·rename_i v ah;obtain⟨dO,todo,u,ia,dc,dr,g6⟩:=aw;exact⟨dO,todo,u,ia,dc,dr,av.trans g6⟩
 ·rename_i K ah;obtain⟨dO,dc,dr,g6⟩:=aw;exact⟨dO,dc,dr,av.trans g6⟩
theorem dX.after{S:Nat->Bool}(an:Ext m h c8 F)(ai:Below m.base w dm)(am:dX P S c8 F dm b cs vz r):dX P S m h w b cs vz r:=by obtain⟨aR,aV,dc,dr,g6,fA⟩:=am;exact⟨aR,aV,an.trans dc,dr,ai.trans (by rw[<-an.base];exact g6),fA⟩
theorem dp.clear(aL:dp P m h t a.tmps)(n:Nat):dp P m h (cF n t) a.tmps:=by
 refine⟨by rw[aL.1,cF];simp;omega,λi aa=>?_⟩;unfold cF at aa ⊢;by_cases gj:i<(t.take n).length
 ·rw[List.getElem_append_left gj,List.getElem_take];exact aL.2 i _
 ·rw[List.getElem_append_right (by omega)];simp only[List.getElem_replicate];exact .aP _
theorem HV{all:Array a0}{i:Nat}{k:List Item}(am:all[i]? =j E)(jj:Region.wanted E (yielded all a.tmps)=Q)(ah:(eG a.eval E).run P w= .ok (.value u) aV\/((eG a.eval E).run P w= .ok .skip aV/\u=fg)):Steps P (ej (b.at a (.inRegion all (i::rest)::k)) cs w) (ej (b.at (a.put E.dst u) (.inRegion all rest::k)) cs aV):=by
 have aX:=stepG_op (P:=P) (b:=b) (k:=k) (cs:=cs) (w:=w) (rest:=rest) am jj;have n2:∀v,(b.at a (.inRegion all (i::rest)::k)).finish v=b.at (a.put E.dst v) (.inRegion all rest::k):=by intro v;rw[Frame.finish_at,am];rfl
 refine .one (step_lone_go ?_);rcases ah with ah|⟨ah,rfl⟩
 ·rw[aX,<-n2];simp[stepG.apply,ah]
 ·rw[aX,<-n2];simp[stepG.apply,ah]
theorem HW{all:Array a0}{i:Nat}{k:List Item}(am:all[i]? =j E)(jj:Region.wanted E (yielded all a.tmps)=T):Steps P (ej (b.at a (.inRegion all (i::rest)::k)) cs w) (ej (b.at (a.put E.dst fg) (.inRegion all rest::k)) cs w):=by have av:=step_op_skip (P:=P) (b:=b) (a:=a) (k:=k) (cs:=cs) (w:=w) (ops:=all) (i:=i) (rest:=rest) (by simp[am];simpa using jj);simp only[am,c7]at av;exact .one av
theorem Ap{all:Array a0}{i:Nat}{k:List Item}{f:cJ}{args:Array bK}{dG:Ending->cQ->Prop}(am:all[i]? =j E)(jj:Region.wanted E (yielded all a.tmps)=Q)(ah:(eG a.eval E).run P w= .ok (.enter f args) w)(aj:Calls P f args w dG)(n3:∀aV,¬dG .outgrown aV):∃e aV,dG e aV/\((∃v,e= .returned v/\Steps P (ej (b.at a (.inRegion all (i::rest)::k)) cs w) (ej (b.at (a.put E.dst v) (.inRegion all rest::k)) cs aV))\/(∃kb,e= .panicked kb/\∃todo,Steps P (ej (b.at a (.inRegion all (i::rest)::k)) cs w) (ej {b.at a todo with mode:=.panicking kb} cs aV))):=by
 have aX:=stepG_op (P:=P) (b:=b) (k:=k) (cs:=cs) (w:=w) (rest:=rest) am jj;have n2:∀v,(b.at a (.inRegion all (i::rest)::k)).finish v=b.at (a.put E.dst v) (.inRegion all rest::k):=by intro v;rw[Frame.finish_at,am];rfl
 obtain⟨e,Yg,aU,jk,N1,_,N2⟩:=aj (b.at a (.inRegion all (i::rest)::k)::cs);have N3:step P (ej (b.at a (.inRegion all (i::rest)::k)) cs w)= .next (ej (i4 P f args .normal) (b.at a (.inRegion all (i::rest)::k)::cs) w):=step_lone_go (by rw[aX];simp[stepG.apply,ah,Frame.at]);refine⟨e,Yg,jk,?_⟩;cases e with
 |returned v=>left;refine⟨v,rfl,.head N3 (Steps.trans N1 (.one ?_))⟩;rw[<-n2];exact step_leave_returned N2
 |panicked chain=>right;refine⟨chain,rfl,.inRegion all (i::rest)::k,.head N3 (Steps.trans N1 (.one ?_))⟩;rw[<-Frame.raise_at];exact step_leave_panicked N2
 |outgrown=>exact absurd jk (n3 _)
theorem vA(aL:dp P m h t a.tmps)(all:Array a0)(E:a0){x:Bool}(hw:hy all t E=j x):Region.wanted E (yielded all a.tmps)=x:=by
 unfold hy at hw;unfold Region.wanted;split at hw
 ·rename_i aX;rw[aX];injection hw
 ·rename_i D want aX;rw[aX];simp only;split at hw
  ·rename_i d a6;have bh:t.getD d .aP≠.aP->d<t.length:=by
    intro ai;rcases mc d t.length with F|F
    ·exact F
    ·rw[cK,lU F]at ai;exact absurd rfl ai
   have R:=aL.get d;split at hw
   ·rename_i az ai;injection hw with hw;rw[ai]at R;have HX:d<a.tmps.size:=by rw[aL.1];exact bh (by rw[ai];simp)
    have w1:a.tmps.getD d fg= .bool az:=by revert R;generalize a.tmps.getD d fg=q;intro R;cases R;rfl
    have ao:a.tmps[d]? =j (.bool az):=by rw[<-w1];simp[Array.getD,HX]
    simp only[yielded,a6,c7,ao];rw[<-hw];cases want<;>cases az<;>rfl
   ·rename_i br ai;injection hw with hw;rw[ai]at R;have HX:d<a.tmps.size:=by rw[aL.1];exact bh (by rw[ai];simp)
    obtain⟨us,w1⟩:∃us,a.tmps.getD d fg= .tuple us:=by revert R;generalize a.tmps.getD d fg=q;intro R;cases R;exact⟨_,rfl⟩
    have ao:a.tmps[d]? =j (.tuple us):=by rw[<-w1];simp[Array.getD,HX]
    simp only[yielded,a6,c7,ao];rw[<-hw];cases want<;>rfl
   ·cases hw
  ·cases hw
theorem N4(aL:dp P m h t a.tmps){v:I}(aB:lQ t E=j v):∃u,bI P m h v u/\(eG a.eval E).run P w= .halt (.panic u) w:=by
 unfold lQ at aB;split at aB
 ·rename_i x am;split at aB
  ·rename_i q bu ul;injection aB with aB;subst aB;have R:=gr aL x;rw[ul]at R;obtain⟨u,bH⟩:∃u,a.eval x=u:=⟨_,rfl⟩;rw[bH]at R;cases R with
   |iface _ _ fj F=>refine⟨_,.iface q bu fj F,?_⟩;unfold eG;rw[am];simp only[bH,Instr.panic];rfl
  ·cases aB
 ·cases aB
theorem N5{all:Array a0}{i:Nat}{k:List Item}(am:all[i]? =j E)(jj:Region.wanted E (yielded all a.tmps)=Q)(ah:(eG a.eval E).run P w= .halt (.panic u) w):Steps P (ej (b.at a (.inRegion all (i::rest)::k)) cs w) (ej {b.at a (.inRegion all (i::rest)::k)with mode:=.panicking [{v:=u,recovered:=T}]} cs w):=by have aX:=stepG_op (P:=P) (b:=b) (k:=k) (cs:=cs) (w:=w) (rest:=rest) am jj;refine .one (step_lone_go ?_);rw[aX,<-Frame.raise_at];simp[stepG.apply,ah]
theorem Dw(aL:dp P m h t a.tmps){g:cJ}{args:List I}(aj:eW t E=j (g,args)){fn:Func}(bc:P.funcs[g]? =j fn)(au:(fn.name== "runtime.NumGoroutine")=T)(ai:fn.body.isNone=T):∃br:List bK,dj P m h args br/\(eG a.eval E).run P w= .ok (.enter g br.toArray) w:=by
 unfold eW at aj;split at aj
 ·rename_i yH yI N6 am;split at aj
  ·rename_i fa first captured ul
   injection aj with aj;injection aj with F O;subst F;subst O;have R:=gr aL yH;rw[ul]at R;obtain⟨u,bH⟩:∃u,a.eval yH=u:=⟨_,rfl⟩;rw[bH]at R;cases R with
   |fn _ l c bJ fy ao aq bm ck=>
     refine⟨bJ++yI.toList.map a.eval++fy,dj.append (dj.append ⟨ao,bm⟩ (dj.map λx _=>gr aL x)) ⟨aq,ck⟩,?_⟩;have eB:(bJ.toArray++yI.map a.eval)++fy.toArray=(bJ++yI.toList.map a.eval++fy).toArray:=by apply Array.ext';simp
     simp only[eG,am,bH,resolve,Deferred.ofValue,hi,ku,hc,invoke,callFunc,run_program,bc,au,ai,mI,if_false,eB]
  ·cases aj
 ·cases aj
theorem w2(hw:bU P m h w)(aL:dp P m h t a.tmps){fn:Func}{v:I}(R:oB fn t h P=j v):∃u,(results fn a.tmps).run P w= .ok u w/\bI P m h v u:=by
 unfold oB at R;obtain⟨br,e6,rfl⟩:=dd.1 R;have key:∀(rs:List ResultVar) (br:List I),oA P t h rs=j br->∃us:List bK,(rs.mapM λ(x:ResultVar)=>(match x with
   |.tmp t=>pure (a.tmps.getD t fg)
   |.cell c t=>do loadVar t (<-asAddr (a.tmps.getD c fg)):Sem bK)).run P w= .ok us w/\dj P m h br us:=by
  intro rs;induction rs with
  |nil=>intro br e6;simp[oA]at e6;subst e6;exact⟨[],by simp,dj.nil⟩
  |cons x rs aW=>
    intro br e6;cases x with
    |tmp i=>simp only[oA]at e6;obtain⟨l,al,rfl⟩:=dd.1 e6;obtain⟨us,F,O⟩:=aW l al;exact⟨_,by simp only[List.mapM_cons,hi,ku,hc,F],dj.cons (aL.get i) O⟩
    |cell i ty=>
      simp only[oA]at e6;split at e6
      ·cases e6
      ·rename_i au;obtain⟨v,R,e6⟩:=c'.1 e6;obtain⟨l,al,rfl⟩:=dd.1 e6;obtain⟨us,F,O⟩:=aW l al;have an:=aL.get i;obtain⟨d,a6⟩:=Option.isSome_iff_exists.1 (by cases jV:P.underlying ty<;>simp_all:(P.underlying ty).isSome=Q);obtain⟨jE,gh⟩:=Ns a6;have HY:∃u,(do loadVar ty (<-asAddr (a.tmps.getD i fg)):Sem bK).run P w= .ok u w/\bI P m h v u:=by
        revert an R;generalize a.tmps.getD i fg=De;generalize t.getD i .aP=ex;intro R an;obtain⟨Nn,sY,cO,al,_⟩:=an.Hq;rw[<-al]at R;cases sY with
        |e2 t b _ _=>exact absurd rfl (cO t b)
        |ptr b i off ai=>
          simp only[c0]at R;rcases ah:h.row b i with _|e
          ·simp[ah]at R
          ·simp only[ah,c7]at R;obtain⟨ag,cR⟩:=Nm hw ah;obtain⟨u,F,O⟩:=Dd (w:=w) ty a6 (by rw[gh];simp) (m.cb b) (i*P.cellsOf (m.fY b)) off e ag cR R;exact⟨u,by simp[asAddr,F],O⟩
        |ip e off g eO ag eb lr=>simp only[c0]at R;obtain⟨u,F,O⟩:=Dd (w:=w) (h:=h) (m:=m) ty a6 (by rw[gh];simp) g eO off e ag (λD U=>⟨hw.dF _ _ _ (eb D U),lr D U⟩) R;exact⟨u,by simp[asAddr,F],O⟩
        |_=>simp[c0]at R
       obtain⟨u,k2,jV⟩:=HY;exact⟨_,by simp only[List.mapM_cons,hi,hc,k2,F,ku],dj.cons jV O⟩
 obtain⟨us,F,O⟩:=key _ _ e6;unfold results;rw[Array.mapM_eq_mapM_toList];have kt:(do
   let br <-(List.toArray<$>(fn.results.toList.mapM λ(x:ResultVar)=>(match x with
    |.tmp t=>pure (a.tmps.getD t fg)
    |.cell c t=>do loadVar t (<-asAddr (a.tmps.getD c fg)):Sem bK)))
   pure (if h:br.size=1 then br[0]else .tuple br):Sem bK).run P w= .ok (if h:us.toArray.size=1 then us.toArray[0]else .tuple us.toArray) w:=by
  simp[F, -hB]
 refine⟨_,kt,?_⟩;by_cases al:us.length=1
 ·obtain⟨u,rfl⟩:=List.length_eq_one_iff.1 al;have HZ:br.length=1:=O.1.symm;obtain⟨v,rfl⟩:=List.length_eq_one_iff.1 HZ;have:=O.2 0 (by simp) (by simp);simpa[iH]using this
 ·have HZ:br.length≠1:=by rw[<-O.1];exact al
  have ao:iH br= .bW br:=by
   unfold iH;split
   ·simp at HZ
   ·rfl
  rw[ao,dif_neg (by simpa using al)];exact .bW _ _ O.1 O.2
end
open Go Go.RowKit
section
variable{P:cp}{t e0:List I}{h J:ad}{E:a0}{all:Array a0}{M:Array Nat}
theorem Yh{x:fi}(an:∀d,x= .tmp d->t.getD d .aP=e0.getD d .aP):be t x=be e0 x:=by
 cases x with
 |tmp d=>exact an d rfl
 |_=>rfl
theorem Dx(al:∀d∈E.looksAt all,t.getD d .aP=e0.getD d .aP):∀x∈E.op.operands,be t x=be e0 x:=by intro x an;refine Yh λd a6=>al d ?_;subst a6;exact List.mem_append_left _ (List.mem_filterMap.2 ⟨.tmp d,by simpa using an,rfl⟩)
theorem Dy(al:∀d∈E.looksAt all,t.getD d .aP=e0.getD d .aP):hy all t E=hy all e0 E:=by
 unfold hy;split
 ·rfl
 ·rename_i D want aX;split
  ·rename_i d a6;rw[al d (List.mem_append_right _ (by simp[aX,a6]))]
  ·rfl
theorem H0(al:∀d∈E.looksAt all,t.getD d .aP=e0.getD d .aP):eW t E=eW e0 E:=by
 have eo:=Dx al;unfold eW;split
 ·rename_i yH yI N6 am;rw[am]at eo;have F:be t yH=be e0 yH:=eo _ (by simp[hn,Call.operands]);have O:yI.toList.map (be t)=yI.toList.map (be e0):=List.map_congr_left λx an=>eo _ (by simp[hn,Call.operands];exact .inr (by simpa using an));rw[F,O]
 ·rfl
theorem Yi(al:∀d∈E.looksAt all,t.getD d .aP=e0.getD d .aP):lQ t E=lQ e0 E:=by
 have eo:=Dx al;unfold lQ;split
 ·rename_i x am;rw[eo x (by simp[am,hn])]
 ·rfl
theorem N7(f':List (Nat×fi))(aB:∀x∈f'.map (·.2),be t x=be e0 x):(f'.map λq=>(q.1,be t q.2))=f'.map λq=>(q.1,be e0 q.2):=List.map_congr_left λp hm=>by rw[aB p.2 (n0.2 ⟨p,hm,rfl⟩)]
theorem N8(xs:Array fi)(aB:∀x∈xs,be t x=be e0 x):xs.toList.map (be t)=xs.toList.map (be e0):=List.map_congr_left λx an=>aB x (by simpa using an)
theorem Yj(eo:∀x∈E.op.operands,be t x=be e0 x):iP P t E=iP P e0 E:=by
 unfold iP;split
 ·rename_i x am;rw[eo x (by simp[am,hn])]
 ·rename_i x am;rw[eo x (by simp[am,hn])]
 ·rename_i c x y am;rw[eo c (by simp[am,hn]),eo x (by simp[am,hn]),eo y (by simp[am,hn])]
 ·rename_i ty parts am;rw[N7 parts.toList λx an=>eo x (by rw[am];simp only[hn];simpa using an)]
 ·rename_i x am;rw[eo x (by simp[am,hn])]
 ·rename_i op ty x y qV am;rw[eo x (by simp[am,hn]),eo y (by simp[am,hn])]
 ·rename_i op ty x am;rw[eo x (by simp[am,hn])]
 ·rename_i src dst x am;rw[eo x (by simp[am,hn])]
 ·rename_i ty x am;rw[eo x (by simp[am,hn])]
 ·rename_i f first captured am
  rw[N8 first λx an=>eo x (by simp[am,hn,an]),N8 captured λx an=>eo x (by simp[am,hn,an])]
 ·rename_i ty x hg aa lP am;have F:be t x=be e0 x:=eo x (by simp[am,hn]);have O:hg.map (be t)=hg.map (be e0):=by
   cases hg with
   |none=>rfl
   |some l=>simp only[hj];rw[eo l (by simp[am,hn])]
  have af:aa.map (be t)=aa.map (be e0):=by
   cases aa with
   |none=>rfl
   |some l=>simp only[hj];rw[eo l (by simp[am,hn])]
  rw[F,O,af]
 ·rename_i s x f am;rw[eo x (by simp[am,hn])]
 ·rename_i s x f am;rw[eo x (by simp[am,hn])]
 ·rename_i ty x b8 am;rw[eo x (by simp[am,hn]),eo b8 (by simp[am,hn])]
 ·rename_i ty x b8 am;rw[eo x (by simp[am,hn]),eo b8 (by simp[am,hn])]
 ·rename_i x Aj aS ok am;rw[eo x (by simp[am,hn])]
 ·rename_i x i am;rw[eo x (by simp[am,hn])]
 ·rename_i args argTypes am;have dD:∀x∈args.toList,be t x=be e0 x:=λx an=>eo x (by rw[am];simp[hn,Call.operands];simpa using an);split
  ·rename_i x ty oH aM p1;rw[dD x (by rw[aM];simp)]
  ·rfl
 ·rename_i args argTypes am;have dD:∀x∈args.toList,be t x=be e0 x:=λx an=>eo x (by rw[am];simp[hn,Call.operands];simpa using an);split
  ·rename_i x y aM;rw[dD x (by rw[aM];simp),dD y (by rw[aM];simp)]
  ·rfl
 ·rename_i args argTypes am;have dD:∀x∈args.toList,be t x=be e0 x:=λx an=>eo x (by rw[am];simp[hn,Call.operands];simpa using an);split
  ·rename_i x y aM;rw[dD x (by rw[aM];simp),dD y (by rw[aM];simp)]
  ·rfl
 ·rfl
theorem N9(a2:aT->Bool)(al:∀d∈E.looksAt all,t.getD d .aP=e0.getD d .aP):eK P a2 t h E=eK P a2 e0 h E:=by
 have eo:=Dx al;have aB:=Yj (P:=P) eo;clear al;unfold eK;split
 ·rfl
 ·rename_i e x am;rw[eo x (by simp[am,hn])]
 ·rename_i ty len parts am;rw[N7 parts.toList λx an=>eo x (by rw[am];simp only[hn];simpa using an)]
 ·rename_i ty x am;rw[eo x (by simp[am,hn])]
 ·rename_i ty x y am;rw[eo x (by simp[am,hn]),eo y (by simp[am,hn])]
 ·rename_i ty x y am;rw[eo x (by simp[am,hn]),eo y (by simp[am,hn])]
 ·rename_i args argTypes am;have dD:∀x∈args.toList,be t x=be e0 x:=λx an=>eo x (by rw[am];simp[hn,Call.operands];simpa using an);split
  ·rename_i x y ty rO aM p1;rw[dD x (by rw[aM];simp),dD y (by rw[aM];simp)]
  ·rfl
 ·rw[aB]
theorem N'(a2:aT->Bool)(av:lR E=Q)(au:qM E=T)(h:ad):eK P a2 t h E=(iP P t E).map λv=>(v,h):=by
 unfold eK;split
 all_goals first
  |rfl
  |(rename_i am;simp[lR,am]at av;done)
  |(rename_i am;simp[qM,am]at au;done)
theorem Yk(a2:aT->Bool)(av:lR E=Q){v:I}(he:eK P a2 t h E=j (v,J)):J=h:=by
 by_cases au:qM E=Q
 ·unfold qM at au;split at au
  ·rename_i ty a am;unfold eK at he;rw[am]at he;simp only at he;split at he
   ·cases he
   ·obtain⟨u,_,he⟩:=dd.1 he;injection he with F O;exact O.symm
  ·cases au
 ·rw[N' a2 av (by simpa using au)]at he;obtain⟨u,_,he⟩:=dd.1 he;injection he with F O;exact O.symm
theorem Yl(a2:aT->Bool)(av:lR E=Q)(au:qM E=T){v:I}(he:eK P a2 t h E=j (v,h))(O:ad):eK P a2 t O E=j (v,O):=by rw[N' a2 av au]at he ⊢;obtain⟨u,bH,he⟩:=dd.1 he;injection he with F _;rw[bH,<-F];rfl
def ml(a2:aT->Bool)(E:a0):Bool:=lR E||(match E.op with|.buildSlice ty _ _=> !a2 ty&&a2 (ty+1000000)|_=>T)
theorem H2{a2:aT->Bool}(aG:ml a2 E=Q):lR E=Q\/∃ty len parts,E.op= .buildSlice ty len parts/\a2 ty=T/\a2 (ty+1000000)=Q:=by
 unfold ml at aG;rw[oI]at aG;refine aG.imp id λh=>?_;split at h
 ·rename_i ty len parts am;rw[gS,Bool.not_eq_true']at h;exact⟨ty,len,parts,am,h.1,h.2⟩
 ·cases h
theorem Oa{cq:aT->Bool}(h:lR E=Q):qN cq E=Q:=by unfold qN;rw[h];rfl
theorem H3{cq a2:aT->Bool}(Aq:∀ty,cq (ty+2000000)=Q->a2 ty=T/\a2 (ty+1000000)=Q)(aG:qN cq E=Q):ml a2 E=Q:=by
 unfold qN at aG;unfold ml;rw[oI]at aG ⊢;refine aG.imp id λh=>?_;split at h
 ·rename_i ty len parts am;rw[am];obtain⟨a,b⟩:=Aq _ h;simp[a,b]
 ·cases h
theorem Ob{a2:aT->Bool}{ty:aT}{len:Nat}{parts:Array (Nat×fi)}(am:E.op= .buildSlice ty len parts)(F:a2 ty=T)(O:a2 (ty+1000000)=Q)(h:ad):eK P a2 t h E=((i0 P ty).bind λe=>(jv P e).bind λz=>if len*cB P e<=16777216 then (nT (cB P e) (ax len z) (parts.toList.map λq=>(q.1,be t q.2))).map λes=>.bR ab e es else ab).map λv=>(v,h):=by
 unfold eK;rw[am];simp only[F,O,if_true,mI,if_false];cases i0 P ty with
 |none=>rfl
 |some e=>
   simp only[c7];cases jv P e with
   |none=>rfl
   |some z=>
     simp only[c7];split
     ·rw[Option.map_map];rfl
     ·rfl
theorem Ym(a2:aT->Bool)(av:ml a2 E=Q){v:I}(he:eK P a2 t h E=j (v,J)):J=h:=by
 rcases H2 av with av|⟨ty,len,parts,am,F,O⟩
 ·exact Yk a2 av he
 ·rw[Ob am F O]at he;obtain⟨u,_,he⟩:=dd.1 he;injection he with F O;exact O.symm
theorem Yn(a2:aT->Bool)(av:ml a2 E=Q)(au:qM E=T){v:I}(he:eK P a2 t h E=j (v,h))(O:ad):eK P a2 t O E=j (v,O):=by
 rcases H2 av with av|⟨ty,len,parts,am,af,aw⟩
 ·exact Yl a2 av au he O
 ·rw[Ob am af aw]at he ⊢;obtain⟨u,bH,he⟩:=dd.1 he;injection he with F _;rw[bH,<-F];rfl
end
open Go Go.RowKit
def w3(P:cp)(W:hh)(f:cJ)(t:List I)(h:ad)(E:a0)(v:I)(J:ad):Prop:=(eW t E=ab/\eK P (W.a2 f) t h E=j (v,J))\/∃g args fn,eW t E=j (g,args)/\P.funcs[g]? =j fn/\(fn.body.isNone=T/\(fn.name== "runtime.NumGoroutine")=T)/\AC P g args h (.inl v,J)
def um(P:cp)(W:hh)(f:cJ)(all:Array a0)(q:a0×List a0)(t:List I)(h:ad)(cV:List I)(J:ad):Prop:=(hy all t q.1=j T/\cV=ev t q.1.dst (.bW [])/\J=h)\/(hy all t q.1=j Q/\∃v,w3 P W f t h q.1 v J/\cV=ev t q.1.dst v/\nV P all cV J q.2)
def vB(P:cp)(all:Array a0)(E:a0)(t:List I)(h:ad)(v:I)(J:ad):Prop:=hy all t E=j Q/\((lQ t E=j v/\J=h)\/∃g args fn,eW t E=j (g,args)/\P.funcs[g]? =j fn/\(fn.body.isNone=T/\(fn.name== "runtime.NumGoroutine")=T)/\AC P g args h (.inr v,J))
inductive mO(P:cp)(W:hh)(f:cJ)(all:Array a0):List (a0×List a0)->List I->ad->Option I->List I->ad->Prop
 |nil (t:List I) (h:ad):mO P W f all [] t h ab t h
 |step (q:a0×List a0) (l:List (a0×List a0)) (t:List I) (h:ad) (t1:List I) (F:ad) (e:Option I) (cV:List I) (J:ad):
   um P W f all q t h t1 F->mO P W f all l t1 F e cV J->mO P W f all (q::l) t h e cV J
 |stop (q:a0×List a0) (l:List (a0×List a0)) (t:List I) (h:ad) (v:I) (J:ad):vB P all q.1 t h v J->mO P W f all (q::l) t h (j v) t J
theorem mO.trace{P:cp}{W:hh}{f:cJ}{all:Array a0}{l:List (a0×List a0)}{t:List I}{h:ad}{e:Option I}{cV:List I}{J:ad}(aB:mO P W f all l t h e cV J):∃(N:Nat) (b7:Nat->List I) (av:Nat->ad),N<=l.length/\b7 0=t/\av 0=h/\b7 N=cV/\(∀i q,i<N->l[i]? =j q->um P W f all q (b7 i) (av i) (b7 (i+1)) (av (i+1)))/\(match e with|none=>N=l.length/\av N=J|some v=>∃q,l[N]? =j q/\vB P all q.1 (b7 N) (av N) v J):=by
 induction aB with
 |nil t h=>exact⟨0,λ_=>t,λ_=>h,bV _,rfl,rfl,rfl,λi q aa=>by omega,rfl,rfl⟩
 |step q l t h t1 F e cV J bB _ aW=>
   obtain⟨N,b7,av,mP,O,af,aw,bg,cj⟩:=aW;refine⟨N+1,fun|0=>t|i+1=>b7 i,fun|0=>h|i+1=>av i,by simpa using mP,rfl,rfl,aw,λi eH aa aG=>?_,?_⟩
   ·cases i with
    |zero=>simp only[n4,g5]at aG;subst aG;show um P W f all q t h (b7 0) (av 0);rw[O,af];exact bB
    |succ i=>simp only[List.getElem?_cons_succ]at aG;exact bg i eH (by omega) aG
   ·cases e with
    |none=>exact⟨by simp[cj.1],cj.2⟩
    |some v=>obtain⟨eH,aG,w4⟩:=cj;exact⟨eH,by simpa using aG,w4⟩
 |stop q l t h v J bB=>exact⟨0,λ_=>t,λ_=>h,k4 _,rfl,rfl,rfl,λi q aa=>by omega,q,rfl,bB⟩
section
variable(all:Array a0)(pl:List (Nat×List Nat))
def ep(i:Nat):a0:=all.getD i default
def cI(k:Nat):Nat:=(pl.getD k default).1
def q4(k:Nat):List Nat:=(pl.getD k default).2
def cx(k:Nat):a0:=ep all (cI pl k)
def rY(all:Array a0)(bY:Nat->Nat->Prop)(i D:Nat):Prop:=ks (lq all) i D=Q\/bY i D
structure rZ(cq:aT->Bool)(bY:Nat->Nat->Prop):Prop where
 cover:∀i,i<all.size->∃k,k<pl.length/\cI pl k=i
 lt:∀k,k<pl.length->cI pl k<all.size
 self:∀k d,k<pl.length->(cx all pl k).dst=j d->d ∉ (cx all pl k).looksAt all
 w5:∀D,D<all.size->∀e∈(ep all D).after,j8 .any e=Q->e.on<D
 mask:∀D i,D<all.size->i<all.size->ks (lq all) i D=Q->∃e∈(ep all D).after,j8 .any e=Q/\(e.on=i\/ks (lq all) i e.on=Q)
 ne:∀i D,i<D->D<pl.length->cI pl i≠cI pl D
 still:∀i D,i<D->D<pl.length->qN cq (cx all pl i)=Q\/rP cq (cx all pl D)=Q\/rY all bY (cI pl i) (cI pl D)
 load:∀i D,i<D->D<pl.length->qN cq (cx all pl D)=Q\/qM (cx all pl i)=T\/rY all bY (cI pl i) (cI pl D)\/cI pl i∈q4 pl D
 dst:∀i D d,i<D->D<pl.length->(cx all pl D).dst=j d->d ∉ (cx all pl i).looksAt all/\(cx all pl i).dst≠j d
 data:∀i D d,i<D->D<pl.length->(cx all pl i).dst=j d->d∈(cx all pl D).looksAt all->rY all bY (cI pl i) (cI pl D)
structure s7(cq:aT->Bool)(bY:Nat->Nat->Prop):Prop where
 size:pl.length<=all.size
 cover:∀i,i<pl.length->∃k,k<pl.length/\cI pl k=i
 lt:∀k,k<pl.length->cI pl k<pl.length
 self:∀k d,k<pl.length->(cx all pl k).dst=j d->d ∉ (cx all pl k).looksAt all
 w5:∀D,D<all.size->∀e∈(ep all D).after,j8 .any e=Q->e.on<D
 mask:∀D i,D<all.size->i<all.size->ks (lq all) i D=Q->∃e∈(ep all D).after,j8 .any e=Q/\(e.on=i\/ks (lq all) i e.on=Q)
 ne:∀i D,i<D->D<pl.length->cI pl i≠cI pl D
 still:∀i D,i<D->D<pl.length->qN cq (cx all pl i)=Q\/rP cq (cx all pl D)=Q\/rY all bY (cI pl i) (cI pl D)
 load:∀i D,i<D->D<pl.length->qN cq (cx all pl D)=Q\/qM (cx all pl i)=T\/rY all bY (cI pl i) (cI pl D)\/cI pl i∈q4 pl D
 dst:∀i D d,i<D->D<pl.length->(cx all pl D).dst=j d->d ∉ (cx all pl i).looksAt all/\(cx all pl i).dst≠j d
 data:∀i D d,i<D->D<pl.length->(cx all pl i).dst=j d->d∈(cx all pl D).looksAt all->rY all bY (cI pl i) (cI pl D)
end
theorem H4(cq:aT->Bool)(all:Array a0)(M:Array Nat):∀(pl:List (Nat×List Nat)),Aa cq all M pl=Q->∀i D,i<D->D<pl.length->C8 cq all M (pl.getD i default) (pl.getD D default)=Q
 |[],_,i,D,_,U=>by simp at U
 |x::r,aB,i,D,gk,U=>by
   simp only[Aa,gS,iR]at aB;obtain⟨D,rfl⟩:∃nq,D=nq+1:=⟨D - 1,by omega⟩;have cS:D<r.length:=by simpa using U
   cases i with
   |zero=>have:r[D]∈r:=h2 cS;have:=aB.1 _ this;simpa[cK,cS]using this
   |succ i=>have:=H4 cq all M r aB.2 i D (by omega) cS;simpa[cK]using this
theorem Yo{n:Nat}{cq:aT->Bool}{all:Array a0}{pl:List (Nat×List Nat)}(au:n<=all.size)(aB:C9 n cq all pl=Q):pl.length=n/\s7 all pl cq λ_ _=>False:=by
 unfold C9 at aB;simp only[gS]at aB;obtain⟨⟨⟨⟨⟨⟨ae,F⟩,O⟩,uo⟩,af⟩,aw⟩,bg⟩:=aB;have ae:pl.length=n:=by simpa using ae
 rw[iR]at F O uo af;have r0:∀k,k<pl.length->pl.getD k default∈pl:=λk Z=>by simp only[cK,fz Z,pf];exact h2 Z
 have kL:∀i D,i<D->D<pl.length->_:=λi D gk U=>H4 cq all (lq all) pl bg i D gk U;unfold C8 at kL;simp only[gS,bne_iff_ne,ne_eq]at kL;refine⟨ae,by omega,λi aa=>?_,λk Z=>?_,λk d Z a6 gj=>?_,λD U e he ai=>?_,λD i U aa nr=>?_,λi D gk U=>?_,λi D gk U=>?_,λi D gk U=>?_,λi D d gk U a6=>?_,λi D d gk U a6 gj=>?_⟩
 ·have:=F i (jl.2 (by omega));rw[List.any_eq_true]at this;obtain⟨q,aG,h⟩:=this;obtain⟨k,Z,rfl⟩:=List.getElem_of_mem aG;exact⟨k,Z,by simpa[cI,cK,Z]using h⟩
 ·have:=O _ (r0 k Z);have:=of_decide_eq_true this;rw[ae];exact this
 ·have:=uo _ (r0 k Z);unfold cx ep cI at a6 gj;rw[a6]at this;simp only[hB,List.getD_eq_getElem?_getD]at gj this;simp[s8,gj]at this
 ·have:=af D (jl.2 U);rw[Array.all_eq_true']at this;have:=this e he;simpa[ai]using this
 ·unfold yq at aw;rw[iR]at aw;have:=aw D (jl.2 U);rw[iR]at this;have:=this i (jl.2 aa);rw[nr]at this;simp only[Bool.not_true,Bool.false_or]at this;rw[Option.any_eq_true]at this;obtain⟨E,am,cj⟩:=this;rw[Array.any_eq_true']at cj;obtain⟨e,he,cT⟩:=cj;simp only[gS,decide_eq_true_eq,oI,beq_iff_eq]at cT;refine⟨e,?_,cT.1.1,cT.2⟩;have:ep all D=E:=by simp[ep,hB,am]
  rw[this];exact he
 ·exact(kL i D gk U).1.1.1.1.1.1
 ·have:=(kL i D gk U).1.1.1.2;have:(qN cq (cx all pl i)=Q\/rP cq (cx all pl D)=Q)\/ks (lq all) (cI pl i) (cI pl D)=Q:=by simpa[cx,ep,cI]using this
  exact this.elim (λh=>h.imp id .inl) λh=>.inr (.inr (.inl h))
 ·have:=(kL i D gk U).1.1.2;simp only[oI,Bool.not_eq_true',s8,decide_eq_true_eq]at this;unfold cx ep cI q4;rcases this with((h|h)|h)|h
  ·exact .inl h
  ·exact .inr (.inl h)
  ·exact .inr (.inr (.inl (.inl h)))
  ·exact .inr (.inr (.inr h))
 ·have:=(kL i D gk U).1.2;unfold cx ep cI at a6 ⊢;rw[a6]at this;simpa[s8]using this
 ·have:=(kL i D gk U).2;unfold cx ep cI at a6 gj;rw[a6]at this;simp only[hB,List.getD_eq_getElem?_getD]at gj this;exact .inl (by simpa[s8,gj,cI]using this)
open Go Go.RowKit
theorem Oc{l m:List Nat}(h:l.Nodup)(av:∀x∈l,x∈m):l.length<=m.length:=by
 induction l generalizing m with
 |nil=>simp
 |cons x l aW=>
   have an:=av x (by simp);rw[List.nodup_cons]at h;have O:∀y∈l,y∈m.erase x:=λy bF=>by have Yp:=av y (by simp[bF]);refine(List.mem_erase_of_ne ?_).2 Yp;rintro rfl;exact h.1 bF
   have:=aW h.2 O;rw[List.length_erase_of_mem an]at this;have:0<m.length:=List.length_pos_of_mem an;simp only[gT];omega
theorem rZ.len{cq:aT->Bool}{bY:Nat->Nat->Prop}{all:Array a0}{pl:List (Nat×List Nat)}(pp:rZ all pl cq bY):pl.length=all.size:=by
 have ek:((iQ pl.length).map (cI pl)).Nodup:=by rw[List.Nodup,List.pairwise_map];refine List.Pairwise.imp_of_mem ?_ List.pairwise_lt_range;intro a b _ ai s9;exact pp.ne a b s9 (jl.1 ai)
 have F:=Oc ek (m:=iQ all.size) λx an=>by obtain⟨k,Z,rfl⟩:=n0.1 an;exact jl.2 (pp.lt k (jl.1 Z))
 have O:=Oc (l:=iQ all.size) List.nodup_range (m:=(iQ pl.length).map (cI pl)) λx an=>by obtain⟨k,Z,e⟩:=pp.cover x (jl.1 an);exact n0.2 ⟨k,jl.2 Z,e⟩
 simp at F O;omega
theorem rZ.toQ{cq:aT->Bool}{bY:Nat->Nat->Prop}{all:Array a0}{pl:List (Nat×List Nat)}(pp:rZ all pl cq bY):s7 all pl cq bY:=by have al:=pp.len;exact⟨by omega,λi aa=>pp.cover i (by omega),λk Z=>by have:=pp.lt k Z;omega,pp.self,pp.w5,pp.mask,pp.ne,pp.still,pp.load,pp.dst,pp.data⟩
theorem Yq{cq:aT->Bool}{all:Array a0}{pl:List (Nat×List Nat)}(aB:Hh cq all pl=Q):rZ all pl cq λ_ _=>False:=by
 unfold Hh at aB;simp only[gS]at aB;obtain⟨⟨⟨⟨F,O⟩,af⟩,aw⟩,bg⟩:=aB;rw[iR]at F O af;have r0:∀k,k<pl.length->pl.getD k default∈pl:=λk Z=>by simp only[cK,fz Z,pf];exact h2 Z
 have kL:∀i D,i<D->D<pl.length->_:=λi D gk U=>H4 cq all (lq all) pl bg i D gk U;unfold C8 at kL;simp only[gS,bne_iff_ne,ne_eq]at kL;refine⟨λi aa=>?_,λk Z=>?_,λk d Z a6 gj=>?_,λD U e he ai=>?_,λD i U aa nr=>?_,λi D gk U=>?_,λi D gk U=>?_,λi D gk U=>?_,λi D d gk U a6=>?_,λi D d gk U a6 gj=>?_⟩
 ·have:=F i (jl.2 aa);rw[List.any_eq_true]at this;obtain⟨q,aG,h⟩:=this;obtain⟨k,Z,rfl⟩:=List.getElem_of_mem aG;exact⟨k,Z,by simpa[cI,cK,Z]using h⟩
 ·have:=O _ (r0 k Z);simp only[gS,decide_eq_true_eq]at this;exact this.1
 ·have:=O _ (r0 k Z);simp only[gS,decide_eq_true_eq]at this;have:=this.2;unfold cx ep cI at a6 gj;rw[a6]at this;simp only[hB,List.getD_eq_getElem?_getD]at gj this;simp[s8,gj]at this
 ·have:=af D (jl.2 U);rw[Array.all_eq_true']at this;have:=this e he;simpa[ai]using this
 ·unfold yq at aw;rw[iR]at aw;have:=aw D (jl.2 U);rw[iR]at this;have:=this i (jl.2 aa);rw[nr]at this;simp only[Bool.not_true,Bool.false_or]at this;rw[Option.any_eq_true]at this;obtain⟨E,am,cj⟩:=this;rw[Array.any_eq_true']at cj;obtain⟨e,he,cT⟩:=cj;simp only[gS,decide_eq_true_eq,oI,beq_iff_eq]at cT;refine⟨e,?_,cT.1.1,cT.2⟩;have:ep all D=E:=by simp[ep,hB,am]
  rw[this];exact he
 ·exact(kL i D gk U).1.1.1.1.1.1
 ·have:=(kL i D gk U).1.1.1.2;have:(qN cq (cx all pl i)=Q\/rP cq (cx all pl D)=Q)\/ks (lq all) (cI pl i) (cI pl D)=Q:=by simpa[cx,ep,cI]using this
  exact this.elim (λh=>h.imp id .inl) λh=>.inr (.inr (.inl h))
 ·have:=(kL i D gk U).1.1.2;simp only[oI,Bool.not_eq_true',s8,decide_eq_true_eq]at this;unfold cx ep cI q4;rcases this with((h|h)|h)|h
  ·exact .inl h
  ·exact .inr (.inl h)
  ·exact .inr (.inr (.inl (.inl h)))
  ·exact .inr (.inr (.inr h))
 ·have:=(kL i D gk U).1.2;unfold cx ep cI at a6 ⊢;rw[a6]at this;simpa[s8]using this
 ·have:=(kL i D gk U).2;unfold cx ep cI at a6 gj;rw[a6]at this;simp only[hB,List.getD_eq_getElem?_getD]at gj this;exact .inl (by simpa[s8,gj,cI]using this)
open Go Go.RowKit
def uq(e0:List I)(E:a0)(v:I):Prop:=∀d,E.dst=j d->d<e0.length->e0.getD d .aP=v
def vC(P:cp)(W:hh)(f:cJ)(all:Array a0)(e0:List I)(E:a0)(h:ad):Prop:=ml (W.a2 f) E=Q/\((hy all e0 E=j T/\uq e0 E (.bW []))\/(hy all e0 E=j Q/\∃v,eK P (W.a2 f) e0 h E=j (v,h)/\uq e0 E v))
theorem H5{t:List I}{d:Option Tmp}{v:I}:(ev t d v).length=t.length:=by cases d<;>simp[ev]
theorem yJ{t:List I}{d:Option Tmp}{v:I}{D:Nat}(h:d≠j D):(ev t d v).getD D .aP=t.getD D .aP:=by
 cases d with
 |none=>rfl
 |some d=>have:d≠D:=λe=>h (by rw[e]);simp[ev,cK,s' this]
theorem Dz{t:List I}{d:Option Tmp}{v:I}{D:Nat}(h:d=j D)(U:D<t.length):(ev t d v).getD D .aP=v:=by subst h;simp[ev,cK,U]
section
variable{P:cp}{W:hh}{f:cJ}{all:Array a0}{pl:List (Nat×List Nat)}{cq:aT->Bool}{bY:Nat->Nat->Prop}{N:Nat}{b7:Nat->List I}{av:Nat->ad}
structure kM(P:cp)(W:hh)(f:cJ)(all:Array a0)(pl:List (Nat×List Nat))(cq:aT->Bool)(bY:Nat->Nat->Prop)(N:Nat)(b7:Nat->List I)(av:Nat->ad):Prop where
 cm:s7 all pl cq bY
 le:N<=pl.length
 Aq:∀ty,cq (ty+2000000)=Q->W.a2 f ty=T/\W.a2 f (ty+1000000)=Q
 step:∀k,k<N->um P W f all (cx all pl k,(q4 pl k).map (ep all)) (b7 k) (av k) (b7 (k+1)) (av (k+1))
theorem um.put{q:a0×List a0}{t cV:List I}{h J:ad}(av:um P W f all q t h cV J):∃v,cV=ev t q.1.dst v:=by
 rcases av with⟨_,F,_⟩|⟨_,v,_,F,_⟩
 ·exact⟨_,F⟩
 ·exact⟨_,F⟩
theorem kM.len(bz:kM P W f all pl cq bY N b7 av):∀k,k<=N->(b7 k).length=(b7 N).length:=by
 have:∀d k,k+d=N->(b7 k).length=(b7 N).length:=by
  intro d;induction d with
  |zero=>intro k Z;rw[<-Z];rfl
  |succ d aW=>intro k Z;rw[<-aW (k+1) (by omega)];obtain⟨v,R⟩:=(bz.step k (by omega)).put;rw[R,H5]
 exact λk Z=>this (N - k) k (by omega)
theorem kM.fH(bz:kM P W f all pl cq bY N b7 av)(d:Nat):∀dc n,dc+n<=N->(∀D,dc<=D->D<dc+n->(cx all pl D).dst≠j d)->(b7 (dc+n)).getD d .aP=(b7 dc).getD d .aP:=by
 intro dc n;induction n with
 |zero=>intro _ _;rfl
 |succ n aW=>intro hle n3;rw[<-aW (by omega) (λD F O=>n3 D F (by omega))];obtain⟨v,R⟩:=(bz.step (dc+n) (by omega)).put;rw[<-oE,R];exact yJ (n3 (dc+n) (by omega) (by omega))
theorem s7.after(pp:s7 all pl cq bY){k d:Nat}(Z:k<pl.length)(a6:d∈(cx all pl k).looksAt all){D:Nat}(F:k<=D)(O:D<pl.length):(cx all pl D).dst≠j d:=by
 intro he;rcases mc k D with h|h
 ·exact(pp.dst k D d h O he).1 a6
 ·obtain rfl:k=D:=by omega
  exact pp.self k d Z he a6
theorem kM.look(bz:kM P W f all pl cq bY N b7 av){k:Nat}(Z:k<=N)(Ar:k<pl.length){i:Nat}(Nx:k<=i)(aa:i<=N):∀d∈(cx all pl k).looksAt all,(b7 i).getD d .aP=(b7 N).getD d .aP:=by intro d a6;have:=bz.fH d i (N - i) (by omega) (λD F O=>bz.cm.after Ar a6 (by omega) (by have:=bz.le;omega));rw[show i+(N - i)=N by omega]at this;exact this.symm
theorem kM.res(bz:kM P W f all pl cq bY N b7 av){k:Nat}(Z:k<N){v:I}(R:b7 (k+1)=ev (b7 k) (cx all pl k).dst v):uq (b7 N) (cx all pl k) v:=by intro d a6 bh;have al:=bz.le;have:=bz.fH d (k+1) (N - (k+1)) (by omega) (λD F O he=>(bz.cm.dst k D d (by omega) (by omega) he).2 a6);rw[show k+1+(N - (k+1))=N by omega]at this;rw[this,R];exact Dz a6 (by rw[bz.len k (by omega)];exact bh)
theorem kM.at(bz:kM P W f all pl cq bY N b7 av){k:Nat}(Z:k<N):(hy all (b7 N) (cx all pl k)=j T/\uq (b7 N) (cx all pl k) (.bW [])/\av (k+1)=av k)\/(hy all (b7 N) (cx all pl k)=j Q/\∃v,w3 P W f (b7 N) (av k) (cx all pl k) v (av (k+1))/\uq (b7 N) (cx all pl k) v/\nV P all (b7 (k+1)) (av (k+1)) ((q4 pl k).map (ep all))):=by
 have al:=bz.le;have p5:=bz.look (k:=k) (by omega) (by omega) (bV k) (by omega);rcases bz.step k Z with⟨F,O,af⟩|⟨F,v,O,af,aw⟩
 ·exact .inl ⟨by rw[<-Dy p5];exact F,bz.res Z O,af⟩
 ·refine .inr ⟨by rw[<-Dy p5];exact F,v,?_,bz.res Z af,aw⟩;rcases O with⟨a8,bZ⟩|⟨g,args,fn,a8,bZ⟩
  ·exact .inl ⟨by rw[<-H0 p5];exact a8,by rw[<-N9 (W.a2 f) p5];exact bZ⟩
  ·exact .inr ⟨g,args,fn,by rw[<-H0 p5];exact a8,bZ⟩
theorem Yr{t:List I}{E:a0}(av:lR E=Q):eW t E=ab:=by
 unfold eW;split
 ·rename_i am;simp[lR,am]at av
 ·rfl
theorem Od{a2:aT->Bool}{t:List I}{E:a0}(av:ml a2 E=Q):eW t E=ab:=by
 rcases H2 av with av|⟨ty,len,parts,am,_⟩
 ·exact Yr av
 ·simp[eW,am]
theorem w3.still{t:List I}{h J:ad}{E:a0}{v:I}(am:w3 P W f t h E v J)(av:ml (W.a2 f) E=Q):eK P (W.a2 f) t h E=j (v,h)/\J=h:=by
 rcases am with⟨_,O⟩|⟨g,args,fn,F,_⟩
 ·have:=Ym (W.a2 f) av O;subst this;exact⟨O,rfl⟩
 ·rw[Od av]at F;cases F
theorem kM.same(bz:kM P W f all pl cq bY N b7 av){k:Nat}(Z:k<N)(bB:ml (W.a2 f) (cx all pl k)=Q):av (k+1)=av k:=by
 rcases bz.at Z with⟨_,_,h⟩|⟨_,v,h,_⟩
 ·exact h
 ·exact(h.still bB).2
theorem kM.late(bz:kM P W f all pl cq bY N b7 av){k:Nat}(Z:k<N)(bB:ml (W.a2 f) (cx all pl k)=Q):vC P W f all (b7 N) (cx all pl k) (av k):=by
 refine⟨bB,?_⟩;rcases bz.at Z with⟨F,O,_⟩|⟨F,v,O,af,_⟩
 ·exact .inl ⟨F,O⟩
 ·exact .inr ⟨F,v,(O.still bB).1,af⟩
theorem Oe{a2:aT->Bool}{t:List I}{h:ad}{E:a0}:∀{l:List a0},ml a2 E=Q->nV P all t h l->E∈l->hy all t E=j Q->∃ty a d,E.op= .load ty a/\E.dst=j d/\c0 (jc P ty) (cB P ty) h (be t a)=j (t.getD d .aP)
 |x::l,bB,aj,hm,hw=>by
   unfold nV at aj;rcases pi.1 hm with rfl|hm
   ·have:=aj.1;rw[hw]at this;simp only at this;split at this
    ·rename_i ty a d F O;exact⟨ty,a,d,F,O,this⟩
    ·rename_i F _;simp[ml,lR,F]at bB
    ·exact this.elim
   ·exact Oe bB aj.2 hm hw
theorem kM.Db(bz:kM P W f all pl cq bY N b7 av){i k:Nat}(Ys:i<k)(Z:k<N)(aB:¬rY all bY (cI pl i) (cI pl k))(al:vC P W f all (b7 N) (cx all pl i) (av k)):vC P W f all (b7 N) (cx all pl i) (av (k+1)):=by
 have hle:=bz.le;by_cases bB:ml (W.a2 f) (cx all pl k)=Q
 ·rw[bz.same Z bB];exact al
 obtain⟨dh,cC⟩:=al;refine⟨dh,?_⟩;rcases cC with cC|⟨cC,v,iL,uk⟩
 ·exact .inl cC
 refine .inr ⟨cC,?_⟩;rcases bz.cm.load i k Ys (by omega)with h|h|h|h
 ·exact absurd (H3 bz.Aq h) bB
 ·exact⟨v,Yn (W.a2 f) dh h iL _,uk⟩
 ·exact absurd h aB
 ·rcases bz.at Z with⟨_,_,af⟩|⟨_,bu,_,_,n5⟩
  ·rw[af];exact⟨v,iL,uk⟩
  ·have p5:=bz.look (k:=i) (i:=k+1) (by omega) (by omega) (by omega) (by omega);obtain⟨ty,a,d,ao,aq,bm⟩:=Oe dh n5 (E:=cx all pl i) (n0.2 ⟨_,h,rfl⟩) (by rw[Dy p5];exact cC);have Yt:be (b7 (k+1)) a=be (b7 N) a:=Dx p5 a (by simp[ao,hn]);have yC:(b7 (k+1)).getD d .aP=(b7 N).getD d .aP:=by have:=bz.fH d (k+1) (N - (k+1)) (by omega) (λD F O he=>(bz.cm.dst i D d (by omega) (by omega) he).2 aq);rw[show k+1+(N - (k+1))=N by omega]at this;exact this.symm
   refine⟨(b7 N).getD d .aP,?_,λk7 mh _=>?_⟩
   ·unfold eK at iL ⊢;simp only[ao]at iL ⊢;split at iL
    ·cases iL
    ·rename_i au;rw[if_neg au,<-Yt,bm,yC];rfl
   ·rw[aq]at mh;injection mh with mh;rw[mh]
end
open Go Go.RowKit
section
variable{P:cp}{W:hh}{f:cJ}{all:Array a0}{pl:List (Nat×List Nat)}{cq:aT->Bool}{bY:Nat->Nat->Prop}{N:Nat}{b7:Nat->List I}{av:Nat->ad}
 {m aR:dw} {h J:ad} {w aV:cQ} {t e0:List I} {a:Act} {b:fs} {cs:List fs} {K:List Item} {r:jd×List I×ad}
def f9(all:Array a0)(pl:List (Nat×List Nat))(li:Array Bool)(p:Nat)(d:Nat):Prop:=∀k,k<pl.length->(cx all pl k).dst=j d->li.getD (cI pl k) T=Q/\k<p
open Classical in
noncomputable def ns(all:Array a0)(pl:List (Nat×List Nat))(li:Array Bool)(p:Nat)(e0:List I):List I:=(iQ e0.length).map λd=>if f9 all pl li p d then e0.getD d .aP else .aP
theorem lv{li:Array Bool}{p:Nat}:(ns all pl li p e0).length=e0.length:=by simp[ns]
theorem q5{li:Array Bool}{p d:Nat}(ah:f9 all pl li p d):(ns all pl li p e0).getD d .aP=e0.getD d .aP:=by
 by_cases a6:d<e0.length
 ·simp[ns,cK,a6,ah]
 ·simp[ns,cK,a6]
theorem yK{li:Array Bool}{p d:Nat}(ah:¬f9 all pl li p d):(ns all pl li p e0).getD d .aP= .aP:=by
 by_cases a6:d<e0.length
 ·simp[ns,cK,a6,ah]
 ·simp[ns,cK,a6]
theorem Yu{li H6:Array Bool}{p gy:Nat}(h:∀d,f9 all pl li p d↔f9 all pl H6 gy d):ns all pl li p e0=ns all pl H6 gy e0:=by
 unfold ns;congr 1;funext d;by_cases ah:f9 all pl li p d
 ·rw[if_pos ah,if_pos ((h d).1 ah)]
 ·rw[if_neg ah,if_neg λx=>ah ((h d).2 x)]
theorem dp.of{aR:dw}{J:ad}{cV:List I}{aS:Array bK}(al:aS.size=cV.length)(R:∀d,d<cV.length->bI P aR J (cV.getD d .aP) (aS.getD d fg)):dp P aR J cV aS:=by refine⟨al,λi aa=>?_⟩;have:=R i aa;simpa[cK,aa]using this
theorem dp.slot{aR:dw}{J:ad}{cV:List I}{aS:Array bK}(aL:dp P aR J cV aS){d:Nat}(a6:d<cV.length):bI P aR J (cV.getD d .aP) (aS.getD d fg):=by have:=aL.2 d a6;simpa[cK,a6]using this
theorem Act.H7{a:Act}{d:Option Tmp}{D:Nat}(h:d≠j D):(a.put d u).tmps.getD D fg=a.tmps.getD D fg:=by
 cases d with
 |none=>rfl
 |some d=>have:d≠D:=λe=>h (by rw[e]);simp[Act.put,hB,Array.getElem?_setIfInBounds_ne this]
theorem jI{li:Array Bool}{i D:Nat}(aa:i<li.size):(li.setIfInBounds i Q).getD D T=if D=i then Q else li.getD D T:=by
 by_cases U:D=i
 ·subst U;simp[hB,aa]
 ·simp[hB,U,Array.getElem?_setIfInBounds_ne (kw U)]
theorem Yv(pp:s7 all pl cq bY){li:Array Bool}{p gy k:Nat}(Z:k<pl.length)(Yw:cI pl k<li.size)(DA:p<=gy)(n3:∀D,p<=D->D<gy->D≠k->li.getD (cI pl D) T=T)(x:Ext m h aR J)(aL:dp P m h (ns all pl li p e0) a.tmps){v:I}(R:bI P aR J v u)(jW:uq e0 (cx all pl k) v):dp P aR J (ns all pl (li.setIfInBounds (cI pl k) Q) gy e0) (a.put (cx all pl k).dst u).tmps:=by
 have F:=(aL.ext x).put (a:=a) R (cx all pl k).dst;have hlen:(a.put (cx all pl k).dst u).tmps.size=e0.length:=by rw[F.1,H5,lv]
 refine dp.of (by rw[hlen,lv]) λd a6=>?_;have mh:d<e0.length:=by rw[lv]at a6;exact a6
 have O:=F.slot (d:=d) (by rw[H5,lv];exact mh);by_cases ah:f9 all pl (li.setIfInBounds (cI pl k) Q) gy d
 ·rw[q5 ah];by_cases he:(cx all pl k).dst=j d
  ·rw[Dz he (by rw[lv];exact mh)]at O;rw[jW d he mh];exact O
  ·rw[yJ he,q5 (λD U w6=>?_)]at O
   ·exact O
   ·obtain⟨bT,bQ⟩:=ah D U w6;rw[jI Yw]at bT;have jJ:D≠k:=λe=>he (by rw[<-e];exact w6);have cO:cI pl D≠cI pl k:=by
     intro e;rcases Nat.lt_trichotomy D k with h|h|h
     ·exact pp.ne D k h Z e
     ·exact jJ h
     ·exact pp.ne k D h U e.symm
    rw[if_neg cO]at bT;refine⟨bT,?_⟩;rcases mc D p with h|h
    ·exact h
    ·rw[n3 D h bQ jJ]at bT;cases bT
 ·rw[yK ah];exact .aP _
theorem H8(pp:s7 all pl cq bY){li:Array Bool}(jh:∀D,D<pl.length->li.getD D T=Q->∀e∈(ep all D).after,j8 .any e=Q->li.getD e.on T=Q):∀D,D<pl.length->(∀e∈(ep all D).after,j8 .any e=Q->li.getD e.on T=Q)->∀i,i<pl.length->ks (lq all) i D=Q->li.getD i T=Q:=by
 intro D;induction D using Nat.strongRecOn with
 |ind D aW=>
   intro U he i aa aB;obtain⟨e,ao,aq,bm⟩:=pp.mask D i (by have:=pp.size;omega) (by have:=pp.size;omega) aB;have bh:=pp.w5 D (by have:=pp.size;omega) e ao aq;rcases bm with bm|bm
   ·rw[<-bm];exact he e ao aq
   ·exact aW e.on bh (by omega) (jh e.on (by omega) (he e ao aq)) i aa bm
theorem ta{i:Nat}(aa:i<all.size):all[i]? =j (ep all i):=by simp[ep,aa]
theorem Act.yL(a:Act)(x:Option Tmp)(v:bK):(a.put x v).defers=a.defers:=by cases x<;>rfl
theorem Yx(pp:s7 all pl cq bY){li:Array Bool}{p k:Nat}(Z:k<pl.length)(mm:k<=p)(nr:∀D,D<pl.length->rY all bY (cI pl D) (cI pl k)->li.getD (cI pl D) T=Q):∀d∈(cx all pl k).looksAt all,(ns all pl li p e0).getD d .aP=e0.getD d .aP:=by
 intro d a6;refine q5 λD U w6=>?_;rcases mc D k with h|h
 ·exact⟨nr D U (pp.data D k d h Z w6 a6),by omega⟩
 ·exact absurd w6 (pp.after Z a6 h U)
def dw.e7(m:dw)(ap:Nat->Option Obj):dw:={m with e4:=ap}
theorem bI.e7{ap:Nat->Option Obj}{v:I}{u:bK}(r:bI P m h v u):bI P (m.e7 ap) h v u:=by
 induction r with
 |aP v=>exact .aP v
 |bool b=>exact .bool b
 |int k n=>exact .int k n
 |str l=>exact .str l
 |gd=>exact .gd
 |ptr b i off ai=>exact bI.ptr (m:=m.e7 ap) b i off ai
 |e2 t b ai aL=>exact bI.e2 (m:=m.e7 ap) t b ai aL
 |ip e off g E ag aa R aW=>exact bI.ip (m:=m.e7 ap) e off g E ag aa aW
 |aF=>exact .aF
 |bR id e es g E cap ag al aa R aj aL aW=>exact bI.bR (m:=m.e7 ap) id e es g E cap ag al aa aW aj aL
 |me e a cap=>exact .me e a cap
 |bd b E n e cap ai he i1 au i2=>exact bI.bd (m:=m.e7 ap) b E n e cap ai he i1 au i2
 |fn g l c bJ fy F O af aw vs qS=>exact .fn g l c bJ fy F O vs qS
 |mb=>exact .mb
 |hb=>exact .hb
 |iface t v bu F aW=>exact .iface t v bu aW
 |agg l bJ F af aW=>exact .agg l bJ F aW
 |bW l bJ F af aW=>exact .bW l bJ F aW
theorem dp.e7{ap:Nat->Option Obj}{rS:Array bK}(r:dp P m h t rS):dp P (m.e7 ap) h t rS:=⟨r.1,λi aa=>(r.2 i aa).e7⟩
theorem Ext.e7(x:Ext m h aR J)(ap:Nat->Option Obj):Ext (m.e7 ap) h (aR.e7 ap) J:=⟨x.base,x.n,x.ids,x.cb,x.dF,x.kJ,λ_ _ h=>h⟩
theorem bI.by{ap:Nat->Option Obj}(x:Ext (m.e7 ap) h (aR.e7 ap) J){v:I}(r:bI P m h v u):bI P aR J v u:=((r.e7 (ap:=ap)).ext x).e7 (ap:=aR.e4)
theorem bU.e7(hw:bU P m h w){ap:Nat->Option Obj}(fD:∀g x,ap g=j x->m.e4 g=j x):bU P (m.e7 ap) h w where
 size:=hw.size
 lt:=hw.lt
 live:=λb es ai=>by obtain⟨cs,F,O,af,aw,bg⟩:=hw.live b es ai;exact⟨cs,F,O,af,aw,λi aa D U=>by obtain⟨v,a,b⟩:=bg i aa D U;exact⟨v,a,b.e7⟩⟩
 inj:=hw.inj
 dF:=hw.dF
 sep:=hw.sep
 oD:=hw.oD
 ng:=hw.ng
 mf:=hw.mf
 nY:=hw.nY
 dk:=hw.dk
 e4:=λg x an=>hw.e4 g x (fD g x an)
theorem bU.aP(hw:bU P m h w)(E:Obj):bU P (m.e7 λg=>if g=w.heap.size then j E else m.e4 g) h (w.alloc E):=by
 have fS:=hw.new ((g4.refl _ w).alloc E);refine{fS with live:=λb es ai=>?_,e4:=λg x an=>?_}
 ·obtain⟨cs,F,O,af,aw,bg⟩:=fS.live b es ai;exact⟨cs,F,O,af,aw,λi aa D U=>by obtain⟨v,a,b⟩:=bg i aa D U;exact⟨v,a,b.e7⟩⟩
 ·have an:(if g=w.heap.size then j E else m.e4 g)=j x:=an;by_cases e:g=w.heap.size
  ·rw[if_pos e]at an;injection an with an;subst an;subst e;refine⟨hw.size,(by show(w.heap.push E)[w.heap.size]? =j E;simp),λb es ai e=>?_,λk Z e=>?_,λeO=>?_⟩
   ·have:=hw.below ai;have e:m.cb b=w.heap.size:=e;omega
   ·have:=(hw.pW Z).2;have e:m.h1 k=w.heap.size:=e;omega
   ·show m.dF w.heap.size eO=ab;rcases aa:m.dF w.heap.size eO with _|v
    ·rfl
    ·have:=hw.pV aa;omega
  ·rw[if_neg e]at an;exact fS.e4 g x an
theorem bU.Yy(hw:bU P m h w){z:Nat}{e:aT}{kz:List I}{u:Array bK}(aN:m.e4 z=j (.cells u e))(bH:u.size=kz.length)(al:kz.length=P.cellsOf e)(ah:dj P m h kz u.toList):∃aR,(∀ap,Ext (m.e7 ap) h (aR.e7 ap) (h.push [kz]))/\bU P aR (h.push [kz]) w/\aR.cb h.n=z/\aR.fY h.n=e/\aR.e4=λg=>if g=z then ab else m.e4 g:=by
 obtain⟨e8,g9,ho,nt,q6⟩:=hw.e4 z _ aN;refine⟨{m with cb:=λb=>if b=h.n then z else m.cb b,fY:=λb=>if b=h.n then e else m.fY b,md:=λb=>if b=h.n then u.size else m.md b,e4:=λg=>if g=z then ab else m.e4 g},?_,?_,by simp,by simp,rfl⟩
 ·exact λap=>⟨rfl,by simp[ad.push],by simp[ad.push],λb ai=>by simp[dw.e7,show b≠h.n by omega],λ_ _ _ h=>h,λk Z=>⟨rfl,bV _,λ_=>⟨rfl,rfl⟩⟩,λ_ _ h=>h⟩
 ·have an:∀ap,Ext (m.e7 ap) h (dw.e7 {m with cb:=λb=>if b=h.n then z else m.cb b,fY:=λb=>if b=h.n then e else m.fY b,md:=λb=>if b=h.n then u.size else m.md b,e4:=λg=>if g=z then ab else m.e4 g} ap) (h.push [kz]):=
   λap=>⟨rfl,by simp[ad.push],by simp[ad.push],λb ai=>by simp[dw.e7,show b≠h.n by omega],λ_ _ _ h=>h,λk Z=>⟨rfl,bV _,λ_=>⟨rfl,rfl⟩⟩,λ_ _ h=>h⟩
  have eX:∀b x,(h.push [kz]).cell b=j x->b≠h.n->h.cell b=j x:=by intro b x ai cO;simpa[ad.push,cO]using ai
  have new:∀b x,(h.push [kz]).cell b=j x->b=h.n->x=[kz]:=by intro b x ai he;subst he;simp[ad.push]at ai;exact ai.symm
  refine⟨hw.size,λb x ai=>?_,λb x ai=>?_,λb e5 x iI ai j' he=>?_,hw.dF,λb x ai E=>?_,hw.oD,hw.ng,λk Z b x ai=>?_,hw.nY,hw.dk,λg x U=>?_⟩
  ·by_cases hL:b=h.n
   ·subst hL;exact⟨by simp[ad.push],by simpa using e8⟩
   ·have:=hw.lt b x (eX b x ai hL);exact⟨by simp[ad.push];omega,by simpa[hL]using this.2⟩
  ·by_cases hL:b=h.n
   ·subst hL;have:=new _ _ ai rfl;subst this;refine⟨u,by simpa[jD]using g9,by simp,by simpa using al,by simp;omega,λi aa D U=>?_⟩;have gh:i=0:=by simpa using aa
    subst gh;have cS:D<kz.length:=by simpa using U
    refine⟨u[D]'(by omega),by simp,?_⟩;have:=ah.2 D cS (by simp;omega);exact bI.by (an λ_=>ab) (by simpa using this)
   ·obtain⟨fM,F,O,af,aw,bg⟩:=hw.live b x (eX b x ai hL);refine⟨fM,by simpa[hL]using F,by simpa[hL]using O,by simpa[hL]using af,by simpa[hL]using aw,λi aa D U=>?_⟩;obtain⟨v,cj,cT⟩:=bg i aa D U;exact⟨v,by simpa[hL]using cj,bI.by (an λ_=>ab) cT⟩
  ·by_cases F:b=h.n<;>by_cases O:e5=h.n
   ·omega
   ·simp[F,O]at he;exact absurd he.symm (ho _ _ (eX _ _ j' O))
   ·simp[F,O]at he;exact absurd he (ho _ _ (eX _ _ ai F))
   ·simp[F,O]at he;exact hw.inj b e5 x iI (eX _ _ ai F) (eX _ _ j' O) he
  ·by_cases F:b=h.n
   ·simp only[F,if_true];exact q6 E
   ·simp only[F,if_false];exact hw.sep b x (eX _ _ ai F) E
  ·by_cases F:b=h.n
   ·simp only[F,if_true];exact λe=>nt k Z e.symm
   ·simp only[F,if_false];exact hw.mf k Z b x (eX _ _ ai F)
  ·have U:(if g=z then ab else m.e4 g)=j x:=U;by_cases ao:g=z
   ·rw[if_pos ao]at U;cases U
   ·rw[if_neg ao]at U;obtain⟨aJ,a1,bf,cv,ez⟩:=hw.e4 g x U;refine⟨aJ,a1,λb y ai=>?_,cv,ez⟩;by_cases F:b=h.n
    ·simp only[F,if_true];exact λe=>ao e.symm
    ·simp only[F,if_false];exact bf b y (eX _ _ ai F)
def Yz(P:cp)(all:Array a0)(pl:List (Nat×List Nat))(aA:Nat->Option Obj)(a:Act)(m:dw)(z k:Nat):Prop:=∃e d kz u,(cx all pl k).op= .alloc e/\(cx all pl k).guard=ab/\(cx all pl k).dst=j d/\jv P e=j kz/\u.size=kz.length/\kz.length=P.cellsOf e/\(∀m h,dj P m h kz u.toList)/\aA z=ab/\m.e4 z=j (.cells u e)/\(d<a.tmps.size->a.tmps.getD d fg= .pointer (j ⟨z,0,ab⟩))
theorem H9{cq:aT->Bool}{E:a0}(au:rP cq E=Q):∃e d,E.op= .alloc e/\E.guard=ab/\E.dst=j d/\cq e=Q/\e<2000000:=by
 unfold rP at au;split at au
 ·rename_i e d F O af;rw[gS,decide_eq_true_eq]at au;exact⟨e,d,F,O,af,au⟩
 ·cases au
theorem YA{cq:aT->Bool}{a2:aT->Bool}{E:a0}(au:rP cq E=Q):ml a2 E=T:=by obtain⟨e,d,F,_⟩:=H9 au;simp[ml,lR,F]
theorem YB(gI:nZ P)(E:a0)(e:aT)(am:E.op= .alloc e){z:List I}(aN:jv P e=j z)(a:Act)(w:cQ):∃u:Array bK,(eG a.eval E).run P w= .ok (.value (.pointer (j ⟨w.heap.size,0,ab⟩))) (w.alloc (.cells u e))/\u.size=z.length/\z.length=P.cellsOf e/\∀m h,dj P m h z u.toList:=by obtain⟨i,v,aa,R,al,av,ah,kt⟩:=vt (m:=⟨0,λ_=>0,λ_=>0,λ_=>0,λ_ _=>ab,λ_=>0,λ_=>0,λ_=>0,λ_=>ab⟩) (h:=⟨0,λ_=>ab,0,λ_=>0⟩) (w:=w) gI aN;refine⟨v.cells,by simp[eG,am,Instr.alloc,kt,newVar,newRow],by omega,al,λm h=>?_⟩;obtain⟨hp,cW,g8,hd,_,_,nk,_⟩:=vt (m:=m) (h:=h) (w:=w) gI aN;rw[aa]at g8;injection g8 with g8;subst g8;rw[R]at hd;injection hd with hd;rw[hd];exact nk
inductive w7(n:Nat)(all:Array a0)(bY:Nat->Nat->Prop):Array Bool->List Nat->Prop
 |nil (li:Array Bool):(∀i,i<n->li.getD i T=Q)->w7 n all bY li []
 |cons (li:Array Bool) (i:Nat) (L:List Nat):i<n->li.getD i T=T->(∀e∈(ep all i).after,j8 .any e=Q->li.getD e.on T=Q)->(∀D,bY D i->li.getD D T=Q)->
   w7 n all bY (li.setIfInBounds i Q) L->w7 n all bY li (i::L)
abbrev kN(all:Array a0)(bY:Nat->Nat->Prop):Array Bool->List Nat->Prop:=w7 all.size all bY
theorem DB(w8:∀D,D<all.size->∀e∈(ep all D).after,j8 .any e=Q->e.on<D):∀(fuel u:Nat) (li:Array Bool),li.size=all.size->li.toList.countP (λx=> !x)<=fuel->kN all (λ_ _=>False) li (Region.linearise.go .any all fuel u li []):=by
 intro fuel;induction fuel with
 |zero=>
   intro u li ey bc;simp only[Region.linearise.go,List.reverse_nil];refine .nil _ λi aa=>?_;have:=List.countP_eq_zero.1 (Nat.le_zero.1 bc) (li[i]'(by omega)) (by simp);have hR:i<li.size:=by omega
   simpa[hB,hR]using this
 |succ fuel aW=>
   intro u li ey bc;simp only[Region.linearise.go];change kN all _ li (match(Region.ready .any all li)[u % (Region.ready .any all li).length]? with
    |some i=>Region.linearise.go .any all fuel (u / (Region.ready .any all li).length) (li.setIfInBounds i Q) [i]
    |none=>[].reverse)
   cases aa:(Region.ready .any all li)[u % (Region.ready .any all li).length]? with
   |none=>
     have YC:Region.ready .any all li=[]:=by
      cases ah:Region.ready .any all li with
      |nil=>rfl
      |cons x xs=>rw[ah]at aa;have bh:u % (x::xs).length<(x::xs).length:=Nat.mod_lt _ (by simp);simp at aa;simp at bh;omega
     simp only[List.reverse_nil];refine .nil _ ?_;intro i;induction i using Nat.strongRecOn with
     |ind i YD=>
       intro eb;rcases an:li.getD i T with _|_
       ·have gj:i∈Region.ready .any all li:=by
         rw[mem_ready];have hR:i<li.size:=by omega
         exact⟨by simpa[hB,hR]using an,ep all i,ta eb,λe he ai=>YD e.on (w8 i eb e he ai) (by have:=w8 i eb e he ai;omega)⟩
        rw[YC]at gj;cases gj
       ·rfl
   |some i=>
     simp only[];rw[linearise_go_acc,List.reverse_singleton,List.singleton_append];have gj:=p6 aa;rw[mem_ready]at gj;obtain⟨wZ,E,am,As⟩:=gj;have eb:i<all.size:=(Array.getElem?_eq_some_iff.1 am).1;have p0:ep all i=E:=by simp[ep,hB,am]
     have hR:i<li.size:=by omega
     have At:li.getD i T=T:=by simpa[hB,hR]using wZ
     refine .cons _ _ _ eb At (by rw[p0];exact As) (λ_ h=>h.elim) (aW _ _ (by simpa using ey) ?_);have aN:(li.toList)[i]'(by simpa using hR)=T:=by simpa[hB,hR]using At
     have:=List.countP_set (p:=λx=> !x) (l:=li.toList) (i:=i) (a:=Q) (by simpa using hR);simp only[aN,Bool.not_false,Bool.not_true,if_true,mI,if_false,Nat.add_zero]at this;simp only[Array.toList_setIfInBounds];omega
structure vD(P:cp)(W:hh)(f:cJ)(all:Array a0)(pl:List (Nat×List Nat))(cq:aT->Bool)(bY:Nat->Nat->Prop)(N:Nat)(b7:Nat->List I)(av:Nat->ad)(b:fs)(aA:Nat->Option Obj)(li:Array Bool)(p:Nat)(k8:Nat->Nat)(m:dw)(a:Act)(w:cQ):Prop where
 le:p<=N
 dY:li.size=all.size
 jK:∀D,D<pl.length->li.getD D T=Q->∀e∈(ep all D).after,j8 .any e=Q->li.getD e.on T=Q
 DC:∀D,D<pl.length->li.getD D T=Q->∀i,bY i D->li.getD i T=Q
 dh:∀k,k<pl.length->li.getD (cI pl k) T=Q->k<p\/rP cq (cx all pl k)=Q
 cC:∀k,k<p->li.getD (cI pl k) T=T->vC P W f all (b7 N) (cx all pl k) (av p)
 iL:∀k,p<=k->k<pl.length->li.getD (cI pl k) T=Q->Yz P all pl aA a m (k8 k) k
 inj:∀k cn,p<=k->p<=cn->k<pl.length->cn<pl.length->li.getD (cI pl k) T=Q->li.getD (cI pl cn) T=Q->k8 k=k8 cn->k=cn
 w:bU P m (av p) w
 t:dp P m (av p) (ns all pl li p (b7 N)) a.tmps
 d:a.defers=b.defers
 D:∀g x,aA g=j x->m.e4 g=j x
theorem vD.pre{aA:Nat->Option Obj}{li:Array Bool}{p:Nat}{k8:Nat->Nat}(bz:kM P W f all pl cq bY N b7 av)(ch:vD P W f all pl cq bY N b7 av b aA li p k8 m a w){i D:Nat}(aa:i<pl.length)(U:D<pl.length)(al:li.getD (cI pl D) T=Q)(aB:rY all bY (cI pl i) (cI pl D)):li.getD (cI pl i) T=Q:=aB.elim (H8 bz.cm ch.jK _ (bz.cm.lt D U) (ch.jK _ (bz.cm.lt D U) al) _ (bz.cm.lt i aa)) (ch.DC _ (bz.cm.lt D U) al _)
theorem vD.Of{aA:Nat->Option Obj}{li:Array Bool}{p:Nat}{k8:Nat->Nat}(bz:kM P W f all pl cq bY N b7 av)(ch:vD P W f all pl cq bY N b7 av b aA li p k8 m a w):∀n,p+n<=N->(∀D,p<=D->D<p+n->li.getD (cI pl D) T=T->ml (W.a2 f) (cx all pl D)=Q)->∃c8,Ext (m.e7 aA) (av p) (c8.e7 aA) (av (p+n))/\vD P W f all pl cq bY N b7 av b aA li (p+n) k8 c8 a w:=by
 intro n;induction n with
 |zero=>exact λ_ _=>⟨m,Ext.refl _ _,ch⟩
 |succ n aW=>
   intro hle bB;obtain⟨c8,b2,hS⟩:=aW (by omega) λD F O=>bB D F (by omega);have Og:=bz.le;have aG:p+n<N:=by omega
   rcases an:li.getD (cI pl (p+n)) T with _|_
   ·have k1:=bB (p+n) (by omega) (by omega) an;have DD:=bz.same aG k1;rw[<-oE,DD];refine⟨c8,b2,⟨by omega,hS.dY,hS.jK,hS.DC,λk Z al=>(hS.dh k Z al).imp (λh=>by omega) id,λk Z au=>?_,λk Z=>hS.iL k (by omega),λk cn Z nn=>hS.inj k cn (by omega) (by omega),by rw[DD];exact hS.w,?_,hS.d,hS.D⟩⟩
    ·rw[DD];rcases mc k (p+n)with h|h
     ·exact hS.cC k h au
     ·obtain rfl:k=p+n:=by omega
      exact bz.late aG k1
    ·rw[DD,Yu (H6:=li) (gy:=p+n) λd=>⟨λah k Z a6=>?_,λah k Z a6=>⟨(ah k Z a6).1,by have:=(ah k Z a6).2;omega⟩⟩]
     ·exact hS.t
     ·obtain⟨bT,bQ⟩:=ah k Z a6;refine⟨bT,?_⟩;have:k≠p+n:=λe=>by rw[e,an]at bT;cases bT
      omega
   ·obtain⟨e,d,kz,u,bG,bD,dE,fl,iS,q7,r1,YE,YF,YG⟩:=hS.iL (p+n) (bV _) (by omega) an;rcases bz.at aG with⟨aJ,_⟩|⟨_,v,a1,bf,_⟩
    ·simp[hy,bD]at aJ
    rcases a1 with⟨_,a1⟩|⟨g,args,fn,a8,_⟩
    ·unfold eK at a1;rw[bG]at a1;simp only[fl,hj,g5,jH]at a1;obtain⟨v1,cW⟩:=a1;obtain⟨cu,fT,jf,lx,mQ,oJ⟩:=hS.w.Yy YF iS q7 (r1 c8 _);rw[cW]at fT jf;have mL:(av (p+n)).n<(av (p+n+1)).n:=by rw[<-cW];simp[ad.push]
     rw[<-oE];refine⟨cu,b2.trans (fT aA),⟨by omega,hS.dY,hS.jK,hS.DC,λk Z al=>(hS.dh k Z al).imp (λh=>by omega) id,λk Z au=>?_,λk Z Ar al=>?_,λk cn Z nn=>hS.inj k cn (by omega) (by omega),jf,?_,hS.d,λg x aX=>?_⟩⟩
     ·have amW:k≠p+n:=λe=>by rw[e,an]at au;cases au
      exact bz.Db (by omega) aG (λaB=>by have:=hS.pre bz (by omega) (by omega) an aB;rw[au]at this;cases this) (hS.cC k (by omega) au)
     ·obtain⟨dC,k7,Au,fj,ed,gJ,jy,q8,ur,gl,gm,yM,vE,Av⟩:=hS.iL k (by omega) Ar al;refine⟨dC,k7,Au,fj,ed,gJ,jy,q8,ur,gl,gm,yM,?_,Av⟩;rw[oJ];simp only;rw[if_neg λe=>by have:=hS.inj k (p+n) (by omega) (bV _) Ar (by omega) al an e;omega];exact vE
     ·refine dp.of (by rw[hS.t.1,lv,lv]) λq qZ=>?_;have w9:q<(b7 N).length:=by rw[lv]at qZ;exact qZ
      by_cases ah:f9 all pl li (p+n+1) q
      ·rw[q5 ah];by_cases DE:q=d
       ·subst DE;rw[bf q dE w9,YG (by rw[hS.t.1,lv];exact w9),<-v1];split
        ·have:=bI.e2 (P:=P) (m:=cu) (h:=av (p+n+1)) e (av (p+n)).n mL mQ;rwa [lx]at this
        ·have:=bI.ptr (P:=P) (m:=cu) (h:=av (p+n+1)) (av (p+n)).n 0 0 mL;rw[lx]at this;simpa using this
       ·have H':f9 all pl li (p+n) q:=λk Z a6=>by
         obtain⟨bT,bQ⟩:=ah k Z a6;refine⟨bT,?_⟩;have:k≠p+n:=λe=>by rw[e,dE]at a6;injection a6 with a6;exact DE a6.symm
         omega
        have:=hS.t.slot (d:=q) (by rw[lv];exact w9);rw[q5 H']at this;exact bI.by (fT aA) this
      ·rw[yK ah];exact .aP _
     ·rw[oJ];simp only;rw[if_neg λe=>by rw[e,YE]at aX;cases aX];exact hS.D g x aX
    ·simp[eW,bG]at a8
theorem Oh{E:a0}{t:List I}{h J:ad}{v:I}(au:rP cq E=Q)(av:vB P all E t h v J):False:=by
 obtain⟨e,d,F,_⟩:=H9 au;obtain⟨_,⟨O,_⟩|⟨g,args,fn,O,_⟩⟩:=av
 ·simp[lQ,F]at O
 ·simp[eW,F]at O
theorem Oi{S:Nat->Bool}{aA:Nat->Option Obj}{Y:List Nat}(cl:∀d,S d=Q->∀k,k<pl.length->(cx all pl k).dst≠j d)(cX:k6 P W)(Ia:∀e,e<2000000->cq e=Q->(jv P e).isSome=Q)(bz:kM P W f all pl cq bY N b7 av)(lV:N=pl.length\/∃v J,N<pl.length/\vB P all (cx all pl N) (b7 N) (av N) v J/\r=(.panic v,b7 N,J))(Ib:N=pl.length->∀c8 dm aJ,bU P c8 (av N) dm->dp P c8 (av N) (b7 N) aJ.tmps->aJ.defers=b.defers->dX P S c8 (av N) dm b cs (ej (b.at aJ (.inRegion all Y::K)) cs dm) r):∀(L:List Nat) (li:Array Bool) (p:Nat) (k8:Nat->Nat) (m:dw) (a:Act) (w:cQ),w7 pl.length all bY li L->vD P W f all pl cq bY N b7 av b aA li p k8 m a w->dX P S (m.e7 aA) (av p) w b cs (ej (b.at a (.inRegion all (L++Y)::K)) cs w) r:=by
 have pp:=bz.cm;have hle:=bz.le;intro L;induction L with
 |nil=>
   intro li p k8 m a w Ic ch;have Ie:∀i,i<pl.length->li.getD i T=Q:=by
    cases Ic with
    |nil _ h=>exact h
   have eZ:N=pl.length:=by
    rcases lV with h|⟨v,J,af,aw,_⟩
    ·exact h
    ·rcases ch.dh N af (Ie _ (pp.lt N af))with h|h
     ·have:=ch.le;omega
     ·exact(Oh h aw).elim
   have aB:=ch.le;obtain⟨c8,b2,hS⟩:=ch.Of bz (N - p) (by omega) λD F O au=>by rw[Ie _ (pp.lt D (by omega))]at au;cases au
   rw[show p+(N - p)=N by omega]at b2 hS;have i2:ns all pl li N (b7 N)=b7 N:=by apply List.ext_getElem (by rw[lv]);intro d af aw;have:=q5 (all:=all) (pl:=pl) (li:=li) (p:=N) (e0:=b7 N) (d:=d) (λk Z _=>⟨Ie _ (pp.lt k Z),by omega⟩);simpa[cK,af,aw]using this
   have aL:=hS.t;rw[i2]at aL;exact dX.after b2 (k0 _ _) (Ib eZ _ w a (hS.w.e7 hS.D) aL.e7 hS.d)
 |cons i L aW=>
   intro li p k8 m a w Ic ch;show dX P S (m.e7 aA) (av p) w b cs (ej (b.at a (.inRegion all (i::(L++Y))::K)) cs w) r;cases Ic with
   |cons _ _ _ eb At As eo Dk=>
   obtain⟨E,p0⟩:∃E,ep all i=E:=⟨_,rfl⟩;have am:all[i]? =j E:=by rw[<-p0];exact ta (eL eb pp.size)
   rw[p0]at As;obtain⟨k,Z,rfl⟩:=pp.cover i eb;have pj:cx all pl k=E:=p0;have hR:cI pl k<li.size:=by rw[ch.dY];exact eL eb pp.size
   have nr:=H8 pp ch.jK (cI pl k) eb (by rw[p0];exact As);have DF:∀D,D<pl.length->rY all bY (cI pl D) (cI pl k)->li.getD (cI pl D) T=Q:=λD U h=>h.elim (nr _ (pp.lt D U)) (eo _);have cO:∀D,D<pl.length->D≠k->cI pl D≠cI pl k:=by
    intro D U jJ e;rcases mc D k with h|h
    ·exact pp.ne D k h Z e
    ·exact pp.ne k D (by omega) U e.symm
   have Oj:∀D,D<pl.length->(li.setIfInBounds (cI pl k) Q).getD D T=Q->∀e∈(ep all D).after,j8 .any e=Q->(li.setIfInBounds (cI pl k) Q).getD e.on T=Q:=by
    intro D U dB e he ai;rw[jI hR]at dB;by_cases r2:D=cI pl k
    ·subst r2;exact getD_set_true (As e (by rw[<-p0];exact he) ai)
    ·rw[if_neg r2]at dB;exact getD_set_true (ch.jK D U dB e he ai)
   have Ok:∀D,D<pl.length->(li.setIfInBounds (cI pl k) Q).getD D T=Q->∀i,bY i D->(li.setIfInBounds (cI pl k) Q).getD i T=Q:=by
    intro D U dB i he;rw[jI hR]at dB;by_cases r2:D=cI pl k
    ·subst r2;exact getD_set_true (eo i he)
    ·rw[if_neg r2]at dB;exact getD_set_true (ch.DC D U dB i he)
   by_cases uh:rP cq (cx all pl k)=Q
   ·
    obtain⟨e,d,bG,bD,dE,fl,iS⟩:=H9 uh;have mm:p<=k:=by
     rcases mc k p with h|h
     ·have:=(ch.cC k h At).1;rw[YA uh]at this;cases this
     ·exact h
    obtain⟨kz,aN⟩:=Option.isSome_iff_exists.1 (Ia e iS fl);obtain⟨u,ls,mi,Aw,YH⟩:=YB cX.ty (cx all pl k) e bG aN a w;have jj:Region.wanted E (yielded all a.tmps)=Q:=by have:=vA ch.t all (cx all pl k) (x:=Q) (by simp[hy,bD]);rwa [pj]at this
    rw[pj]at ls;refine dX.steps (HV am jj (.inl ls)) ?_;refine dX.after (dm:=w.alloc (.cells u e)) (c8:=(m.e7 λg=>if g=w.heap.size then j (.cells u e)else m.e4 g).e7 aA) (F:=av p) (Ext.refl (m.e7 aA) _) ((k0 _ _).alloc ch.w.size (.cells u e)) ?_;have Ol:∀g x,aA g=j x->g≠w.heap.size:=λg x aX e=>by have:=ch.w.sW (ch.D g x aX);omega
    have yC:∀D k7,D<pl.length->D≠k->(cx all pl D).dst=j k7->k7≠d:=by
     intro D k7 U jJ a6 e;subst e;rcases mc D k with h|h
     ·exact(pp.dst D k k7 h Z dE).2 a6
     ·exact(pp.dst k D k7 (by omega) U a6).2 dE
    rw[<-pj,dE];refine aW _ p (λD=>if D=k then w.heap.size else k8 D) _ _ _ Dk ⟨ch.le,by simpa using ch.dY,Oj,Ok,λD U al=>?_,λD U al=>?_,λD U dB al=>?_,λD nq U cS dB yN al hl he=>?_,ch.w.aP _,?_,by rw[Act.yL];exact ch.d,λg x aX=>?_⟩
    ·by_cases jJ:D=k
     ·subst jJ;exact .inr uh
     ·rw[jI hR,if_neg (cO D U jJ)]at al;exact ch.dh D U al
    ·have jJ:D≠k:=by omega
     rw[jI hR,if_neg (cO D (by have:=ch.le;omega) jJ)]at al;exact ch.cC D U al
    ·by_cases jJ:D=k
     ·subst jJ;refine⟨e,d,kz,u,bG,bD,dE,aN,mi,Aw,YH,?_,?_,λa6=>?_⟩
      ·rw[if_pos rfl];rcases an:aA w.heap.size with _|x
       ·rfl
       ·exact absurd rfl (Ol _ x an)
      ·simp[dw.e7]
      ·simp[Act.put]at a6;simp[Act.put,hB,a6]
     ·rw[jI hR,if_neg (cO D dB jJ)]at al;obtain⟨dC,k7,Au,fj,ed,gJ,jy,q8,ur,gl,gm,yM,vE,Av⟩:=ch.iL D U dB al;have bh:=ch.w.sW vE;refine⟨dC,k7,Au,fj,ed,gJ,jy,q8,ur,gl,gm,by rw[if_neg jJ];exact yM,?_,λa6=>?_⟩
      ·rw[if_neg jJ];show(if k8 D=w.heap.size then _ else m.e4 (k8 D))=_;rw[if_neg (by omega)];exact vE
      ·rw[if_neg jJ,Act.H7 λe=>yC D k7 dB jJ jy (by injection e with e;exact e.symm)];exact Av (by simpa[Act.put]using a6)
    ·have p7:∀q,p<=q->q<pl.length->q≠k->(li.setIfInBounds (cI pl k) Q).getD (cI pl q) T=Q->k8 q<w.heap.size:=λq F O af aw=>by rw[jI hR,if_neg (cO q O af)]at aw;obtain⟨_,_,_,_,_,_,_,_,_,_,_,_,vE,_⟩:=ch.iL q F O aw;exact ch.w.sW vE
     by_cases F:D=k<;>by_cases O:nq=k
     ·omega
     ·simp only[F,O,if_true,if_false]at he;have:=p7 nq cS yN O hl;omega
     ·simp only[F,O,if_true,if_false]at he;have:=p7 D U dB F al;omega
     ·simp only[F,O,if_false]at he;rw[jI hR,if_neg (cO D dB F)]at al;rw[jI hR,if_neg (cO nq yN O)]at hl;exact ch.inj D nq U cS dB yN al hl he
    ·refine dp.of (by simp[Act.put];rw[ch.t.1,lv,lv]) λq aG=>?_;have w9:q<(b7 N).length:=by rw[lv]at aG;exact aG
     by_cases ah:f9 all pl (li.setIfInBounds (cI pl k) Q) p q
     ·rw[q5 ah];have DE:q≠d:=λe=>by have:=(ah k Z (by rw[dE,e])).2;omega
      have H':f9 all pl li p q:=λD U a6=>by
       obtain⟨bT,bQ⟩:=ah D U a6;have jJ:D≠k:=by omega
       rw[jI hR,if_neg (cO D U jJ)]at bT;exact⟨bT,bQ⟩
      have:=ch.t.slot (d:=q) (by rw[lv];exact w9);rw[q5 H']at this;rw[Act.H7 λe=>DE (by injection e with e;exact e.symm)];exact this.e7
     ·rw[yK ah];exact .aP _
    ·show(if g=w.heap.size then _ else m.e4 g)=_;rw[if_neg (Ol g x aX)];exact ch.D g x aX
   ·
    have amX:k<=N:=by
     rcases lV with h|⟨v,J,af,aw,bg⟩
     ·omega
     ·rcases mc N k with bh|rQ
      ·have YI:ml (W.a2 f) (cx all pl N)≠Q:=by
        intro bB;obtain⟨_,⟨aj,_⟩|⟨g,args,fn,aj,_⟩⟩:=aw
        ·unfold lQ at aj;split at aj
         ·rename_i x rV;simp[ml,lR,rV]at bB
         ·cases aj
        ·rw[Od bB]at aj;cases aj
       rcases ch.dh N af (DF N af (((pp.still N k bh Z).resolve_left λh=>YI (H3 bz.Aq h)).resolve_left uh))with h|h
       ·have:=ch.le;omega
       ·exact(Oh h aw).elim
      ·exact rQ
    have main:∀(p:Nat) (m:dw),vD P W f all pl cq bY N b7 av b aA li p k8 m a w->k<=p->dX P S (m.e7 aA) (av p) w b cs (ej (b.at a (.inRegion all (cI pl k::(L++Y))::K)) cs w) r:=by
     intro p m ch mm;have hw:=ch.w;have aL:=ch.t;have a6:=ch.d;have aB:=ch.le;have p5:=Yx (e0:=b7 N) pp Z mm DF;have n2:∀(gy:Nat) (aR:dw) (aV:cQ) (v:I) (fj:bK),k<gy->p<=gy->gy<=N->(∀D,p<=D->D<gy->D=k)->Ext m (av p) aR (av gy)->bU P aR (av gy) aV->Below m.base w aV->bI P aR (av gy) v fj->uq (b7 N) (cx all pl k) v->(∀D,D<gy->D≠k->li.getD (cI pl D) T=T->vC P W f all (b7 N) (cx all pl D) (av gy))->Steps P (ej (b.at a (.inRegion all (cI pl k::(L++Y))::K)) cs w) (ej (b.at (a.put E.dst fj) (.inRegion all (L++Y)::K)) cs aV)->dX P S (m.e7 aA) (av p) w b cs (ej (b.at a (.inRegion all (cI pl k::(L++Y))::K)) cs w) r:=by
      intro gy aR aV v fj amY DA YJ n3 an kA pe R jW YK bB;refine dX.steps bB (dX.after (an.e7 aA) pe ?_);refine aW _ gy k8 aR _ aV Dk ⟨YJ,by simpa using ch.dY,Oj,Ok,λD U dB=>?_,λD U dB=>?_,λD U dB al=>?_,λD nq U cS dB yN al hl=>?_,kA,?_,by rw[Act.yL];exact a6,λg x aX=>an.e4 g x (ch.D g x aX)⟩
      ·by_cases jJ:D=k
       ·exact .inl (by omega)
       ·rw[jI hR,if_neg (cO D U jJ)]at dB;exact(ch.dh D U dB).imp (λh=>by omega) id
      ·rw[jI hR]at dB;by_cases jJ:D=k
       ·subst jJ;simp at dB
       ·rw[if_neg (cO D (by omega) jJ)]at dB;exact YK D U jJ dB
      ·have jJ:D≠k:=by omega
       rw[jI hR,if_neg (cO D dB jJ)]at al;obtain⟨dC,k7,Au,fj,ed,gJ,jy,q8,ur,gl,gm,yM,vE,Av⟩:=ch.iL D (by omega) dB al;refine⟨dC,k7,Au,fj,ed,gJ,jy,q8,ur,gl,gm,yM,an.e4 _ _ vE,λmh=>?_⟩;have YL:E.dst≠j k7:=λe=>by rw[<-pj]at e;exact(pp.dst k D k7 (by omega) dB jy).2 e
       rw[Act.H7 YL];refine Av ?_;cases Om:E.dst with
       |none=>rw[Om]at mh;exact mh
       |some x=>rw[Om]at mh;simpa[Act.put]using mh
      ·have F:D≠k:=by omega
       have O:nq≠k:=by omega
       rw[jI hR,if_neg (cO D dB F)]at al;rw[jI hR,if_neg (cO nq yN O)]at hl;exact ch.inj D nq (by omega) (by omega) dB yN al hl
      ·rw[<-pj];exact Yv pp Z hR DA (λD F O af=>absurd (n3 D F O) af) an aL R jW
     have Ax:∀{x:Bool},hy all (b7 N) (cx all pl k)=j x->Region.wanted E (yielded all a.tmps)=x:=λjj=>by have:=vA aL all (cx all pl k) (by rw[Dy p5];exact jj);rwa [pj]at this
     have On:∀{J:ad} {v:I},hy all (b7 N) (cx all pl k)=j Q->eK P (W.a2 f) (b7 N) (av p) (cx all pl k)=j (v,J)->∀(gy:Nat),av gy=J->k<gy->p<=gy->gy<=N->(∀D,p<=D->D<gy->D=k)->uq (b7 N) (cx all pl k) v->(∀D,D<gy->D≠k->li.getD (cI pl D) T=T->vC P W f all (b7 N) (cx all pl D) (av gy))->dX P S (m.e7 aA) (av p) w b cs (ej (b.at a (.inRegion all (cI pl k::(L++Y))::K)) cs w) r:=by intro J v jj ul gy vy bN bL c2 r3 fm nu;subst vy;have Ig:=ul;rw[<-N9 (W.a2 f) p5]at Ig;rw[pj]at Ig;obtain⟨aR,aV,fj,d1,d2,d3,d4,d5⟩:=NX cX.ty hw aL (W.a2 f) Ig;exact n2 gy aR aV v fj bN bL c2 r3 d2 d3 d5 d4 fm nu (HV am (Ax jj) d1)
     have Oo:∀(gy:Nat),av gy=av p->hy all (b7 N) (cx all pl k)=j T->k<gy->p<=gy->gy<=N->(∀D,p<=D->D<gy->D=k)->uq (b7 N) (cx all pl k) (.bW [])->(∀D,D<gy->D≠k->li.getD (cI pl D) T=T->vC P W f all (b7 N) (cx all pl D) (av gy))->dX P S (m.e7 aA) (av p) w b cs (ej (b.at a (.inRegion all (cI pl k::(L++Y))::K)) cs w) r:=by intro gy vy jj bN bL c2 r3 fm nu;exact n2 gy m w (.bW []) fg bN bL c2 r3 (by rw[vy];exact Ext.refl _ _) (by rw[vy];exact hw) (k0 _ _) bI.Hr fm nu (HW am (Ax jj))
     rcases mc k p with DG|DG
     ·obtain⟨_,cC⟩:=ch.cC k DG At;rcases cC with⟨cC,iL⟩|⟨cC,v,iL,uk⟩
      ·exact Oo p rfl cC DG (bV _) aB (λD F O=>by omega) iL (λD U _ au=>ch.cC D U au)
      ·exact On cC iL p rfl DG (bV _) aB (λD F O=>by omega) uk (λD U _ au=>ch.cC D U au)
     ·obtain rfl:p=k:=by omega
      have DH:∀{g args fn x J},eW (b7 N) (cx all pl p)=j (g,args)->P.funcs[g]? =j fn->(fn.body.isNone=T/\(fn.name== "runtime.NumGoroutine")=T)->AC P g args (av p) (x,J)->hy all (b7 N) (cx all pl p)=j Q->∃br:List bK,dj P m (av p) args br/\(eG a.eval E).run P w= .ok (.enter g br.toArray) w:=by intro g args fn x J a8 bZ b' du fk;have Oq:=a8;rw[<-H0 p5,pj]at Oq;exact Dw aL Oq bZ b'.2 b'.1
      rcases mc p N with yO|yO
      ·have bh:∀D,D<p+1->D≠p->li.getD (cI pl D) T=T->vC P W f all (b7 N) (cx all pl D) (av (p+1)):=by intro D U jJ au;refine bz.Db (by omega) yO ?_ (ch.cC D (by omega) au);intro an;have:=DF D (by omega) an;rw[au]at this;cases this
       have Ih:∀D,p<=D->D<p+1->D=p:=λD F O=>by omega
       rcases bz.at yO with⟨aJ,a1,bf⟩|⟨aJ,v,a1,bf,cv⟩
       ·exact Oo (p+1) bf aJ (by omega) (by omega) yO Ih a1 bh
       ·rcases a1 with⟨_,a1⟩|⟨g,args,fn,a8,bZ,b',du⟩
        ·exact On aJ a1 (p+1) rfl (by omega) (by omega) yO Ih bf bh
        ·obtain⟨br,v1,cW⟩:=DH a8 bZ b' du aJ;have hq:=du m w br hw v1;obtain⟨e,aV,jk,bB⟩:=Ap (b:=b) (cs:=cs) (k:=K) (rest:=L++Y) am (Ax aJ) cW hq (by rintro aV ⟨aR,_,_,_,fj,h,_⟩;cases h);obtain⟨aR,b2,ds,fb,fj,gU,gz⟩:=jk;subst gU;rcases bB with⟨bu,af,aw⟩|⟨kb,af,_⟩
         ·injection af with af;subst af;exact n2 (p+1) aR aV v fj (by omega) (by omega) yO Ih b2 ds fb gz bf bh aw
         ·cases af
      ·obtain rfl:p=N:=by omega
       have Ot:∀d,S d=Q->(ns all pl li p (b7 p)).getD d .aP=(b7 p).getD d .aP:=λd a6=>q5 λD U w6=>absurd w6 (cl d a6 D U);rcases lV with h|⟨v,J,af,⟨aw,⟨a8,bZ⟩|⟨g,args,fn,a8,bZ,b',du⟩⟩,bg⟩
       ·omega
       ·rw[<-Yi p5,pj]at a8;obtain⟨fj,b2,ds⟩:=N4 (w:=w) aL a8;rw[bg,bZ];exact⟨m.e7 aA,w,Ext.refl _ _,hw.e7 ch.D,k0 _ _,a,_,fj,⟨_,aL.e7,Ot⟩,a6,b2.e7,N5 am (Ax aw) ds⟩
       ·obtain⟨br,v1,cW⟩:=DH a8 bZ b' du aw;have hq:=du m w br hw v1;obtain⟨e,aV,jk,bB⟩:=Ap (b:=b) (cs:=cs) (k:=K) (rest:=L++Y) am (Ax aw) cW hq (by rintro aV ⟨aR,_,_,_,fj,h,_⟩;cases h);obtain⟨aR,b2,ds,fb,fj,gU,gz⟩:=jk;subst gU;rcases bB with⟨bu,cj,_⟩|⟨kb,cj,todo,cT⟩
        ·cases cj
        ·injection cj with cj;subst cj;rw[bg];exact⟨aR.e7 aA,aV,b2.e7 aA,ds.e7 λg x aX=>b2.e4 g x (ch.D g x aX),fb,a,todo,fj,⟨_,(aL.ext b2).e7,Ot⟩,a6,gz.e7,cT⟩
    rcases mc k p with h|h
    ·exact main p m ch (by omega)
    ·obtain⟨c8,b2,hS⟩:=ch.Of bz (k - p) (by omega) λD F O au=>by
      rcases pp.still D k (by omega) Z with h|h|h
      ·exact H3 bz.Aq h
      ·exact absurd h uh
      ·rw[DF D (by omega) h]at au;cases au
     rw[show p+(k - p)=k by omega]at b2 hS;exact dX.after b2 (k0 _ _) (main k c8 hS (bV _))
theorem Ou{S:Nat->Bool}{aA:Nat->Option Obj}(hlen:pl.length=all.size)(cl:∀d,S d=Q->∀k,k<pl.length->(cx all pl k).dst≠j d)(cX:k6 P W)(Ia:∀e,e<2000000->cq e=Q->(jv P e).isSome=Q)(bz:kM P W f all pl cq bY N b7 av)(lV:N=pl.length\/∃v J,N<pl.length/\vB P all (cx all pl N) (b7 N) (av N) v J/\r=(.panic v,b7 N,J))(Ib:N=pl.length->∀c8 dm aJ,bU P c8 (av N) dm->dp P c8 (av N) (b7 N) aJ.tmps->aJ.defers=b.defers->dX P S c8 (av N) dm b cs (ej (b.at aJ K) cs dm) r):∀(L:List Nat) (li:Array Bool) (p:Nat) (k8:Nat->Nat) (m:dw) (a:Act) (w:cQ),kN all bY li L->vD P W f all pl cq bY N b7 av b aA li p k8 m a w->dX P S (m.e7 aA) (av p) w b cs (ej (b.at a (.inRegion all L::K)) cs w) r:=by intro L li p k8 m a w dH ch;have:=Oi (Y:=[]) cl cX Ia bz lV (λeZ c8 dm aJ bN bL c2=>dX.steps (.one step_region_end) (Ib eZ c8 dm aJ bN bL c2)) L li p k8 m a w (by rw[hlen];exact dH) ch;rwa [q9]at this
end
open Go Go.RowKit
theorem ut(e cs:List I)(off D:Nat)(hle:off+cs.length<=e.length):(dt e off cs)[D]? =if off<=D/\D<off+cs.length then cs[D - off]? else e[D]? :=by
 unfold dt;have F:(e.take off).length=off:=by simp;omega
 by_cases U:D<off
 ·rw[if_neg (by omega),kv,mJ (by omega),rW U]
 ·rw[kv,pY (by omega),F];by_cases pX:D<off+cs.length
  ·rw[if_pos (by omega),mJ (by omega)]
  ·rw[if_neg (by omega),pY (by omega),List.getElem?_drop];congr 1;omega
theorem w'(e cs:List I)(off:Nat)(hle:off+cs.length<=e.length):(dt e off cs).length=e.length:=by unfold dt;simp;omega
theorem YM{agg:Bool}{n off nv:Nat}{e dZ:List I}{x:I}(F:x.cells.all I.one=Q)(O:x.cells.length=n)(au:n≠0)(hle:off+n<=e.length)(bF:dZ.all I.one=Q)(Og:nv+dZ.length<=e.length)(al:gG agg n (dt (dt e off x.cells) nv dZ) off=j x):∀D,D<n->(dt (dt e off x.cells) nv dZ)[off+D]? =x.cells[D]? :=by
 have dh:=w' e x.cells off (by omega);have cC:=w' (dt e off x.cells) dZ nv (by omega);unfold gG at al;split at al
 ·rename_i rT;rw[if_pos (by omega)]at al;injection al with al;intro D U;have aj:=congrArg I.cells al;generalize dt (dt e off x.cells) nv dZ=dG at aj ⊢;rw[<-aj];simp only[I.cells];rw[rW U,List.getElem?_drop]
 ·intro D U;have An:x.one=Q:=by
   have g:(dt (dt e off x.cells) nv dZ)[off]? =j x:=al;rw[ut _ _ _ _ (by omega)]at g;split at g
   ·exact iR.1 bF x (p6 g)
   ·rw[ut _ _ _ _ (by omega),if_pos (by omega),Nat.sub_self]at g;exact iR.1 F x (p6 g)
  have aj:x.cells=[x]:=by cases x<;>first|rfl|(simp[I.one]at An)
  rw[aj]at O;have p3:D=0:=by simp at O;omega
  subst p3;rw[Nat.add_zero,al,aj];rfl
theorem YN{n off nv:Nat}{e xs dZ:List I}(O:xs.length=n)(hle:off+n<=e.length)(Og:nv+dZ.length<=e.length)(al:∀D,D<n->(dt (dt e off xs) nv dZ)[off+D]? =xs[D]?):dt (dt e nv dZ) off xs=dt (dt e off xs) nv dZ:=by
 have dh:=w' e xs off (by omega);have cC:=w' e dZ nv (by omega);refine List.ext_getElem? λD=>?_;by_cases U:off<=D/\D<off+xs.length
 ·have:=al (D - off) (by omega);rw[show off+(D - off)=D by omega]at this;rw[this,ut _ _ _ _ (by omega),if_pos U]
 ·rw[ut _ _ _ _ (by omega),if_neg U,ut _ _ _ _ (by omega),ut _ _ _ _ (by omega)];split
  ·rfl
  ·rw[ut _ _ _ _ (by omega),if_neg U]
theorem Ov{n:Nat}{h:ad}{a x:I}{F:ad}(av:ew n h a x=j F):∃b i off es e,(∀agg k h,c0 agg k h a=c0 agg k h (.ptr b i off))/\(∀k h y,ew k h a y=ew k h (.ptr b i off) y)/\h.cell b=j es/\es[i]? =j e/\x.cells.all I.one=Q/\x.cells.length=n/\off+n<=e.length/\F=h.set b (j (es.set i (dt e off x.cells))):=by
 have key:∀b i off,ew n h (.ptr b i off) x=j F->∃es e,h.cell b=j es/\es[i]? =j e/\x.cells.all I.one=Q/\x.cells.length=n/\off+n<=e.length/\F=h.set b (j (es.set i (dt e off x.cells))):=by
  intro b i off av;unfold ew at av;simp only[c']at av;obtain⟨es,O,e,af,aw⟩:=av;split at aw
  ·rename_i aj;injection aw with aw;exact⟨es,e,O,af,aj.1,aj.2.1,aj.2.2,aw.symm⟩
  ·cases aw
 cases a with
 |ptr b i off=>obtain⟨es,e,q⟩:=key b i off av;exact⟨b,i,off,es,e,λ_ _ _=>rfl,λ_ _ _=>rfl,q⟩
 |e2 t b=>obtain⟨es,e,q⟩:=key b 0 0 av;exact⟨b,0,0,es,e,λ_ _ _=>rfl,λ_ _ _=>rfl,q⟩
 |_=>cases av
theorem lW{n:Nat}{h:ad}{b i off:Nat}{x:I}{es:List (List I)}{e:List I}(F:h.cell b=j es)(O:es[i]? =j e)(af:x.cells.all I.one=Q)(aw:x.cells.length=n)(bg:off+n<=e.length):ew n h (.ptr b i off) x=j (h.set b (j (es.set i (dt e off x.cells)))):=by unfold ew;simp only[F,c7,O];rw[if_pos ⟨af,aw,bg⟩]
theorem ad.DI{h:ad}{b:Nat}{es:Option (List (List I))}:(h.set b es).cell b=es:=by simp[ad.set]
theorem ad.Ow{h:ad}{b D:Nat}{es:Option (List (List I))}(U:D≠b):(h.set b es).cell D=h.cell D:=by simp[ad.set,U]
theorem ad.DJ{h:ad}{b:Nat}{x y:Option (List (List I))}:(h.set b x).set b y=h.set b y:=by simp only[ad.set,ad.mk.injEq,and_true,true_and];funext k;split<;>simp_all
theorem ad.YO{h:ad}{a b:Nat}(cO:a≠b)(x y:Option (List (List I))):(h.set a x).set b y=(h.set b y).set a x:=by
 simp only[ad.set,ad.mk.injEq,and_true,true_and];funext k;by_cases F:k=a
 ·subst F;simp[cO]
 ·simp[F]
theorem YP{n bS:Nat}{h F O:ad}{a x dO y:I}{agg:Bool}(au:n≠0)(a4:ew n h a x=j F)(bn:ew bS F dO y=j O)(al:c0 agg n O a=j x):∃mP,ew bS h dO y=j mP/\ew n mP a x=j O:=by
 obtain⟨b,i,off,es,e,YQ,YR,a8,bZ,b',du,fk,rfl⟩:=Ov a4;obtain⟨e5,h',nv,fL,dC,_,Ii,d1,d2,d3,d4,d5,rfl⟩:=Ov bn;rw[YQ]at al;simp only[YR,Ii];have aa:i<es.length:=(gg.1 bZ).1;by_cases ai:e5=b
 ·subst ai;rw[ad.DI]at d1;injection d1 with d1;subst d1;by_cases DK:h'=i
  ·subst DK;rw[List.getElem?_set_self aa]at d2;injection d2 with d2;subst d2;have dh:=w' e x.cells off (by omega);have HY:gG agg n (dt (dt e off x.cells) nv y.cells) off=j x:=by have:c0 agg n _ (.ptr e5 h' off)=j x:=al;simp only[c0,ad.row,ad.DI,c7]at this;rw[List.set_set,List.getElem?_set_self aa]at this;exact this
   have yx:=YM b' du au fk d3 (by omega) HY;have YS:=YN du fk (by omega) yx;refine⟨_,lW a8 bZ d3 d4 (by omega),?_⟩;rw[lW (es:=es.set h' (dt e nv y.cells)) (e:=dt e nv y.cells) ad.DI (List.getElem?_set_self aa) b' du (by rw[w' _ _ _ (by omega)];exact fk)];rw[ad.DJ,ad.DJ,List.set_set,List.set_set,YS]
  ·rw[s' (kw DK)]at d2;refine⟨_,lW a8 d2 d3 d4 d5,?_⟩;rw[lW (es:=es.set h' (dt dC nv y.cells)) (e:=e) ad.DI (by rw[s' DK];exact bZ) b' du fk];rw[ad.DJ,ad.DJ,List.set_comm _ _ DK]
 ·rw[ad.Ow ai]at d1;refine⟨_,lW d1 d2 d3 d4 d5,?_⟩;rw[lW (es:=es) (e:=e) (by rw[ad.Ow (kw ai)];exact a8) bZ b' du fk];rw[ad.YO ai]
section
variable{P:cp}{W:hh}{f:cJ}{n aI:Nat}{aY:List Nat}{h J:ad}{t V fB:List I}{all:Array a0}{pl:List (Nat×List Nat)}{bY:Nat->Nat->Prop}
abbrev lX(all:Array a0):Array Bool:=Array.replicate all.size T
theorem Ij(cX:k6 P W)(pp:rZ all pl (λ_=>T) bY)(mm:yr (W.e3 f) all=Q){e:Option I}{cV:List I}(aB:mO P W f all (iK Q all pl) t h e cV J){b:fs}{cs:List fs}{K:List Item}{r:jd×List I×ad}(gs:e=ab->∀(c8:dw) (dm:cQ) (aJ:Act),bU P c8 J dm->dp P c8 J cV aJ.tmps->aJ.defers=b.defers->dX P (W.e3 f) c8 J dm b cs (ej (b.at aJ K) cs dm) r)(n6:∀v,e=j v->r=(.panic v,cV,J)){L:List Nat}(dH:kN all bY (lX all) L){m:dw}{w:cQ}{a:Act}(hw:bU P m h w)(aL:dp P m h t a.tmps)(a6:a.defers=b.defers):dX P (W.e3 f) m h w b cs (ej (b.at a (.inRegion all L::K)) cs w) r:=by
 have cl:∀d,W.e3 f d=Q->∀k,k<pl.length->(cx all pl k).dst≠j d:=λd a6 k Z e=>by have bh:=pp.lt k Z;have hm:=iR.1 mm (cx all pl k) (Array.mem_toList_iff.2 (Array.mem_of_getElem? (ta bh)));rw[e]at hm;simp[a6]at hm
 obtain⟨N,b7,av,F,O,af,aw,bg,cj⟩:=aB.trace;have hlen:(iK Q all pl).length=pl.length:=by simp[iK]
 have p8:∀i,i<pl.length->(iK Q all pl)[i]? =j (cx all pl i,(q4 pl i).map (ep all)):=by
  intro i aa;simp only[iK,if_true,s6,fz aa,hj,g5];have ao:pl.getD i default=pl[i]:=by simp[cK,aa]
  simp only[cx,ep,cI,q4,ao];rfl
 have bz:kM P W f all pl (λ_=>T) bY N b7 av:=⟨pp.toQ,by omega,(λ_ h=>by cases h),λi aa=>bg i _ aa (p8 i (by omega))⟩;subst O;subst af;subst aw;have ug:m=m.e7 m.e4:=rfl;rw[ug];refine Ou (S:=W.e3 f) (aA:=m.e4) pp.len cl (r:=r) (K:=K) (b:=b) (cs:=cs) cX (λe _ he=>by cases he) bz ?_ ?_ _ (lX all) 0 (λ_=>0) m a _ dH ⟨k4 _,by simp,λD U dB=>?_,λD U dB=>?_,λD U dB=>?_,λD U=>by omega,λD _ U dB=>?_,λD nq _ _ U cS dB=>?_,hw,?_,a6,λ_ _ h=>h⟩
 ·cases e with
  |none=>exact .inl (by omega)
  |some v=>
    obtain⟨q,aG,bB⟩:=cj;have eZ:N<pl.length:=by have:=(gg.1 aG).1;omega
    rw[p8 N eZ]at aG;injection aG with aG;subst aG;exact .inr ⟨v,J,eZ,bB,n6 v rfl⟩
 ·intro eZ c8 dm aJ bN bL c2;cases e with
  |none=>obtain⟨_,cj⟩:=cj;subst cj;exact gs rfl c8 dm aJ bN bL c2
  |some v=>obtain⟨q,aG,bB⟩:=cj;have:=(gg.1 aG).1;omega
 ·rw[pp.len]at U;simp[hB,U]at dB
 ·rw[pp.len]at U;simp[hB,U]at dB
 ·have:=pp.lt D U;simp[hB,this]at dB
 ·have:=pp.lt D U;simp[hB,this]at dB
 ·have:=pp.lt D U;simp[hB,this]at dB
 ·have al:=bz.len 0 (k4 _);refine dp.of (by rw[lv,<-al];exact aL.1) λd yP=>?_;have Ay:d<(b7 0).length:=by rw[lv]at yP;omega
  by_cases r4:f9 all pl (lX all) 0 d
  ·rw[q5 r4];have bm:=bz.fH d 0 N (by omega) (λD _ U he=>by
    have dB:D<pl.length:=by omega
    have:=(r4 D dB he).2;omega)
   rw[hk]at bm;rw[bm];exact aL.slot Ay
  ·rw[yK r4];exact .aP _
theorem Ox(cX:k6 P W){Y:List Nat}(pp:s7 all pl (Ab (W.e3 f)) λ_ _=>False)(mm:yr (W.e3 f) all=Q){e:Option I}{cV:List I}(aB:mO P W f all (iK Q all pl) t h e cV J){b:fs}{cs:List fs}{K:List Item}{r:jd×List I×ad}(gs:e=ab->∀(c8:dw) (dm:cQ) (aJ:Act),bU P c8 J dm->dp P c8 J cV aJ.tmps->aJ.defers=b.defers->dX P (W.e3 f) c8 J dm b cs (ej (b.at aJ (.inRegion all Y::K)) cs dm) r)(n6:∀v,e=j v->r=(.panic v,cV,J)){L:List Nat}(dH:w7 pl.length all (λ_ _=>False) (lX all) L){m:dw}{w:cQ}{a:Act}(hw:bU P m h w)(aL:dp P m h t a.tmps)(a6:a.defers=b.defers):dX P (W.e3 f) m h w b cs (ej (b.at a (.inRegion all (L++Y)::K)) cs w) r:=by
 have cl:∀d,W.e3 f d=Q->∀k,k<pl.length->(cx all pl k).dst≠j d:=λd a6 k Z e=>by have bh:=eL (pp.lt k Z) pp.size;have hm:=iR.1 mm (cx all pl k) (Array.mem_toList_iff.2 (Array.mem_of_getElem? (ta bh)));rw[e]at hm;simp[a6]at hm
 obtain⟨N,b7,av,F,O,af,aw,bg,cj⟩:=aB.trace;have hlen:(iK Q all pl).length=pl.length:=by simp[iK]
 have p8:∀i,i<pl.length->(iK Q all pl)[i]? =j (cx all pl i,(q4 pl i).map (ep all)):=by
  intro i aa;simp only[iK,if_true,s6,fz aa,hj,g5];have ao:pl.getD i default=pl[i]:=by simp[cK,aa]
  simp only[cx,ep,cI,q4,ao];rfl
 have bz:kM P W f all pl (Ab (W.e3 f)) (λ_ _=>False) N b7 av:=⟨pp,by omega,(λty h=>cX.NZ f ty h),λi aa=>bg i _ aa (p8 i (by omega))⟩;subst O;subst af;subst aw;have ug:m=m.e7 m.e4:=rfl;rw[ug];refine Oi (Y:=Y) (S:=W.e3 f) (aA:=m.e4) cl (r:=r) (K:=K) (b:=b) (cs:=cs) cX (λe F he=>cX.NY f e F he) bz ?_ ?_ _ (lX all) 0 (λ_=>0) m a _ dH ⟨k4 _,by simp,λD U dB=>?_,λD U dB=>?_,λD U dB=>?_,λD U=>by omega,λD _ U dB=>?_,λD nq _ _ U cS dB=>?_,hw,?_,a6,λ_ _ h=>h⟩
 ·cases e with
  |none=>exact .inl (by omega)
  |some v=>
    obtain⟨q,aG,bB⟩:=cj;have eZ:N<pl.length:=by have:=(gg.1 aG).1;omega
    rw[p8 N eZ]at aG;injection aG with aG;subst aG;exact .inr ⟨v,J,eZ,bB,n6 v rfl⟩
 ·intro eZ c8 dm aJ bN bL c2;cases e with
  |none=>obtain⟨_,cj⟩:=cj;subst cj;exact gs rfl c8 dm aJ bN bL c2
  |some v=>obtain⟨q,aG,bB⟩:=cj;have:=(gg.1 aG).1;omega
 ·have U:=eL U pp.size;simp[hB,U]at dB
 ·have U:=eL U pp.size;simp[hB,U]at dB
 ·have:=eL (pp.lt D U) pp.size;simp[hB,this]at dB
 ·have:=eL (pp.lt D U) pp.size;simp[hB,this]at dB
 ·have:=eL (pp.lt D U) pp.size;simp[hB,this]at dB
 ·have al:=bz.len 0 (k4 _);refine dp.of (by rw[lv,<-al];exact aL.1) λd yP=>?_;have Ay:d<(b7 0).length:=by rw[lv]at yP;omega
  by_cases r4:f9 all pl (lX all) 0 d
  ·rw[q5 r4];have bm:=bz.fH d 0 N (by omega) (λD _ U he=>by
    have dB:D<pl.length:=by omega
    have:=(r4 D dB he).2;omega)
   rw[hk]at bm;rw[bm];exact aL.slot Ay
  ·rw[yK r4];exact .aP _
theorem Oy{P:cp}{W:hh}{f:cJ}{all:Array a0}{e:Option I}{cV:List I}{J:ad}:∀{dh cC:List (a0×List a0)} {t:List I} {h:ad},mO P W f all (dh++cC) t h e cV J->(∃t1 F,mO P W f all dh t h ab t1 F/\mO P W f all cC t1 F e cV J)\/∃v,e=j v/\mO P W f all dh t h (j v) cV J
 |[],cC,t,h,aB=>.inl ⟨t,h,.nil _ _,aB⟩
 |q::dh,cC,t,h,aB=>by
   have aB:mO P W f all (q::(dh++cC)) t h e cV J:=aB;cases aB with
   |step _ _ _ _ t1 F _ _ _ av ah=>
     rcases Oy ah with⟨t2,O,a,b⟩|⟨v,a,b⟩
     ·exact .inl ⟨t2,O,.step _ _ _ _ _ _ _ _ _ av a,b⟩
     ·exact .inr ⟨v,a,.step _ _ _ _ _ _ _ _ _ av b⟩
   |stop _ _ _ _ v _ av=>exact .inr ⟨v,rfl,.stop _ _ _ _ _ _ av⟩
theorem YT{y:Nat}{cq:aT->Bool}(vF:s7 all pl cq λ_ _=>False)(ky:pl.length=y)(bF:y+1=all.size)(nr:∀i,i<y->ks (lq all) i y=Q):∀{li:Array Bool} {L:List Nat},kN all (λ_ _=>False) li L->li.size=all.size->li.getD y T=T->(∀D,D<pl.length->li.getD D T=Q->∀e∈(ep all D).after,j8 .any e=Q->li.getD e.on T=Q)->∃mn,L=mn++[y]/\w7 pl.length all (λ_ _=>False) li mn:=by
 intro li L am;induction am with
 |nil li h=>intro _ au;rw[h y (by omega)]at au;cases au
 |cons li i L c1 cr eg kO q' aW=>
   intro av au jh;have hR:i<li.size:=by omega
   by_cases aa:i=y
   ·have lV:∀D,D<y->li.getD D T=Q:=λD U=>by
     obtain⟨e,ao,aq,bm⟩:=vF.mask y D (by omega) (by omega) (nr D U);have bh:=vF.w5 y (by omega) e ao aq;have hle:=eg e (by rw[aa];exact ao) aq;rcases bm with bm|bm
     ·rw[<-bm];exact hle
     ·exact H8 vF jh e.on (by omega) (jh e.on (by omega) hle) D (by omega) bm
    cases q' with
    |nil _ _=>exact⟨[],by rw[aa];rfl,.nil _ λD U=>lV D (by omega)⟩
    |cons _ k _ dc dr=>
      exfalso;rw[jI hR]at dr;split at dr
      ·cases dr
      ·rename_i Z;rw[lV k (by omega)]at dr;cases dr
   ·obtain⟨mn,e,E⟩:=aW (by simpa using av) (by rw[jI hR,if_neg (λh=>aa h.symm)];exact au) λD U dB e he ai=>by
     rw[jI hR]at dB;by_cases r2:D=i
     ·subst r2;exact getD_set_true (eg e he ai)
     ·rw[if_neg r2]at dB;exact getD_set_true (jh D U dB e he ai)
    exact⟨i::mn,by rw[e];rfl,.cons _ _ _ (by omega) cr eg kO E⟩
abbrev xa(bY:Nat->Nat->Prop)(x y:Nat):Nat->Nat->Prop:=λi D=>bY i D\/(i=x/\D=y)
theorem Oz{x y:Nat}{li:Array Bool}{L:List Nat}(am:kN all bY li L)(av:li.size=all.size)(an:li.getD x T=Q):kN all (xa bY x y) li L:=by
 induction am with
 |nil li h=>exact .nil _ h
 |cons li i L F O af aw _ aW=>
   refine .cons _ _ _ F O af (λD U=>U.elim (aw D) λe=>by rw[e.1];exact an) (aW (by simpa using av) ?_);rw[jI (by omega)];split
   ·rfl
   ·exact an
theorem DL{x y:Nat}(cO:x≠y)(sX:x<all.size){li:Array Bool}{L:List Nat}(am:kN all bY li L)(av:li.size=all.size)(an:li.getD x T=T)(bF:li.getD y T=T):kN all (xa bY x y) li L\/kN all (xa bY y x) li L:=by
 induction am with
 |nil li h=>have:=h x sX;rw[an]at this;cases this
 |cons li i L F O af aw ah aW=>
   have hR:i<li.size:=by omega
   by_cases gt:i=x
   ·subst gt;refine .inl (.cons _ _ _ F O af (λD U=>U.elim (aw D) λe=>absurd e.2 cO) (Oz ah (by simpa using av) ?_));rw[jI hR,if_pos rfl]
   ·by_cases Ik:i=y
    ·subst Ik;refine .inr (.cons _ _ _ F O af (λD U=>U.elim (aw D) λe=>absurd e.2.symm cO) (Oz ah (by simpa using av) ?_));rw[jI hR,if_pos rfl]
    ·rcases aW (by simpa using av) (by rw[jI hR,if_neg (kw gt)];exact an) (by rw[jI hR,if_neg (kw Ik)];exact bF)with h|h
     ·exact .inl (.cons _ _ _ F O af (λD U=>U.elim (aw D) λe=>absurd e.2 Ik) h)
     ·exact .inr (.cons _ _ _ F O af (λD U=>U.elim (aw D) λe=>absurd e.2 gt) h)
theorem pk(i:Nat):(lX all).getD i T=T:=by
 simp only[hB,lX];by_cases aa:i<all.size
 ·simp[aa]
 ·simp[aa]
theorem Az{AA:List (Nat×Nat)}(aB:wN AA all pl=Q):rZ all pl (λ_=>T) λi D=>(i,D)∈AA:=by
 unfold wN at aB;simp only[gS]at aB;obtain⟨⟨⟨⟨⟨F,O⟩,uo⟩,af⟩,aw⟩,bg⟩:=aB;rw[iR]at F O uo af bg;have r0:∀k,k<pl.length->pl.getD k default∈pl:=λk Z=>by simp only[cK,fz Z,pf];exact h2 Z
 have kL:∀i D,i<D->D<pl.length->Hi AA all (lq all) (pl.getD i default) (pl.getD D default)=Q:=λi D gk U=>by have:=bg D (jl.2 U);rw[iR]at this;exact this i (jl.2 gk)
 have nr:∀i D,(ks (lq all) i D||AA.contains (i,D))=Q->rY all (λi D=>(i,D)∈AA) i D:=λi D h=>by rw[oI]at h;exact h.imp id λh=>by simpa using h
 unfold Hi at kL;simp only[gS,bne_iff_ne,ne_eq]at kL;refine⟨λi aa=>?_,λk Z=>?_,λk d Z a6 gj=>?_,λD U e he ai=>?_,λD i U aa nr=>?_,λi D gk U=>?_,λi D gk U=>?_,λi D gk U=>?_,λi D d gk U a6=>?_,λi D d gk U a6 gj=>?_⟩
 ·have:=F i (jl.2 aa);rw[List.any_eq_true]at this;obtain⟨q,aG,h⟩:=this;obtain⟨k,Z,rfl⟩:=List.getElem_of_mem aG;exact⟨k,Z,by simpa[cI,cK,Z]using h⟩
 ·have:=O _ (r0 k Z);exact of_decide_eq_true this
 ·have:=uo _ (r0 k Z);unfold cx ep cI at a6 gj;rw[a6]at this;simp only[hB,List.getD_eq_getElem?_getD]at gj this;simp[s8,gj]at this
 ·have:=af D (jl.2 U);rw[Array.all_eq_true']at this;have:=this e he;simpa[ai]using this
 ·unfold yq at aw;rw[iR]at aw;have:=aw D (jl.2 U);rw[iR]at this;have:=this i (jl.2 aa);rw[nr]at this;simp only[Bool.not_true,Bool.false_or]at this;rw[Option.any_eq_true]at this;obtain⟨E,am,cj⟩:=this;rw[Array.any_eq_true']at cj;obtain⟨e,he,cT⟩:=cj;simp only[gS,decide_eq_true_eq,oI,beq_iff_eq]at cT;refine⟨e,?_,cT.1.1,cT.2⟩;have:ep all D=E:=by simp[ep,hB,am]
  rw[this];exact he
 ·exact(kL i D gk U).1.1.1.1
 ·have:=(kL i D gk U).1.1.1.2;rw[oI]at this;exact this.imp Oa λh=>.inr (nr _ _ h)
 ·have:=(kL i D gk U).1.1.2;rw[oI,oI,oI]at this;rcases this with((h|h)|h)|h
  ·exact .inl (Oa h)
  ·exact .inr (.inl (by rw[Bool.not_eq_true']at h;exact h))
  ·exact .inr (.inr (.inl (nr _ _ h)))
  ·exact .inr (.inr (.inr (List.contains_iff_mem.1 h)))
 ·have:=(kL i D gk U).1.2;unfold cx ep cI at a6 ⊢;rw[a6]at this;simpa[s8]using this
 ·have:=(kL i D gk U).2;unfold cx ep cI at a6 gj;rw[a6]at this;rw[oI]at this;rcases this with h|h
  ·simp only[hB,List.getD_eq_getElem?_getD]at gj h;simp[s8,gj]at h
  ·exact nr _ _ h
theorem kN.mono{all:Array a0}{bY OA:Nat->Nat->Prop}(eo:∀i D,OA i D->bY i D){li:Array Bool}{L:List Nat}(am:kN all bY li L):kN all OA li L:=by
 induction am with
 |nil li h=>exact .nil _ h
 |cons li i L F O af aw _ aW=>exact .cons _ _ _ F O af (λD U=>aw D (eo _ _ U)) aW
theorem DM{E:a0}(h:pS E=Q):∃ty a v,E.op= .store ty a v/\E.guard=ab/\E.dst=ab:=by
 unfold pS at h;split at h
 ·rename_i ty a v F O af;exact⟨ty,a,v,F,O,af⟩
 ·cases h
theorem OB{x:a0}{bX:List a0}{t1:List I}{F:ad}(an:pS x=Q)(av:um P W f all (x,bX) t h t1 F):∃ty a v,x.op= .store ty a v/\cB P ty≠0/\ew (cB P ty) h (be t a) (be t v)=j F/\t1=t/\nV P all t F bX:=by
 obtain⟨ty,a,v,bG,bD,dE⟩:=DM an;rcases av with⟨a4,_⟩|⟨_,u,bn,b0,cc⟩
 ·simp[hy,bD]at a4
 ·have e:t1=t:=by rw[b0,dE];rfl
  subst e;refine⟨ty,a,v,bG,?_⟩;rcases bn with⟨_,bn⟩|⟨g,args,fn,a8,_⟩
  ·simp only[eK,bG]at bn;split at bn
   ·cases bn
   ·rename_i aN;simp only[dd,jH]at bn;obtain⟨O,cE,_,rfl⟩:=bn;exact⟨aN,cE,rfl,cc⟩
  ·simp[eW,bG]at a8
theorem DN{x:a0}{ty:aT}{a v:fi}{F:ad}(an:pS x=Q)(bG:x.op= .store ty a v)(aN:cB P ty≠0)(s:ew (cB P ty) h (be t a) (be t v)=j F):um P W f all (x,[]) t h t F:=by obtain⟨rO,dO,bu,Il,bD,dE⟩:=DM an;refine .inr ⟨by simp[hy,bD],.aP,.inl ⟨by simp[eW,bG],?_⟩,by rw[dE];rfl,trivial⟩;simp only[eK,bG];rw[if_neg aN,s];rfl
theorem OC{x:a0}{v:I}(an:pS x=Q)(av:vB P all x t h v J):False:=by
 obtain⟨ty,a,u,bG,bD,dE⟩:=DM an;obtain⟨_,⟨c,_⟩|⟨g,args,fn,c,_⟩⟩:=av
 ·simp[lQ,bG]at c
 ·simp[eW,bG]at c
theorem OD{x y:a0}(an:pS x=Q)(bF:pS y=Q):∀{pre:List (a0×List a0)} {t:List I} {h:ad} {e:Option I} {cV:List I} {J:ad},mO P W f all (pre++[(x,[]),(y,[x])]) t h e cV J->mO P W f all (pre++[(x,[]),(y,[])]) t h e cV J/\mO P W f all (pre++[(y,[]),(x,[])]) t h e cV J
 |[],t,h,e,cV,J,aB=>by
   cases aB with
   |stop _ _ _ _ _ _ av=>exact(OC an av).elim
   |step _ _ _ _ t1 F _ _ _ av aB=>
     obtain⟨ty,a,v,bG,e8,a4,rfl,_⟩:=OB an av;cases aB with
     |stop _ _ _ _ _ _ av=>exact(OC bF av).elim
     |step _ _ _ _ t2 O _ _ _ kB aB=>
       obtain⟨rO,dO,bu,Il,OE,bn,rfl,bX⟩:=OB bF kB;cases aB with
       |nil=>obtain⟨_,_,_,_,cr,eg⟩:=DM an;have n5:=bX.1;simp only[hy,cr,bG,eg]at n5;obtain⟨mP,dm,gu⟩:=YP e8 a4 bn n5;exact⟨.step _ _ _ _ _ _ _ _ _ (DN an bG e8 a4) (.step _ _ _ _ _ _ _ _ _ (DN bF Il OE bn) (.nil _ _)),.step _ _ _ _ _ _ _ _ _ (DN bF Il OE dm) (.step _ _ _ _ _ _ _ _ _ (DN an bG e8 gu) (.nil _ _))⟩
 |q::pre,t,h,e,cV,J,aB=>by
   cases aB with
   |stop _ _ _ _ _ _ av=>exact⟨.stop _ _ _ _ _ _ av,.stop _ _ _ _ _ _ av⟩
   |step _ _ _ _ t1 F _ _ _ av aB=>obtain⟨a,b⟩:=OD an bF aB;exact⟨.step _ _ _ _ _ _ _ _ _ av a,.step _ _ _ _ _ _ _ _ _ av b⟩
theorem YU{cq:aT->Bool}{pl:List (Nat×List Nat)}(aB:Hk cq all pl=Q):∃r y,pl=r++[(y,[])]/\y+1=all.size/\(∀i,i<y->ks (lq all) i y=Q)/\C9 y cq all r=Q:=by
 unfold Hk at aB;split at aB
 ·rename_i y r e;simp only[gS,beq_iff_eq]at aB;obtain⟨⟨F,O⟩,af⟩:=aB;rw[iR]at O;refine⟨r.reverse,y,?_,F,λi aa=>O i (jl.2 aa),af⟩;have:=congrArg List.reverse e;simpa using this
 ·cases aB
theorem YV{pl:List (Nat×List Nat)}(aB:Hj all pl=Q):∃r x y,pl=r++[(x,[]),(y,[x])]/\x≠y/\pS (ep all x)=Q/\pS (ep all y)=Q/\rZ all (r++[(x,[]),(y,[])]) (λ_=>T) (λi D=>(i,D)∈[(x,y)])/\rZ all (r++[(y,[]),(x,[])]) (λ_=>T) (λi D=>(i,D)∈[(y,x)]):=by
 unfold Hj at aB;split at aB
 ·rename_i y iI x r ah;simp only[gS,beq_iff_eq,bne_iff_ne,ne_eq]at aB;obtain⟨⟨⟨⟨⟨rfl,O⟩,af⟩,aw⟩,bg⟩,cj⟩:=aB;refine⟨r.reverse,iI,y,?_,O,af,aw,Az bg,Az cj⟩;have:=congrArg List.reverse ah;rw[List.reverse_reverse]at this;rw[this];simp
 ·cases aB
end
section
variable{P:cp}{m aR:dw}{h J:ad}{w aV:cQ}
theorem aK.refl(h:ad):aK h h:=⟨bV _,bV _,λ_ _=>rfl,λ_ _=>rfl⟩
theorem aK.trans{F O af:ad}(a:aK F O)(b:aK O af):aK F af:=⟨ef a.n b.n,ef a.ids b.ids,λk Z=>(b.cell k (eL Z a.n)).trans (a.cell k Z),λk Z=>(b.hw k (eL Z a.ids)).trans (a.hw k Z)⟩
theorem aK.push(h:ad)(es:List (List I)):aK h (h.push es):=⟨by simp[ad.push],by simp[ad.push],λb ai=>by simp[ad.push,show b≠h.n by omega],λ_ _=>rfl⟩
theorem aK.fresh(h:ad)(n:Nat):aK h (h.fresh n):=⟨by simp[ad.fresh],by simp[ad.fresh],λb ai=>rfl,λk Z=>by simp[ad.fresh,show k≠h.ids by omega]⟩
theorem aK.grow{ae h:ad}(g:aK ae h){id n:Nat}(aa:ae.ids<=id):aK ae (h.grow id n):=⟨g.n,g.ids,g.cell,λk Z=>by simpa[ad.grow,show k≠id by omega]using g.hw k Z⟩
theorem aK.set{ae h:ad}(g:aK ae h){b:Nat}{es:Option (List (List I))}(ai:ae.n<=b):aK ae (h.set b es):=⟨g.n,g.ids,λk Z=>by simpa[ad.set,show k≠b by omega]using g.cell k Z,g.hw⟩
theorem bI.back(x:Ext m h aR J)(g:aK h J){v:I}(r:bI P aR J v u):∀{pm:bK},bI P m h v pm->bI P aR h v u:=by
 induction r with
 |aP v=>intro _ _;exact .aP v
 |bool b=>intro _ _;exact .bool b
 |int k n=>intro _ _;exact .int k n
 |str l=>intro _ _;exact .str l
 |gd=>intro _ _;exact .gd
 |ptr b i off ai=>
   intro pm gv;cases gv with
   |ptr _ _ _ mN=>exact .ptr b i off mN
 |e2 t b ai aL=>
   intro pm gv;cases gv with
   |e2 _ _ mN _=>exact .e2 t b mN aL
 |ip e off g E ag aa R aW=>
   intro pm gv;cases gv with
   |ip _ _ xb DO aH gh AB=>exact .ip e off g E ag aa (λD U=>aW D U (AB D U))
 |aF=>intro _ _;exact .aF
 |bR id e es n7 E cap ag al aa R aj aL aW=>
   intro pm gv;cases gv with
   |bR _ _ _ xb DO amZ aH s3 gh AB Hp DP=>refine .bR id e es n7 E cap ag al aa (λi eb D U=>aW i eb D U (AB i eb D U)) aj (λk Z=>?_);obtain⟨aJ,a1,bf,cv⟩:=aL k Z;obtain⟨c9,dx,gH,p9⟩:=DP k Z;have:=g.hw k c9;exact⟨c9,a1,gH,λdC=>cv (by omega)⟩
   |me _ _ _=>exact .bR ab e [] n7 E cap ag (by simp) (λi aa=>absurd aa (Nat.not_lt_zero _)) (λi aa=>absurd aa (Nat.not_lt_zero _)) aj (λk Z=>by cases Z)
 |me e a cap=>intro _ _;exact .me e a cap
 |bd b E n e cap ai he i1 au i2=>
   intro pm gv;cases gv with
   |bd _ _ _ _ _ mN _ _ _ _=>exact .bd b E n e cap mN he i1 au i2
 |fn g l c bJ fy F O af aw vs qS=>
   intro pm gv;cases gv with
   |fn _ _ _ hC hr aJ a1 bf cv=>exact .fn g l c bJ fy F O (λD U cS=>vs D U cS (bf D U (by omega))) (λD U cS=>qS D U cS (cv D U (by omega)))
 |mb=>intro _ _;exact .mb
 |hb=>intro _ _;exact .hb
 |iface t v bu F aW=>
   intro pm gv;cases gv with
   |iface _ _ _ aJ=>exact .iface t v bu (aW aJ)
 |agg l bJ F af aW=>
   intro pm gv;cases gv with
   |agg _ hC aJ bf=>exact .agg l bJ F (λD U cS=>aW D U cS (bf D U (by omega)))
 |bW l bJ F af aW=>
   intro pm gv;cases gv with
   |bW _ hC aJ bf=>exact .bW l bJ F (λD U cS=>aW D U cS (bf D U (by omega)))
theorem bU.back(hw:bU P m h w)(x:Ext m h aR J)(g:aK h J)(kA:bU P aR J aV):Ext m h aR h/\bU P aR h aV:=by
 refine⟨⟨x.base,bV _,bV _,x.cb,x.dF,λk Z=>?_,x.e4⟩,?_⟩
 ·obtain⟨aJ,a1,bf⟩:=x.kJ k Z;exact⟨aJ,bV _,λ_=>bf (g.hw k Z)⟩
 have up:∀b es,h.cell b=j es->J.cell b=j es:=λb es ai=>by rw[g.cell b (hw.lt b es ai).1];exact ai
 refine⟨kA.size,λb es ai=>⟨(hw.lt b es ai).1,(kA.lt b es (up b es ai)).2⟩,λb es ai=>?_,λb e5 es fL ai j'=>kA.inj b e5 es fL (up _ _ ai) (up _ _ j'),kA.dF,λb es ai=>kA.sep b es (up _ _ ai),λk Z=>?_,λk Z=>?_,λk Z b es ai=>?_,λk cn Z nn=>?_,kA.dk,λfa y U=>?_⟩
 ·obtain⟨cs,F,O,af,aw,bg⟩:=kA.live b es (up _ _ ai);obtain⟨am0,_,_,_,_,g7⟩:=hw.live b es ai;refine⟨cs,F,O,af,aw,λi aa D U=>?_⟩;obtain⟨v,cj,cT⟩:=bg i aa D U;obtain⟨mo,_,tb⟩:=g7 i aa D U;exact⟨v,cj,cT.back x g tb⟩
 ·have:=kA.oD k (eL Z g.ids);rwa [g.hw k Z]at this
 ·have:=kA.ng k (eL Z g.ids);rwa [g.hw k Z]at this
 ·exact kA.mf k (eL Z g.ids) b es (up _ _ ai)
 ·exact kA.nY k cn (eL Z g.ids) (eL nn g.ids)
 ·obtain⟨aJ,a1,bf,cv,ez⟩:=kA.e4 fa y U;exact⟨aJ,a1,λb es ai=>bf b es (up _ _ ai),λk Z=>cv k (eL Z g.ids),ez⟩
theorem AD:∀{l cC:List I},o' l=j cC->cC.length=l.length/\∀D (U:D<l.length) (pX:D<cC.length),dA l[D]=j cC[D]
 |[],cC,he=>by simp[o']at he;subst he;exact⟨rfl,λD U=>by simp at U⟩
 |v::l,cC,he=>by
   simp only[o']at he;split at he
   ·rename_i bu bJ F O;injection he with he;subst he;obtain⟨aJ,a1⟩:=AD O;refine⟨by simp[aJ],λD U pX=>?_⟩;cases D with
    |zero=>exact F
    |succ D=>exact a1 D (by simpa using U) (by simpa using pX)
   ·cases he
theorem OF:∀{l cC:List (List I)},pT l=j cC->cC.length=l.length/\∀D (U:D<l.length) (pX:D<cC.length),o' l[D]=j cC[D]
 |[],cC,he=>by simp[pT]at he;subst he;exact⟨rfl,λD U=>by simp at U⟩
 |v::l,cC,he=>by
   simp only[pT]at he;split at he
   ·rename_i bu bJ F O;injection he with he;subst he;obtain⟨aJ,a1⟩:=OF O;refine⟨by simp[aJ],λD U pX=>?_⟩;cases D with
    |zero=>exact F
    |succ D=>exact a1 D (by simpa using U) (by simpa using pX)
   ·cases he
theorem bI.oK{ae:ad}{v:I}(r:bI P m h v u):∀{cW:I},dA v=j cW->bI P m ae cW u:=by
 induction r with
 |aP v=>intro cW he;simp[dA]at he;subst he;exact .aP v
 |bool b=>intro cW he;simp[dA]at he;subst he;exact .bool b
 |int k n=>intro cW he;simp[dA]at he;subst he;exact .int k n
 |str l=>intro cW he;simp[dA]at he;subst he;exact .str l
 |gd=>intro cW he;simp[dA]at he;subst he;exact .gd
 |ptr b i off ai=>intro cW he;simp[dA]at he
 |e2 t b ai aL=>intro cW he;simp[dA]at he
 |ip e off g E ag aa R aW=>intro cW he;simp[dA]at he
 |aF=>intro cW he;simp[dA]at he;subst he;exact .aF
 |bR id e es n7 E cap ag al aa R aj aL aW=>
   intro cW he;simp only[dA]at he;obtain⟨DQ,F,rfl⟩:=dd.1 he;obtain⟨aJ,a1⟩:=OF F;have ka:∀i (aa:i<es.length) (g8:i<DQ.length),DQ[i].length=es[i].length:=λi aa g8=>(AD (a1 i aa g8)).1;have:DQ.length=es.length:=aJ;rw[<-this];refine .bR ab e DQ n7 E cap ag (λr ah=>?_) (λi eb D U=>aa i (by omega) D U) (λi eb D U=>?_) (by omega) (λk Z=>by cases Z)
   ·obtain⟨i,g8,rfl⟩:=List.getElem_of_mem ah;rw[ka i (by omega) g8];exact al _ (h2 _)
   ·have gh:i<es.length:=by omega
    have p3:D<es[i].length:=by rw[<-ka i gh eb];exact U
    exact aW i gh D p3 ((AD (a1 i gh eb)).2 D p3 U)
 |me e a cap=>intro cW he;simp[dA,pT]at he;subst he;exact .me e a cap
 |bd b E n e cap ai he i1 au i2=>intro cW he;simp[dA]at he
 |fn g l c bJ fy F O af aw vs qS=>intro cW he;simp[dA]at he
 |mb=>intro cW he;simp[dA]at he;subst he;exact .mb
 |hb=>intro cW he;simp[dA]at he;subst he;exact .hb
 |iface t v bu F aW=>intro cW he;simp only[dA]at he;obtain⟨gw,F,rfl⟩:=dd.1 he;exact .iface t gw bu (aW F)
 |agg l bJ F af aW=>intro cW he;simp only[dA]at he;obtain⟨cC,O,rfl⟩:=dd.1 he;obtain⟨aJ,a1⟩:=AD O;exact .agg cC bJ (by omega) (λD U cS=>aW D (by omega) cS (a1 D (by omega) U))
 |bW l bJ F af aW=>intro cW he;simp only[dA]at he;obtain⟨cC,O,rfl⟩:=dd.1 he;obtain⟨aJ,a1⟩:=AD O;exact .bW cC bJ (by omega) (λD U cS=>aW D (by omega) cS (a1 D (by omega) U))
theorem AC.forget{g:cJ}{args:List I}{p:Bool}{q eH:(I⊕I)×ad}(hq:AC P g args h q)(aG:lS p h q=j eH):AC P g args h eH:=by
 unfold lS at aG;split at aG
 ·split at aG
  ·rename_i aX;obtain⟨x,O⟩:=q;intro m w br hw R;refine(hq m w br hw R).mono λe aV ⟨aR,b2,ds,fb,gU⟩=>?_;obtain⟨fT,jf⟩:=hw.back b2 aX ds;cases x with
   |inl v=>obtain⟨cW,ao,rfl⟩:=dd.1 aG;obtain⟨u,aq,bm⟩:=gU;exact⟨aR,fT,jf,fb,u,aq,bm.oK ao⟩
   |inr v=>obtain⟨cW,ao,rfl⟩:=dd.1 aG;obtain⟨u,aq,bm⟩:=gU;exact⟨aR,fT,jf,fb,u,aq,bm.oK ao⟩
  ·cases aG
 ·injection aG with aG;subst aG;exact hq
end
open Go Go.RowKit
inductive ra(pl:Nat->List (Nat×List Nat))(S:Nat->Bool):List hJ->List Item->Prop
 |nil:ra pl S [] []
 |code (c:ff) (k:List hJ) (K:List Item):iJ pl S c=Q->ra pl S k K->ra pl S (.code c::k) (.code c::K)
 |inBlock (id:Nat) (k:List hJ) (K:List Item):ra pl S k K->ra pl S (.inBlock id::k) (.inBlock id::K)
 |inLoop (c:ff) (k:List hJ) (K:List Item):iJ pl S c=Q->ra pl S k K->ra pl S (.inLoop c::k) (.inLoop c::K)
 |halt (K:List Item) (k:List hJ):ra pl S (.halt K::k) K
def AE(P:cp)(W:hh)(f:cJ)(k:List hJ)(t:List I)(h:ad)(r:jd×List I×ad):Prop:=∀K,ra (W.cm f) (W.e3 f) k K->∀(b:fs) (cs:List fs) (m:dw) (w:cQ) (a:Act),bU P m h w->dp P m h t a.tmps->a.defers=b.defers->dX P (W.e3 f) m h w b cs (ej (b.at a K) cs w) r
def lY(P:cp)(W:hh)(f:cJ):List hJ->List I->ad->jd×List I×ad->Prop
 |.ops Q all l::k,t,h,r=>∃e cV J,mO P W f all l t h e cV J/\(match e with|none=>AE P W f k cV J r|some v=>r=(.panic v,cV,J))
 |.ops T all l::k,t,h,r=>∀bA:List Nat,l=bA.map (λi=>(ep all i,[]))->(∀i∈bA,i<all.size)->∀K,ra (W.cm f) (W.e3 f) k K->∀(b:fs) (cs:List fs) (m:dw) (w:cQ) (a:Act),bU P m h w->dp P m h t a.tmps->a.defers=b.defers->dX P (W.e3 f) m h w b cs (ej (b.at a (.inRegion all bA::K)) cs w) r
 |k,t,h,r=>AE P W f k t h r
section
variable{P:cp}{W:hh}{f:cJ}{k:List hJ}{t:List I}{h J:ad}{r:jd×List I×ad}
theorem lY.dk(hm:lY P W f k t h r):AE P W f k t h r:=by
 rcases k with _|⟨x,k⟩
 ·exact hm
 ·cases x with
  |ops d all l=>intro K ei;cases ei
  |_=>exact hm
theorem YW{pl:Nat->List (Nat×List Nat)}{S:Nat->Bool}{id:Nat}:∀{k cn:List hJ} {K:List Item},ra pl S k K->mH id k=j cn->∃DR,exitTo id K=j DR/\ra pl S cn DR:=by
 intro k cn K Z;induction Z with
 |nil=>intro he;simp[mH]at he
 |code c k K _ _ aW=>intro he;simp only[mH]at he;simpa[exitTo]using aW he
 |inBlock i k K Z aW=>
   intro he;simp only[mH]at he;by_cases aa:i=id
   ·rw[if_pos aa]at he;injection he with he;subst he;exact⟨K,by simp[exitTo,aa],Z⟩
   ·rw[if_neg aa]at he;simpa[exitTo,aa]using aW he
 |inLoop c k K _ _ aW=>intro he;simp only[mH]at he;simpa[exitTo]using aW he
 |halt K k=>intro he;simp[mH]at he
theorem DS(cX:k6 P W){E:a0}{v:I}{m:dw}{w:cQ}{a:Act}{b:fs}{cs:List fs}{K:List Item}{all:Array a0}{i:Nat}(am:all[i]? =j E)(jj:hy all t E=j Q)(hw:bU P m h w)(aL:dp P m h t a.tmps)(bc:w3 P W f t h E v J):∃aR aV u,Ext m h aR J/\bU P aR J aV/\bI P aR J v u/\Below m.base w aV/\Steps P (ej (b.at a (.inRegion all (i::rest)::K)) cs w) (ej (b.at (a.put E.dst u) (.inRegion all rest::K)) cs aV):=by
 have yQ:=vA aL all E jj;rcases bc with⟨_,O⟩|⟨g,args,fn,a8,bZ,b',du⟩
 ·obtain⟨aR,aV,u,d1,d2,d3,d4,d5⟩:=NX cX.ty hw aL (W.a2 f) O;exact⟨aR,aV,u,d2,d3,d4,d5,HV am yQ d1⟩
 ·obtain⟨br,v1,cW⟩:=Dw (w:=w) aL a8 bZ b'.2 b'.1;obtain⟨e,aV,jk,bB⟩:=Ap (b:=b) (cs:=cs) (k:=K) (rest:=rest) am yQ cW (du m w br hw v1) (by rintro aV ⟨aR,_,_,_,fj,h,_⟩;cases h);obtain⟨aR,b2,ds,fb,fj,gU,gz⟩:=jk;subst gU;rcases bB with⟨bu,af,aw⟩|⟨kb,af,_⟩
  ·injection af with af;subst af;exact⟨aR,aV,fj,b2,ds,gz,fb,aw⟩
  ·cases af
theorem OG{S:Nat->Bool}(cX:k6 P W){E:a0}{v:I}{m:dw}{w:cQ}{a:Act}{b:fs}{cs:List fs}{K:List Item}{all:Array a0}{i:Nat}(am:all[i]? =j E)(hw:bU P m h w)(aL:dp P m h t a.tmps)(a6:a.defers=b.defers)(bc:vB P all E t h v J):dX P S m h w b cs (ej (b.at a (.inRegion all (i::rest)::K)) cs w) (.panic v,t,J):=by
 obtain⟨jj,⟨a8,bZ⟩|⟨g,args,fn,a8,bZ,b',du⟩⟩:=bc
 ·have yQ:=vA aL all E jj;obtain⟨fj,b2,ds⟩:=N4 (w:=w) aL a8;subst bZ;exact⟨m,w,Ext.refl _ _,hw,k0 _ _,a,_,fj,⟨t,aL,λ_ _=>rfl⟩,a6,b2,N5 am yQ ds⟩
 have yQ:=vA aL all E jj;obtain⟨br,v1,cW⟩:=Dw (w:=w) aL a8 bZ b'.2 b'.1;obtain⟨e,aV,jk,bB⟩:=Ap (b:=b) (cs:=cs) (k:=K) (rest:=rest) am yQ cW (du m w br hw v1) (by rintro aV ⟨aR,_,_,_,fj,h,_⟩;cases h);obtain⟨aR,b2,ds,fb,fj,gU,gz⟩:=jk;subst gU;rcases bB with⟨bu,af,_⟩|⟨kb,af,todo,aw⟩
 ·cases af
 ·injection af with af;subst af;exact⟨aR,aV,b2,ds,fb,a,todo,fj,⟨t,aL.ext b2,λ_ _=>rfl⟩,a6,gz,aw⟩
theorem Im(cX:k6 P W){g:cJ}{fn:Func}{c:ff}{args:List I}(bc:P.funcs[g]? =j fn)(ai:fn.body=j c)(yR:W.use g=Q)(aX:AE P W g [.code c] (args++ax (fn.ntmps - args.length) .aP) h r):∀q,ys P fn r=j q->AC P g args h q:=by
 have key:∀(m:dw) (w:cQ) (br:List bK),bU P m h w->dj P m h args br->∀cs,∃b:fs,b.fn=g/\b.kind= .normal/\b.defers=[]/\dX P (W.e3 g) m h w b cs (ej (i4 P g br.toArray .normal) cs w) r:=by
  intro m w br hw R cs;refine⟨i4 P g br.toArray .normal,rfl,rfl,rfl,?_⟩;have:=aX [.code c] (.code c _ _ (cX.cm g fn c bc ai yR) .nil) (i4 P g br.toArray .normal) cs m w {tmps:=(br++ax (fn.ntmps - br.length) fg).toArray,defers:=[]} hw ?_ rfl
  ·have e:(i4 P g br.toArray .normal).at {tmps:=(br++ax (fn.ntmps - br.length) fg).toArray,defers:=[]} [.code c]=i4 P g br.toArray .normal:=by simp[i4,Frame.at,bc,ai]
   rwa [e]at this
  ·have al:=R.1;have O:dj P m h (args++ax (fn.ntmps - args.length) .aP) (br++ax (fn.ntmps - br.length) fg):=by rw[al];exact dj.append R ⟨by simp,λD U cS=>by simp only[List.getElem_replicate];exact .aP _⟩
   refine⟨by simpa using O.1,λi aa=>?_⟩;have g8:i<(br++ax (fn.ntmps - br.length) fg).length:=by rw[O.1];exact aa
   have:=O.2 i aa g8;simp only[hB,List.getElem?_toArray,fz g8,pf];exact this
 obtain⟨x,cV,J⟩:=r;cases x with
 |ret=>intro q aG;obtain⟨v,R,rfl⟩:=dd.1 aG;intro m w br hw e6 cs;obtain⟨b,oF,mg,rU,aR,aV,F,O,af,dO,todo,aw,bg,cj⟩:=key m w br hw e6 cs;rw[rU]at bg;obtain⟨u,cT,hA⟩:=w2 O aw R;exact⟨.returned u,aV,_,⟨aR,F,O,af,u,rfl,hA⟩,cj,oF,rfl,bg,mg,fn,by simpa[Frame.at,oF]using bc,cT⟩
 |halt K=>intro q aG;cases aG
 |panic v=>intro q aG;injection aG with aG;subst aG;intro m w br hw e6 cs;obtain⟨b,oF,mg,rU,aR,aV,F,O,af,dO,todo,u,_,aw,bg,cj⟩:=key m w br hw e6 cs;rw[rU]at aw;exact⟨.panicked _,aV,_,⟨aR,F,O,af,u,rfl,bg⟩,cj,oF,rfl,aw,fn,by simpa[Frame.at,oF]using bc⟩
theorem lY.YX{all:Array a0}(hm:lY P W f k t h r):lY P W f (.ops cN all []::k) t h r:=by
 cases cN with
 |true=>exact⟨ab,t,h,.nil t h,hm.dk⟩
 |false=>
   intro bA lZ bh K ei b cs m w a hw aL a6;cases bA with
   |cons i bA=>simp at lZ
   |nil=>exact dX.steps (.one step_region_end) (hm.dk K ei b cs m w a hw aL a6)
theorem lY.DT(cX:k6 P W){all:Array a0}{q:a0×List a0}{l:List (a0×List a0)}{t1:List I}{F:ad}(av:um P W f all q t h t1 F)(hm:lY P W f (.ops cN all l::k) t1 F r):lY P W f (.ops cN all (q::l)::k) t h r:=by
 cases cN with
 |true=>obtain⟨e,cV,J,O,af⟩:=hm;exact⟨e,cV,J,.step _ _ _ _ _ _ _ _ _ av O,af⟩
 |false=>
   intro bA lZ bh K ei b cs m w a hw aL a6;cases bA with
   |nil=>simp at lZ
   |cons i bA=>
     simp only[jU,uu]at lZ;obtain⟨rfl,lZ⟩:=lZ;have am:=ta (all:=all) (bh i (by simp));rcases av with⟨a4,rfl,rfl⟩|⟨a4,v,bn,rfl,_⟩
     ·exact dX.steps (HW am (vA aL all _ a4)) (hm bA lZ (λD U=>bh D (by simp[U])) K ei b cs m w _ hw (aL.put bI.Hr _) (by rw[Act.yL];exact a6))
     ·obtain⟨aR,aV,u,d1,d2,d3,d4,d5⟩:=DS (b:=b) (cs:=cs) (K:=K) (rest:=bA) cX am a4 hw aL bn;exact dX.steps d5 (dX.after d1 d4 (hm bA lZ (λD U=>bh D (by simp[U])) K ei b cs aR aV _ d2 ((aL.ext d1).put d3 _) (by rw[Act.yL];exact a6)))
theorem lY.Io(cX:k6 P W){all:Array a0}{q:a0×List a0}{l:List (a0×List a0)}{v:I}(av:vB P all q.1 t h v J):lY P W f (.ops cN all (q::l)::k) t h (.panic v,t,J):=by
 cases cN with
 |true=>exact⟨j v,t,J,.stop _ _ _ _ _ _ av,rfl⟩
 |false=>
   intro bA lZ bh K ei b cs m w a hw aL a6;cases bA with
   |nil=>simp at lZ
   |cons i bA=>simp only[jU,uu]at lZ;obtain⟨rfl,lZ⟩:=lZ;exact OG cX (ta (bh i (by simp))) hw aL a6 av
theorem YY(cX:k6 P W){id:Nat}{all:Array a0}{d:Bool}(hm:lY P W f (.ops d all (iK d all (W.cm f id))::k) t h r):AE P W f (.code (.region id all d)::k) t h r:=by
 intro K ei b cs m w a hw aL a6;cases ei with
 |code _ _ K ah ei=>
 cases d with
 |false=>
   refine dX.steps (.one step_region) (hm (iQ all.size) ?_ (λi aa=>jl.1 aa) K ei b cs m w a hw aL a6);simp only[iK,mI,if_false];apply List.ext_getElem (by simp);intro i F O;have aa:i<all.size:=by simpa using F
   simp[ep,aa]
 |true=>
   simp only[iJ,Bool.not_true,Bool.false_or]at ah;rw[gS]at ah;obtain⟨ah,mm⟩:=ah;rw[oI]at ah;rcases ah with ah|ah
   case inr=>
    obtain⟨gv,y,gM,bF,nr,ed⟩:=YU ah;obtain⟨ky,vF⟩:=Yo (by omega) ed;obtain⟨e,cV,J,aB,he⟩:=hm;rw[gM]at aB;have AF:iK Q all (gv++[(y,[])])=iK Q all gv++[(ep all y,[])]:=by simp[iK,ep]
    rw[AF]at aB;have Ip:y<all.size:=by omega
    have AG:∀{t1:List I} {F:ad},mO P W f all [(ep all y,[])] t1 F e cV J->∀(c8:dw) (dm:cQ) (aJ:Act),bU P c8 F dm->dp P c8 F t1 aJ.tmps->aJ.defers=b.defers->dX P (W.e3 f) c8 F dm b cs (ej (b.at aJ (.inRegion all [y]::K)) cs dm) r:=by
     intro t1 F rb c8 dm aJ bN bL c2;cases rb with
     |step _ _ _ _ t2 O _ _ _ av nk=>
       cases nk;have kx:∀(cu:dw) (gu:cQ) (a1:Act),bU P cu J gu->dp P cu J cV a1.tmps->a1.defers=b.defers->dX P (W.e3 f) cu J gu b cs (ej (b.at a1 (.inRegion all []::K)) cs gu) r:=λcu gu a1 e8 g9 ho=>dX.steps (.one step_region_end) (he K ei b cs cu gu a1 e8 g9 ho);rcases av with⟨a4,rfl,rfl⟩|⟨a4,v,bn,rfl,_⟩
       ·exact dX.steps (HW (ta Ip) (vA bL all _ a4)) (kx c8 dm _ bN (bL.put bI.Hr _) (by rw[Act.yL];exact c2))
       ·obtain⟨cu,gu,u,d1,d2,d3,d4,d5⟩:=DS (b:=b) (cs:=cs) (K:=K) (rest:=[]) cX (ta Ip) a4 bN bL bn;exact dX.steps d5 (dX.after d1 d4 (kx cu gu _ d2 ((bL.ext d1).put d3 _) (by rw[Act.yL];exact c2)))
     |stop _ _ _ _ v _ av=>have he:r=(.panic v,cV,J):=he;rw[he];exact OG cX (ta Ip) bN bL c2 av
    refine dX.steps (.one step_region_draw) (dX.after (Ext.refl _ _) (k0 _ _).drew ?_);simp only[Region.schedule,cX.mixed,Bool.true_or,if_true,Region.linearise];obtain⟨mn,YZ,OH⟩:=YT vF ky bF nr (DB vF.w5 _ _ (lX all) (by simp) (by simp[List.countP_replicate];exact bV _)) (by simp) (pk y) (λD _ dB=>by rw[pk]at dB;cases dB);rw[YZ];rcases Oy aB with⟨t1,F,b2,ds⟩|⟨v,Iq,b2⟩
    ·exact Ox cX vF mm b2 (λ_=>AG ds) (λv R=>by cases R) OH hw.drew aL a6
    ·subst Iq;exact Ox cX vF mm b2 (λR=>by cases R) (λcW R=>by injection R with R;rw[<-R];exact he) OH hw.drew aL a6
   rw[oI]at ah;rcases ah with ah|ah
   case inr=>
    obtain⟨pre,x,y,gM,cO,b8,Y0,ed,gJ⟩:=YV ah;obtain⟨e,cV,J,aB,he⟩:=hm;rw[gM]at aB;have an:x<all.size:=by
     obtain⟨bN,bL⟩:pre.length<(pre++[(x,[]),(y,[])]:List (Nat×List Nat)).length/\cI (pre++[(x,[]),(y,[])]) pre.length=x:=by simp[cI]
     rw[<-bL];exact ed.lt _ bN
    have ky:∀a b:Nat×List Nat,iK Q all (pre++[a,b])=iK Q all pre++[(ep all a.1,a.2.map (ep all)),(ep all b.1,b.2.map (ep all))]:=by intro a b;simp[iK,ep]
    rw[ky]at aB;obtain⟨a4,bn⟩:=OD b8 Y0 aB;have gs:e=ab->∀(c8:dw) (dm:cQ) (aJ:Act),bU P c8 J dm->dp P c8 J cV aJ.tmps->aJ.defers=b.defers->dX P (W.e3 f) c8 J dm b cs (ej (b.at aJ K) cs dm) r:=by intro gM;subst gM;exact λc8 dm aJ bN bL c2=>he K ei b cs c8 dm aJ bN bL c2
    have n6:∀v,e=j v->r=(.panic v,cV,J):=by intro v gM;subst gM;exact he
    have lV:∀L,kN all (λ_ _=>False) (lX all) L->dX P (W.e3 f) m h w.drew b cs (ej (b.at a (.inRegion all L::K)) cs w.drew) r:=by
     intro L am;rcases DL cO an am (by simp) (pk x) (pk y)with am|am
     ·refine Ij cX ed mm (by rw[ky];exact a4) gs n6 (am.mono λi D U=>?_) hw.drew aL a6;simp only[List.mem_singleton,jH]at U;exact .inr U
     ·refine Ij cX gJ mm (by rw[ky];exact bn) gs n6 (am.mono λi D U=>?_) hw.drew aL a6;simp only[List.mem_singleton,jH]at U;exact .inr U
    refine dX.steps (.one step_region_draw) (dX.after (Ext.refl _ _) (k0 _ _).drew ?_);simp only[Region.schedule,cX.mixed,Bool.true_or,if_true,Region.linearise];exact lV _ (DB ed.w5 _ _ _ (by simp) (by simp[List.countP_replicate]))
   have pp:=Yq ah;have cl:∀d,W.e3 f d=Q->∀k,k<(W.cm f id).length->(cx all (W.cm f id) k).dst≠j d:=λd a6 k Z e=>by have bh:=pp.lt k Z;have hm:=iR.1 mm (cx all (W.cm f id) k) (Array.mem_toList_iff.2 (Array.mem_of_getElem? (ta bh)));rw[e]at hm;simp[a6]at hm
   obtain⟨e,cV,J,aB,he⟩:=hm;obtain⟨N,b7,av,F,O,af,aw,bg,cj⟩:=aB.trace;generalize ky:W.cm f id=pl at*;have hlen:(iK Q all pl).length=pl.length:=by simp[iK]
   have p8:∀i,i<pl.length->(iK Q all pl)[i]? =j (cx all pl i,(q4 pl i).map (ep all)):=by
    intro i aa;simp only[iK,if_true,s6,fz aa,hj,g5];have ao:pl.getD i default=pl[i]:=by simp[cK,aa]
    simp only[cx,ep,cI,q4,ao];rfl
   have bz:kM P W f all pl (Ab (W.e3 f)) (λ_ _=>False) N b7 av:=⟨pp.toQ,by omega,(λty h=>cX.NZ f ty h),λi aa=>bg i _ aa (p8 i (by omega))⟩;subst O;subst af;subst aw;refine dX.steps (.one step_region_draw) (dX.after (Ext.refl _ _) (k0 _ _).drew ?_);simp only[Region.schedule,cX.mixed,Bool.true_or,if_true,Region.linearise];have ug:m=m.e7 m.e4:=rfl;rw[ug];refine Ou (S:=W.e3 f) (aA:=m.e4) pp.len cl (r:=r) (K:=K) (b:=b) (cs:=cs) cX (λe F he=>cX.NY f e F he) bz ?_ ?_ _ (Array.replicate all.size T) 0 (λ_=>0) m a _ (DB pp.w5 _ _ _ (by simp) ?_) ⟨k4 _,by simp,λD U dB=>?_,λD U dB=>?_,λD U dB=>?_,λD U=>by omega,λD _ U dB=>?_,λD nq _ _ U cS dB=>?_,hw.drew,?_,a6,λ_ _ h=>h⟩
   ·cases e with
    |none=>exact .inl (by omega)
    |some v=>
      obtain⟨q,aG,bB⟩:=cj;have eZ:N<pl.length:=by have:=(gg.1 aG).1;omega
      rw[p8 N eZ]at aG;injection aG with aG;subst aG;exact .inr ⟨v,J,eZ,bB,he⟩
   ·intro eZ c8 dm aJ bN bL c2;cases e with
    |none=>obtain⟨_,cj⟩:=cj;subst cj;exact he K ei b cs c8 dm aJ bN bL c2
    |some v=>obtain⟨q,aG,bB⟩:=cj;have:=(gg.1 aG).1;omega
   ·simp[List.countP_replicate]
   ·rw[pp.len]at U;simp[hB,U]at dB
   ·rw[pp.len]at U;simp[hB,U]at dB
   ·have:=pp.lt D U;simp[hB,this]at dB
   ·have:=pp.lt D U;simp[hB,this]at dB
   ·have:=pp.lt D U;simp[hB,this]at dB
   ·have al:=bz.len 0 (k4 _);refine dp.of (by rw[lv,<-al];exact aL.1) λd yP=>?_;have Ay:d<(b7 0).length:=by rw[lv]at yP;omega
    by_cases r4:f9 all pl (Array.replicate all.size T) 0 d
    ·rw[q5 r4];have bm:=bz.fH d 0 N (by omega) (λD _ U he=>by
      have dB:D<pl.length:=by omega
      have:=(r4 D dB he).2;omega)
     rw[hk]at bm;rw[bm];exact aL.slot Ay
    ·rw[yK r4];exact .aP _
end
theorem DU{P:cp}{W:hh}(cX:k6 P W):∀(f:cJ) (k:List hJ) (t:List I) (h:ad) (r:jd×List I×ad),c6 P W f k t h=j r->lY P W f k t h r:=by
 refine c6.partial_correctness P W (lY P W) λrun aW f k t h r ah=>?_;split at ah
 ·injection ah with ah;subst ah;intro K ei b cs m w a hw aL a6;cases ei;exact⟨m,w,Ext.refl _ _,hw,k0 _ _,a,[],aL,a6,.one step_end⟩
 ·rename_i id k;intro K ei b cs m w a hw aL a6;cases ei with
  |inBlock _ _ K ei=>exact dX.steps (.one step_inBlock) ((aW _ _ _ _ _ ah).dk K ei b cs m w a hw aL a6)
 ·rename_i Y1 k;injection ah with ah;subst ah;intro K ei b cs m w a hw aL a6;cases ei;exact⟨m,w,Ext.refl _ _,hw,k0 _ _,a,aL,a6,Steps.refl _ _⟩
 ·rename_i c k;intro K ei b cs m w a hw aL a6;cases ei with
  |inLoop _ _ K aj ei=>exact dX.steps (.one step_inLoop) ((aW _ _ _ _ _ ah).dk _ (.code c _ _ aj (.inLoop c _ _ aj ei)) b cs m w a hw (aL.clear _) a6)
 ·exact(aW _ _ _ _ _ ah).YX
 ·rename_i cN all E bX l k;split at ah
  ·cases ah
  ·rename_i jj;exact lY.DT cX (.inl ⟨jj,rfl,rfl⟩) (aW _ _ _ _ _ ah)
  ·rename_i jj;split at ah
   ·rename_i v AF;injection ah with ah;subst ah;exact lY.Io (q:=(E,bX)) cX ⟨jj,.inl ⟨AF,rfl⟩⟩
   split at ah
   ·rename_i g args yS;split at ah
    ·rename_i ag cR;obtain⟨⟨x,F⟩,an,ah⟩:=c'.1 ah;obtain⟨fn,mR,hL,hq⟩:=cX.ext g ag cR;cases x with
     |inl v=>
       simp only at ah;split at ah
       ·rename_i n5;exact lY.DT (q:=(E,bX)) cX (.inr ⟨jj,v,.inr ⟨g,args,fn,yS,mR,hL,hq args h _ an⟩,rfl,n5⟩) (aW _ _ _ _ _ ah)
       ·cases ah
     |inr v=>simp only at ah;injection ah with ah;subst ah;exact lY.Io cX ⟨jj,.inr ⟨g,args,fn,yS,mR,hL,hq args h _ an⟩⟩
    ·split at ah
     ·cases ah
     ·rename_i fn mR;split at ah
      ·cases ah
      ·rename_i c aj;split at ah
       ·cases ah
       ·rename_i bH;have yR:W.use g=Q:=by simpa using bH
        obtain⟨bT,an,ah⟩:=c'.1 ah;obtain⟨bN,DV,ah⟩:=c'.1 ah;obtain⟨⟨x,F⟩,rc,ah⟩:=c'.1 ah;have hq:=(Im cX mR aj yR (aW _ _ _ _ _ an).dk bN DV).forget rc;have pj:fn.body.isNone=T/\(fn.name== "runtime.NumGoroutine")=T:=⟨by simp[aj],cX.name g fn mR yR⟩;cases x with
        |inl v=>
          simp only at ah;split at ah
          ·rename_i n5;exact lY.DT (q:=(E,bX)) cX (.inr ⟨jj,v,.inr ⟨g,args,fn,yS,mR,pj,hq⟩,rfl,n5⟩) (aW _ _ _ _ _ ah)
          ·cases ah
        |inr v=>simp only at ah;injection ah with ah;subst ah;exact lY.Io cX ⟨jj,.inr ⟨g,args,fn,yS,mR,pj,hq⟩⟩
   ·rename_i yS;obtain⟨⟨v,F⟩,an,ah⟩:=c'.1 ah;simp only at ah;split at ah
    ·rename_i n5;exact lY.DT (q:=(E,bX)) cX (.inr ⟨jj,v,.inl ⟨yS,an⟩,rfl,n5⟩) (aW _ _ _ _ _ ah)
    ·cases ah
 ·rename_i c k;split at ah
  ·intro K ei b cs m w a hw aL a6;cases ei with
   |code _ _ K aj ei=>exact dX.steps (.one step_skip) ((aW _ _ _ _ _ ah).dk K ei b cs m w a hw aL a6)
  ·intro K ei b cs m w a hw aL a6;cases ei with
   |code _ _ K aj ei=>exact dX.steps (.one step_label) ((aW _ _ _ _ _ ah).dk K ei b cs m w a hw aL a6)
  ·intro K ei b cs m w a hw aL a6;cases ei with
   |code _ _ K aj ei=>simp only[iJ,gS]at aj;exact dX.steps (.one step_seq) ((aW _ _ _ _ _ ah).dk _ (.code _ _ _ aj.1 (.code _ _ _ aj.2 ei)) b cs m w a hw aL a6)
  ·rename_i c x y;split at ah
   ·rename_i az ul;intro K ei b cs m w a hw aL a6;cases ei with
    |code _ _ K aj ei=>
      simp only[iJ,gS]at aj;have R:=gr aL c;rw[ul]at R;have Y2:a.eval c= .bool az:=by revert R;generalize a.eval c=q;intro R;cases R;rfl
      refine dX.steps (.one (step_cond Y2)) ?_;cases az with
      |true=>exact(aW _ _ _ _ _ (by simpa using ah)).dk _ (.code _ _ _ aj.1 ei) b cs m w a hw aL a6
      |false=>exact(aW _ _ _ _ _ (by simpa using ah)).dk _ (.code _ _ _ aj.2 ei) b cs m w a hw aL a6
   ·cases ah
  ·intro K ei b cs m w a hw aL a6;cases ei with
   |code _ _ K aj ei=>exact dX.steps (.one step_block) ((aW _ _ _ _ _ ah).dk _ (.code _ _ _ (by simpa[iJ]using aj) (.inBlock _ _ _ ei)) b cs m w a hw aL a6)
  ·intro K ei b cs m w a hw aL a6;cases ei with
   |code _ _ K aj ei=>have q3:=aj;simp only[iJ]at q3;exact dX.steps (.one step_loop) ((aW _ _ _ _ _ ah).dk _ (.code _ _ _ q3 (.inLoop _ _ _ q3 ei)) b cs m w a hw (aL.clear _) a6)
  ·obtain⟨cn,nn,ah⟩:=c'.1 ah;intro K ei b cs m w a hw aL a6;cases ei with
   |code _ _ K aj ei=>obtain⟨DR,F,O⟩:=YW ei nn;exact dX.steps (.one (step_exit F)) ((aW _ _ _ _ _ ah).dk DR O b cs m w a hw aL a6)
  ·injection ah with ah;subst ah;intro K ei b cs m w a hw aL a6;cases ei with
   |code _ _ K aj ei=>exact⟨m,w,Ext.refl _ _,hw,k0 _ _,a,_,aL,a6,.one step_ret⟩
  ·exact YY cX (aW _ _ _ _ _ ah)
  ·cases ah
theorem OI{P:cp}{W:hh}(cX:k6 P W){g:cJ}{args:List I}{h:ad}{r:(I⊕I)×ad}(ah:a3 P W g args h=j r):AC P g args h r:=by
 unfold a3 at ah;split at ah
 ·rename_i ag cR;obtain⟨fn,_,_,hq⟩:=cX.ext g ag cR;exact hq args h r ah
 ·split at ah
  ·cases ah
  ·rename_i fn mR;split at ah
   ·cases ah
   ·rename_i c aj;split at ah
    ·cases ah
    ·rename_i bH;have yR:W.use g=Q:=by simpa using bH
     obtain⟨bT,an,ah⟩:=c'.1 ah;obtain⟨bN,DV,ah⟩:=c'.1 ah;exact(Im cX mR aj yR (DU cX _ _ _ _ _ an).dk bN DV).forget ah
inductive Arg where
 |v (D:Nat)
 |l (i:Nat)
 |c (a:I)
def arg(V L:List I):Arg->I
 |.v D=>V.getD D .aP
 |.l i=>L.getD i .aP
 |.c a=>a
inductive fC where
 |ba (x:Arg)
 |pick (c x y:Arg)
 |build (z:List I) (pl:List (Nat×Nat)) (parts:List (Nat×Arg))
 |k9 (x:Arg)
 |bin (eV:jw) (op:BinOp) (x y:Arg)
 |yT (eV:jw) (aZ:Option (List jw)) (kc:Bool) (op:BinOp) (x y:Arg)
 |un (op:UnOp) (x:Arg)
 |conv (eV:jw) (x:Arg)
 |AH (t:aT) (x:Arg)
 |DW (g:cJ) (first captured:List Arg)
 |yU (s:Bool) (e:Option aT) (x:Arg) (hg aa:Option Arg)
 |cy (off:Nat) (x:Arg)
 |AI (agg:Bool) (n off:Nat) (x:Arg)
 |ga (e:Option aT) (hs:Option (Nat×Nat)) (x k:Arg)
 |b8 (s:Bool) (hs:Option (Nat×Nat×Bool)) (x k:Arg)
 |AJ (aS:aT) (ok:Bool) (x:Arg)
 |ext (x:Arg) (i:Nat)
 |len (s:Bool) (e:Option aT) (x:Arg)
 |alloc (z:List I)
 |Ir (t:aT) (z:List I)
 |jG (lP:Bool) (x y:Arg)
 |box (n:Nat) (x:Arg)
 |Is (t:aT) (n:Nat) (x:Arg)
 |kC (a2:Bool) (e:aT) (z:List I) (n len:Nat) (parts:List (Nat×Arg))
 |It (e:aT) (z:List I) (n len:Nat) (parts:List (Nat×Arg))
 |load (agg:Bool) (n:Nat) (x:Arg)
 |store (n:Nat) (a x:Arg)
 |DX (e:aT) (z:List I) (l c:Arg)
 |app (a2:Bool) (e:aT) (x y:Arg)
 |apps (a2:Bool) (e:aT) (x y:Arg)
 |call (f:Arg) (args:List Arg)
 |vG (x:Arg)
inductive nw where
 |l
 |v (D:Nat)
 |n
structure tc where
 guard:Option (Arg×Bool)
 agg:Bool
 n:Nat
 a:Arg
 d:Arg
inductive aE where
 |i (d:nw) (E:fC)
 |g (a:Arg) (w:Bool) (d:nw) (E:fC)
 |bX (l:List tc)
inductive bl where
 |ops (l:List aE)
 |cond (a:Arg) (x y:List bl)
 |block (id:Nat) (b:List bl)
 |loop (b:List bl)
 |exit (id:Nat)
 |ret
inductive ic where
 |bO (l:List bl)
 |ops (l:List aE)
 |cb (id:Nat)
 |fI (b:List bl)
 |halt (K:List Item)
inductive mS where
 |v (D:Nat)
 |cell (agg:Bool) (n:Nat) (D:Nat)
def ft(e:Option aT)(hs:Option (Nat×Nat))(x k:I):Option I:=
 match x,k with
 |.bR _ el es,.int _ k=>if e=j el/\0<=k then(es[k.toNat]?).map λe=>.ip e 0 else ab
 |.bd b E n el,.int _ k=>if e=j el/\0<=k/\k<n then j (.ptr b (E+k.toNat) 0)else ab
 |.ptr b i off,.int _ k=>hs.bind λq=>if q.2≠0/\0<=k/\k<q.1 then j (.ptr b i (off+k.toNat*q.2))else ab
 |.ip e off,.int _ k=>hs.bind λq=>if q.2≠0/\0<=k/\k<q.1 then j (.ip e (off+k.toNat*q.2))else ab
 |_,_=>ab
def AK(s:Bool)(hs:Option (Nat×Nat×Bool))(x k:I):Option I:=
 match x,k with
 |.str l,.int _ k=>if s=Q/\0<=k then(l[k.toNat]?).map λc=>.int .u8 c.toNat else ab
 |.agg cs,.int _ k=>hs.bind λq=>if q.2.1≠0/\0<=k/\k<q.1 then gG q.2.2 q.2.1 cs (k.toNat*q.2.1)else ab
 |_,_=>ab
def jL(s:Bool)(e:Option aT):I->Bool
 |.str _=>s
 |.bR _ el _=>e==j el
 |.bd _ _ _ el=>e==j el
 |.aF=>e.isSome
 |_=>T
def AL:I->Option I
 |.ptr b i off=>j (.ptr b i off)
 |.e2 t b=>j (.e2 t b)
 |.ip e off=>j (.ip e off)
 |.fn f a c=>j (.fn f a c)
 |.iface q v=>j (.iface q v)
 |_=>ab
def Iu:jw->Bool
 |.iface=>Q
 |_=>T
def pn(eV:jw)(aZ:Option (List jw))(kc:Bool)(op:BinOp)(x y:I):Option I:=
 match x,y with
 |.hb,.hb=>if Iu eV&&kc then(match op with|.eql=>j (.bool Q)|.neq=>j (.bool T)|_=>ab)else ab
 |.agg xs,.agg dZ=>aZ.bind λaZ=>match op with
   |.eql=>(qK aZ xs dZ).map λb=>.bool b
   |.neq=>(qK aZ xs dZ).map λb=>.bool !b
   |_=>ab
 |a,b=>dV eV op a b
def Iv(c x y:I):Option I:=match c with
 |.bool v=>j (if v then x else y)
 |_=>ab
def DY(t:aT)(x:I):Option I:=if x.one then j (.iface t x)else match x with
 |.agg cs=>j (.iface t (.agg cs))
 |_=>ab
def yV(aS:aT)(ok:Bool):I->Option I
 |.iface q v=>if q=aS then j (if ok then .bW [v,.bool Q]else v)else ab
 |_=>ab
def Iw(x:I)(i:Nat):Option I:=match x with
 |.bW br=>br[i]?
 |_=>ab
def DZ(agg:Bool)(n off:Nat):I->Option I
 |.agg cs=>gG agg n cs off
 |_=>ab
def Ix(e:aT)(z:List I)(l c:I)(h:ad):Option (I×ad):=match l,c with
 |.int _ n,.int _ m=>if 0<=n/\n=m/\n<=100000 then j (.bd h.n 0 n.toNat e,h.push (ax n.toNat z))else ab
 |_,_=>ab
def gA(V L:List I)(h:ad):fC->Option (I×ad)
 |.ba x=>j (arg V L x,h)
 |.pick c x y=>(Iv (arg V L c) (arg V L x) (arg V L y)).map λv=>(v,h)
 |.build z pl parts=>(nS pl z (parts.map λq=>(q.1,arg V L q.2))).map λcs=>(.agg cs,h)
 |.k9 x=>(AL (arg V L x)).map λv=>(v,h)
 |.bin eV op x y=>(dV eV op (arg V L x) (arg V L y)).map λv=>(v,h)
 |.yT eV aZ kc op x y=>(pn eV aZ kc op (arg V L x) (arg V L y)).map λv=>(v,h)
 |.un op x=>(wM op (arg V L x)).map λv=>(v,h)
 |.conv eV x=>(vp eV (arg V L x)).map λv=>(v,h)
 |.AH t x=>(DY t (arg V L x)).map λv=>(v,h)
 |.DW g first captured=>j (.fn g (first.map (arg V L)) (captured.map (arg V L)),h)
 |.yU s e x hg aa=>if jL s e (arg V L x)then(tV (arg V L x) (hg.map (arg V L)) (aa.map (arg V L))).map λv=>(v,h)else ab
 |.cy off x=>(cf off (arg V L x)).map λv=>(v,h)
 |.AI agg n off x=>(DZ agg n off (arg V L x)).map λv=>(v,h)
 |.ga e hs x k=>(ft e hs (arg V L x) (arg V L k)).map λv=>(v,h)
 |.b8 s hs x k=>(AK s hs (arg V L x) (arg V L k)).map λv=>(v,h)
 |.AJ aS ok x=>(yV aS ok (arg V L x)).map λv=>(v,h)
 |.ext x i=>(Iw (arg V L x) i).map λv=>(v,h)
 |.len s e x=>if jL s e (arg V L x)then(h0 (arg V L x)).map λ(n:Nat)=>(C6 n,h)else ab
 |.alloc z=>j (.ptr h.n 0 0,h.push [z])
 |.Ir t z=>j (.e2 t h.n,h.push [z])
 |.jG lP x y=>(vq lP (arg V L x) (arg V L y)).map λv=>(v,h)
 |.box n x=>if(arg V L x).cells.all I.one/\(arg V L x).cells.length=n then j (.ptr h.n 0 0,h.push [(arg V L x).cells])else ab
 |.Is t n x=>if(arg V L x).cells.all I.one/\(arg V L x).cells.length=n then j (.e2 t h.n,h.push [(arg V L x).cells])else ab
 |.kC a2 e z n len parts=>(nT n (ax len z) (parts.map λq=>(q.1,arg V L q.2))).map λes=>if a2 then(.bd h.n 0 len e,h.push es)else(.bR (j h.ids) e es,h.fresh len)
 |.It e z n len parts=>(nT n (ax len z) (parts.map λq=>(q.1,arg V L q.2))).map λes=>(.bR ab e es,h)
 |.load agg n x=>(c0 agg n h (arg V L x)).map λv=>(v,h)
 |.store n a x=>(ew n h (arg V L a) (arg V L x)).map λJ=>(.aP,J)
 |.DX e z l c=>Ix e z (arg V L l) (arg V L c) h
 |.app a2 e x y=>fx a2 e (arg V L x) (arg V L y) h
 |.apps a2 e x y=>z' a2 e (arg V L x) (arg V L y) h
 |.call _ _=>ab
 |.vG _=>ab
def xc(V L:List I)(a:Arg)(w:Bool):Option Bool:=match arg V L a with
 |.bool b=>j (if w then b else !b)
 |.bW _=>j T
 |_=>ab
def yW(V L:List I):Option (Arg×Bool)->Option Bool
 |none=>j Q
 |some (a,w)=>xc V L a w
def td(V L:List I)(h:ad):List tc->Prop
 |[]=>True
 |q::r=>(match yW V L q.guard with
    |some Q=>c0 q.agg q.n h (arg V L q.a)=j (arg V L q.d)
    |_=>True)/\td V L h r
def gV(V L:List I):fC->Option (cJ×List I)
 |.call f args=>match arg V L f with
   |.fn g first captured=>j (g,first++args.map (arg V L)++captured)
   |_=>ab
 |_=>ab
def vH(V L:List I):fC->Option I
 |.vG x=>match arg V L x with
   |.iface q v=>j (.iface q v)
   |_=>ab
 |_=>ab
def jz(V:List I)(v:I):nw->List I
 |.v D=>V.set D v
 |_=>V
def jX(L:List I)(v:I):nw->List I
 |.l=>v::L
 |_=>L
def ly(id:Nat):List ic->Option (List ic)
 |[]=>ab
 |.cb i::k=>if i=id then j k else ly id k
 |.halt _::_=>ab
 |_::k=>ly id k
open Classical in
noncomputable def bo(C:cJ->List I->ad->Option ((I⊕I)×ad))(aI:Nat)(k:List ic)(V L:List I)(h:ad):Option (jd×List I×ad):=
 match k with
 |[]=>j (.ret,V,h)
 |.bO []::k=>bo C aI k V L h
 |.bO (s::l)::k=>
   match s with
   |.ops bA=>bo C aI (.ops bA::.bO l::k) V [] h
   |.cond a x y=>match arg V [] a with
     |.bool b=>if b then bo C aI (.bO x::.bO l::k) V [] h else bo C aI (.bO y::.bO l::k) V [] h
     |_=>ab
   |.block id b=>bo C aI (.bO b::.cb id::.bO l::k) V L h
   |.loop b=>bo C aI (.fI b::.bO l::k) V L h
   |.exit id=>ly id k>>= λcn=>bo C aI cn V L h
   |.ret=>j (.ret,V,h)
 |.cb _::k=>bo C aI k V L h
 |.halt K::_=>j (.halt K,V,h)
 |.fI b::k=>bo C aI (.bO b::.fI b::k) (cF aI V) L h
 |.ops []::k=>bo C aI k V [] h
 |.ops (.bX l::bA)::k=>if td V L h l then bo C aI (.ops bA::k) V L h else ab
 |.ops (.i d E::bA)::k=>
  match vH V L E with
  |some v=>j (.panic v,V,h)
  |none=>
   match gV V L E with
   |some (g,args)=>C g args h>>= λr=>match r.1 with
     |.inl v=>bo C aI (.ops bA::k) (jz V v d) (jX L v d) r.2
     |.inr v=>j (.panic v,V,r.2)
   |none=>gA V L h E>>= λr=>bo C aI (.ops bA::k) (jz V r.1 d) (jX L r.1 d) r.2
 |.ops (.g a w d E::bA)::k=>
   match xc V L a w with
   |none=>ab
   |some T=>bo C aI (.ops bA::k) (jz V (.bW []) d) (jX L (.bW []) d) h
   |some Q=>
    match vH V L E with
    |some v=>j (.panic v,V,h)
    |none=>
     match gV V L E with
     |some (g,args)=>C g args h>>= λr=>match r.1 with
       |.inl v=>bo C aI (.ops bA::k) (jz V v d) (jX L v d) r.2
       |.inr v=>j (.panic v,V,r.2)
     |none=>gA V L h E>>= λr=>bo C aI (.ops bA::k) (jz V r.1 d) (jX L r.1 d) r.2
partial_fixpoint
section
variable(P:cp)
def re(l:List Nat)(i:Nat):Option Nat:=go l 0
where go:List Nat->Nat->Option Nat
 |[],_=>ab
 |x::l,n=>if x=i then j n else go l (n+1)
def ii(aY lm:List Nat):fi->Option Arg
 |.tmp i=>match re lm i with
   |some k=>j (.l k)
   |none=>(re aY i).map .v
 |.const v=>j (.c (wK v))
 |.func f=>j (.c (.fn f [] []))
 |.global _=>ab
def xd(aY lm:List Nat):List fi->Option (List Arg)
 |[]=>j []
 |x::l=>(ii aY lm x).bind λa=>(xd aY lm l).map (a::·)
def D0(a b:Bool)(e:aT)(z:List I)(n len:Nat)(f':List (Nat×Arg)):fC:=if a then .kC Q e z n len f' else if b then .It e z n len f' else .kC T e z n len f'
def yX(aY lm:List Nat):List (Nat×fi)->Option (List (Nat×Arg))
 |[]=>j []
 |x::l=>(ii aY lm x.2).bind λa=>(yX aY lm l).map ((x.1,a)::·)
def AM(aY lm:List Nat):Option fi->Option (Option Arg)
 |none=>j ab
 |some x=>(ii aY lm x).map j
def xe:jw->Bool
 |.iface|.agg|.other=>T
 |_=>Q
def D1:fi->Bool
 |.const _=>Q
 |_=>T
def uv(a2:aT->Bool)(aY lm:List Nat)(E:a0):Option fC:=
 let A:=ii aY lm
 match E.op with
 |.move x=>(A x).map .ba
 |.assign x=>(A x).map .ba
 |.pick c x y=>(A c).bind λc=>(A x).bind λx=>(A y).map λy=>.pick c x y
 |.build ty parts=>(jv P ty).bind λz=>(yX aY lm parts.toList).bind λf'=>match qJ P ty with
   |some pl=>if pl.all (λq=>cB P q.2 != 0)then j (.build z (pl.map λq=>(q.1,cB P q.2)) f')else ab
   |none=>(o9 P ty).bind λq=>if cB P q.2=0 then ab else j (.build z ((iQ q.1).map λi=>(i*cB P q.2,cB P q.2)) f')
 |.nilCheck x=>(A x).map .k9
 |.binOp op ty x y _=>(A x).bind λiI=>(A y).map λp'=>if xe (gR P ty)then .bin (gR P ty) op iI p' else .yT (gR P ty) (sU P ty) (D1 y) op iI p'
 |.unOp op _ x=>(A x).map (.un op)
 |.convert src dst x=>if(P.underlying src).isNone then ab else(A x).map (.conv (gR P dst))
 |.makeInterface ty x=>if tS P ty=T then ab else(A x).map (.AH ty)
 |.makeFunc f first captured=>match f with
   |.func g=>(xd aY lm first.toList).bind λa=>(xd aY lm captured.toList).map λc=>.DW g a c
   |_=>ab
 |.slice ty x hg aa lP=>if lP.isSome then ab else(A x).bind λx=>(AM aY lm hg).bind λhg=>(AM aY lm aa).map λaa=>.yU (nc P ty) (i0 P ty) x hg aa
 |.fieldAddr s x f=>((qJ P s).bind (·[f]?)).bind λq=>if cB P q.2=0 then ab else(A x).map (.cy q.1)
 |.field s x f=>((qJ P s).bind (·[f]?)).bind λq=>if cB P q.2=0\/(P.underlying q.2).isNone then ab else(A x).map (.AI (jc P q.2) (cB P q.2) q.1)
 |.indexAddr ty x b8=>(A x).bind λx=>(A b8).map λk=>.ga (i0 P ty) ((o9 P ty).map λq=>(q.1,cB P q.2)) x k
 |.index ty x b8=>(A x).bind λx=>(A b8).map λk=>.b8 (nc P ty) ((o9 P ty).bind λq=>if(P.underlying q.2).isSome then j (q.1,cB P q.2,jc P q.2)else ab) x k
 |.typeAssert x _ aS ok=>if tS P aS=Q then(A x).map (.AJ aS ok)else ab
 |.extract x i=>(A x).map λx=>.ext x i
 |.call {callee:=.builtin .len,args,argTypes}=>match args.toList,argTypes.toList with
   |[x],ty::_=>(A x).map (.len (nc P ty) (i0 P ty))
   |_,_=>ab
 |.alloc e=>(jv P e).map λz=>if a2 e then .Ir e z else .alloc z
 |.box e x=>(A x).map λx=>if a2 e then .Is e (cB P e) x else .box (cB P e) x
 |.buildSlice ty len parts=>(i0 P ty).bind λe=>(jv P e).bind λz=>if len*cB P e<=16777216 then(yX aY lm parts.toList).map (D0 (a2 ty) (a2 (ty+1000000)) e z (cB P e) len)else ab
 |.load ty a=>if(P.underlying ty).isNone then ab else(A a).map (.load (jc P ty) (cB P ty))
 |.store ty a x=>if cB P ty=0 then ab else(A a).bind λa=>(A x).map (.store (cB P ty) a)
 |.makeSlice ty l c=>(i0 P ty).bind λe=>(jv P e).bind λz=>(A l).bind λl=>(A c).map λc=>.DX e z l c
 |.call {callee:=.builtin .append,args,argTypes}=>match args.toList,argTypes.toList with
   |[x,y],[ty,rO]=>if ty=rO then(i0 P ty).bind λe=>if(jv P e).isSome then(A x).bind λx=>(A y).map λy=>.app (a2 ty) e x y else ab else if nc P rO then(i0 P ty).bind λe=>if z9 P e then(A x).bind λx=>(A y).map λy=>.apps (a2 ty) e x y else ab else ab
   |_,_=>ab
 |.call {callee:=.value f,args,..}=>(A f).bind λf=>(xd aY lm args.toList).map (.call f)
 |.panic x=>(A x).map .vG
 |.call {callee:=.builtin .min,args,..}=>match args.toList with
   |[x,y]=>(A x).bind λx=>(A y).map (.jG T x)
   |_=>ab
 |.call {callee:=.builtin .max,args,..}=>match args.toList with
   |[x,y]=>(A x).bind λx=>(A y).map (.jG Q x)
   |_=>ab
 |_=>ab
def yY(aY lm:List Nat)(all:Array a0)(E:a0):Option (Option (Arg×Bool)):=
 match E.guard with
 |none=>j ab
 |some (D,want)=>((all[D]?).bind (·.dst)).bind λd=>(ii aY lm (.tmp d)).map λa=>j (a,want)
def OJ(aY lm:List Nat)(all:Array a0)(E:a0):Option tc:=
 match E.op,E.dst with
 |.load ty a,j d=>(yY aY lm all E).bind λg=>(ii aY lm a).bind λa=>(ii aY lm (.tmp d)).map λd=>⟨g,jc P ty,cB P ty,a,d⟩
 |.store ty a x,ab=>(yY aY lm all E).bind λg=>(ii aY lm a).bind λa=>(ii aY lm x).map λd=>⟨g,jc P ty,cB P ty,a,d⟩
 |_,_=>ab
def vI(aY lm:List Nat)(all:Array a0):List a0->Option (List tc)
 |[]=>j []
 |E::l=>(OJ P aY lm all E).bind λq=>(vI aY lm all l).map (q::·)
def xf(n:Nat)(aY lm:List Nat):Option Tmp->Option (nw×List Nat)
 |none=>j (.n,lm)
 |some d=>if n<=d\/(re lm d).isSome then ab else match re aY d with
   |some D=>j (.v D,lm)
   |none=>j (.l,d::lm)
def OK(g:Option (Arg×Bool))(d:nw)(r:fC):aE:=match g with
 |none=>.i d r
 |some (a,w)=>.g a w d r
def D2(c:List tc)(bA:List aE):List aE:=match c with
 |[]=>bA
 |q::c=>.bX (q::c)::bA
def nx(a2:aT->Bool)(n:Nat)(aY:List Nat)(all:Array a0):List Nat->List (a0×List a0)->Option (List aE)
 |_,[]=>j []
 |lm,(E,bX)::l=>(uv P a2 aY lm E).bind λr=>(yY aY lm all E).bind λg=>(xf n aY lm E.dst).bind λd=>(vI P aY d.2 all bX).bind λc=>(nx a2 n aY all d.2 l).map λbA=>OK g d.1 r::D2 c bA
def gW(a2:aT->Bool)(cm:Nat->List (Nat×List Nat))(n:Nat)(aY:List Nat):ff->List bl->Option (List bl)
 |.skip,r=>j r
 |.label _,r=>j r
 |.seq a b,r=>(gW a2 cm n aY b r).bind λr=>gW a2 cm n aY a r
 |.cond c x y,r=>(ii aY [] c).bind λc=>(gW a2 cm n aY x []).bind λx=>(gW a2 cm n aY y []).map λy=>.cond c x y::r
 |.block id b,r=>(gW a2 cm n aY b []).map λb=>.block id b::r
 |.loop b,r=>(gW a2 cm n aY b []).map λb=>.loop b::r
 |.exit id,r=>j (.exit id::r)
 |.ret,r=>j (.ret::r)
 |.region id ops d,r=>(nx P a2 n aY ops [] (iK d ops (cm id))).map λbA=>.ops bA::r
 |_,_=>ab
def po(aY:List Nat):List ResultVar->Option (List mS)
 |[]=>j []
 |.tmp i::l=>(re aY i).bind λD=>(po aY l).map (.v D::·)
 |.cell i ty::l=>if(P.underlying ty).isNone then ab else(re aY i).bind λD=>(po aY l).map (.cell (jc P ty) (cB P ty) D::·)
end
def ie(V:List I)(h:ad):List mS->Option (List I)
 |[]=>j []
 |.v D::rs=>(ie V h rs).map λl=>V.getD D .aP::l
 |.cell agg n D::rs=>(c0 agg n h (V.getD D .aP)).bind λv=>(ie V h rs).map λl=>v::l
structure fV(n:Nat)(aY lm:List Nat)(t V L:List I):Prop where
 len:t.length=n
 dy:V.length=aY.length
 te:L.length=lm.length
 v:∀D s,aY[D]? =j s->s<n/\t.getD s .aP=V.getD D .aP
 l:∀D s,lm[D]? =j s->s<n/\t.getD s .aP=L.getD D .aP
section
variable{P:cp}{W:hh}{f:cJ}{n:Nat}{aY lm:List Nat}{t V L:List I}{h:ad}{a2:aT->Bool}
theorem OL{i:Nat}:∀(l:List Nat) (m k:Nat),re.go i l m=j k->m<=k/\l[k - m]? =j i
 |[],m,k,he=>by simp[re.go]at he
 |x::l,m,k,he=>by
   simp only[re.go]at he;split at he
   ·rename_i an;injection he with he;subst he;exact⟨bV _,by simp[an]⟩
   ·obtain⟨F,O⟩:=OL l (m+1) k he;refine⟨by omega,?_⟩;rw[show k - m=(k - (m+1))+1 by omega,List.getElem?_cons_succ];exact O
theorem AN{l:List Nat}{i k:Nat}(he:re l i=j k):l[k]? =j i:=by simpa using(OL l 0 k he).2
theorem Iy{i:Nat}:∀(l:List Nat) (m:Nat),re.go i l m=ab->i ∉ l
 |[],m,_=>by simp
 |x::l,m,he=>by
   simp only[re.go]at he;split at he
   ·cases he
   ·rename_i an;have:=Iy l (m+1) he;simp only[pi,not_or];exact⟨λe=>an e.symm,this⟩
theorem gn(r:fV n aY lm t V L){x:fi}{a:Arg}(he:ii aY lm x=j a):be t x=arg V L a:=by
 cases x with
 |tmp i=>
   simp only[ii]at he;split at he
   ·rename_i k Z;injection he with he;subst he;exact(r.l k i (AN Z)).2
   ·obtain⟨D,U,rfl⟩:=dd.1 he;exact(r.v D i (AN U)).2
 |const v=>simp only[ii,g5]at he;subst he;rfl
 |func g=>simp only[ii,g5]at he;subst he;rfl
 |global g=>simp[ii]at he
theorem D3(r:fV n aY lm t V L):∀{xs:List fi} {aS:List Arg},xd aY lm xs=j aS->xs.map (be t)=aS.map (arg V L)
 |[],aS,he=>by simp[xd]at he;subst he;rfl
 |x::xs,aS,he=>by simp only[xd]at he;obtain⟨a,aM,he⟩:=c'.1 he;obtain⟨Ii,has,rfl⟩:=dd.1 he;simp[gn r aM,D3 r has]
theorem Iz(r:fV n aY lm t V L):∀{xs:List (Nat×fi)} {aS:List (Nat×Arg)},yX aY lm xs=j aS->(xs.map λq=>(q.1,be t q.2))=aS.map λq=>(q.1,arg V L q.2)
 |[],aS,he=>by simp[yX]at he;subst he;rfl
 |x::xs,aS,he=>by simp only[yX]at he;obtain⟨a,aM,he⟩:=c'.1 he;obtain⟨Ii,has,rfl⟩:=dd.1 he;simp[gn r aM,Iz r has]
theorem OM(r:fV n aY lm t V L){x:Option fi}{a:Option Arg}(he:AM aY lm x=j a):x.map (be t)=a.map (arg V L):=by
 cases x with
 |none=>simp[AM]at he;subst he;rfl
 |some x=>simp only[AM]at he;obtain⟨a,aM,rfl⟩:=dd.1 he;simp[gn r aM]
theorem ON(P:cp)(ty:aT)(x:I):tT P ty x=jL (nc P ty) (i0 P ty) x:=by cases x<;>rfl
theorem Y3(P:cp)(ty:aT)(x k:I):d8 P ty x k=ft (i0 P ty) ((o9 P ty).map λq=>(q.1,cB P q.2)) x k:=by cases x<;>cases k<;>first|rfl|(simp only[d8,ft];cases o9 P ty<;>rfl)
theorem Y4(P:cp)(ty:aT)(x k:I):tW P ty x k=AK (nc P ty) ((o9 P ty).bind λq=>if(P.underlying q.2).isSome then j (q.1,cB P q.2,jc P q.2)else ab) x k:=by
 cases x<;>cases k<;>first|rfl|skip
 simp only[tW,AK];cases o9 P ty with
 |none=>rfl
 |some q=>cases bH:(P.underlying q.2).isSome<;>simp[bH]
theorem Y5(eV:jw)(op:BinOp):dV eV op .hb .hb=ab:=by unfold dV;simp only;split<;>(cases eV<;>rfl)
theorem Y6(eV:jw)(op:BinOp)(xs dZ:List I):dV eV op (.agg xs) (.agg dZ)=ab:=by unfold dV;simp only;split<;>(cases eV<;>rfl)
theorem Y7(r:fV n aY lm t V L){E:a0}{k':fC}(he:uv P a2 aY lm E=j k'):eK P a2 t h E=gA V L h k'/\eW t E=gV V L k':=by
 unfold uv at he;simp only at he;split at he
 case h_1 x am=>
  obtain⟨a,aM,rfl⟩:=dd.1 he;exact⟨by simp[eK,iP,am,gA,gn r aM],by simp[eW,gV,am]⟩
 case h_2 x am=>
  obtain⟨a,aM,rfl⟩:=dd.1 he;exact⟨by simp[eK,iP,am,gA,gn r aM],by simp[eW,gV,am]⟩
 case h_3 c x y am=>
  obtain⟨fy,aj,he⟩:=c'.1 he;obtain⟨iI,an,he⟩:=c'.1 he;obtain⟨p',bF,rfl⟩:=dd.1 he;refine⟨?_,by simp[eW,gV,am]⟩;simp only[eK,iP,am,gA,gn r aj,gn r an,gn r bF];rfl
 case h_4 ty parts am=>
  obtain⟨z,aN,he⟩:=c'.1 he;obtain⟨f',vJ,he⟩:=c'.1 he;have aB:=Iz r vJ;split at he
  ·rename_i pl ky;split at he
   ·rename_i lV;injection he with he;subst he;exact⟨by simp only[eK,iP,am,gA,aN,ky,c7,lV,if_true,aB,Option.map_map];rfl,by simp[eW,gV,am]⟩
   ·cases he
  ·rename_i ky;obtain⟨q,aG,he⟩:=c'.1 he;split at he
   ·cases he
   ·rename_i Ao;injection he with he;subst he;exact⟨by simp only[eK,iP,am,gA,aN,ky,aG,c7,Ao,if_false,aB,Option.map_map];rfl,by simp[eW,gV,am]⟩
 case h_5 x am=>
  obtain⟨a,aM,rfl⟩:=dd.1 he;exact⟨by simp only[eK,iP,am,gA,gn r aM];rfl,by simp[eW,gV,am]⟩
 case h_6 op ty x y qV am=>
  obtain⟨iI,an,he⟩:=c'.1 he;obtain⟨p',bF,rfl⟩:=dd.1 he;refine⟨?_,by split<;>simp[eW,gV,am]⟩;have ao:gA V L h (if xe (gR P ty)then .bin (gR P ty) op iI p' else .yT (gR P ty) (sU P ty) (D1 y) op iI p')=(if xe (gR P ty)then dV (gR P ty) op (arg V L iI) (arg V L p')else pn (gR P ty) (sU P ty) (D1 y) op (arg V L iI) (arg V L p')).map λv=>(v,h):=by split<;>rfl
  rw[ao];have IA:xe (gR P ty)=Q->sU P ty=ab:=by
   intro Z;unfold sU;split
   ·rename_i cP sZ;simp[gR,sZ,xe]at Z
   ·rfl
  have aq:iP P t E=if xe (gR P ty)then dV (gR P ty) op (arg V L iI) (arg V L p')else pn (gR P ty) (sU P ty) (D1 y) op (arg V L iI) (arg V L p'):=by
   simp only[iP,am,gn r an,gn r bF];generalize arg V L iI=X;generalize arg V L p'=Y;generalize gR P ty=eV at*;generalize sU P ty=aZ at*;cases av:xe eV
   ·simp only[mI,if_false];cases X<;>first|rfl|skip
    ·cases Y<;>first|rfl|(cases eV<;>cases y<;>cases op<;>rfl)
    ·cases Y<;>rfl
   ·simp only[if_true];have ae:=IA av;subst ae;cases X<;>first|rfl|skip
    ·cases Y<;>first|rfl|skip
     rw[Y5];cases eV<;>first|rfl|cases av
    ·cases Y<;>first|rfl|skip
     rw[Y6];rfl
  simp only[eK,am];rw[aq]
 case h_7 op ty x am=>
  obtain⟨a,aM,rfl⟩:=dd.1 he;exact⟨by simp only[eK,iP,am,gA,gn r aM],by simp[eW,gV,am]⟩
 case h_8 src dst x am=>
  split at he
  ·cases he
  ·rename_i au;obtain⟨a,aM,rfl⟩:=dd.1 he;exact⟨by simp only[eK,iP,am,gA,gn r aM,au];rfl,by simp[eW,gV,am]⟩
 case h_9 ty x am=>
  split at he
  ·cases he
  ·rename_i au;obtain⟨a,aM,rfl⟩:=dd.1 he;exact⟨by simp only[eK,iP,am,gA,gn r aM,au];rfl,by simp[eW,gV,am]⟩
 case h_10 g first captured am=>
  split at he
  ·obtain⟨a,aM,he⟩:=c'.1 he;obtain⟨c,aj,rfl⟩:=dd.1 he;exact⟨by simp[eK,iP,am,gA,D3 r aM,D3 r aj],by simp[eW,gV,am]⟩
  ·cases he
 case h_11 ty x hg aa lP am=>
  split at he
  ·cases he
  ·rename_i i2;obtain⟨a,aM,he⟩:=c'.1 he;obtain⟨am1,Dp,he⟩:=c'.1 he;obtain⟨eb,Dn,rfl⟩:=dd.1 he;refine⟨?_,by simp[eW,gV,am]⟩;simp only[eK,iP,am,gA,gn r aM,OM r Dp,OM r Dn,ON];cases bc:jL (nc P ty) (i0 P ty) (arg V L a)<;>simp[i2]
 case h_12 s x AO am=>
  obtain⟨q,aG,he⟩:=c'.1 he;split at he
  ·cases he
  ·rename_i au;obtain⟨a,aM,rfl⟩:=dd.1 he;exact⟨by simp only[eK,iP,am,gA,gn r aM,aG,c7,au,if_false],by simp[eW,gV,am]⟩
 case h_13 s x AO am=>
  obtain⟨q,aG,he⟩:=c'.1 he;split at he
  ·cases he
  ·rename_i au;obtain⟨a,aM,rfl⟩:=dd.1 he;exact⟨by simp only[eK,iP,am,gA,gn r aM,aG,c7,au,if_false];rfl,by simp[eW,gV,am]⟩
 case h_14 ty x b8 am=>
  obtain⟨a,aM,he⟩:=c'.1 he;obtain⟨k,Z,rfl⟩:=dd.1 he;exact⟨by simp only[eK,iP,am,gA,gn r aM,gn r Z,Y3],by simp[eW,gV,am]⟩
 case h_15 ty x b8 am=>
  obtain⟨a,aM,he⟩:=c'.1 he;obtain⟨k,Z,rfl⟩:=dd.1 he;exact⟨by simp only[eK,iP,am,gA,gn r aM,gn r Z,Y4],by simp[eW,gV,am]⟩
 case h_16 x Aj aS ok am=>
  split at he
  ·rename_i aB;obtain⟨a,aM,rfl⟩:=dd.1 he;refine⟨?_,by simp[eW,gV,am]⟩;simp only[eK,iP,am,gA,gn r aM,aB,true_and];rfl
  ·cases he
 case h_17 x i am=>
  obtain⟨a,aM,rfl⟩:=dd.1 he;exact⟨by simp only[eK,iP,am,gA,gn r aM];rfl,by simp[eW,gV,am]⟩
 case h_18 args argTypes am=>
  split at he
  ·rename_i x ty oH ao aq;obtain⟨a,aM,rfl⟩:=dd.1 he;refine⟨?_,by simp[eW,gV,am]⟩;simp only[eK,iP,am,gA,ao,aq,gn r aM,ON];split<;>simp[Option.map_map,Function.comp_def]
  ·cases he
 case h_19 e am=>
  obtain⟨z,aN,rfl⟩:=dd.1 he;refine⟨?_,?_⟩
  ·simp only[eK,am,aN,hj];split<;>rfl
  ·split<;>simp[eW,gV,am]
 case h_20 e x am=>
  obtain⟨a,aM,rfl⟩:=dd.1 he;refine⟨?_,?_⟩
  ·simp only[eK,am,gn r aM];split<;>split<;>simp_all [gA]
  ·split<;>simp[eW,gV,am]
 case h_21 ty len parts am=>
  obtain⟨e,gs,he⟩:=c'.1 he;obtain⟨z,aN,he⟩:=c'.1 he;split at he
  ·rename_i aj;obtain⟨f',vJ,rfl⟩:=dd.1 he;refine⟨?_,?_⟩
   ·simp only[eK,am,gs,aN,c7,if_pos aj,Iz r vJ];unfold D0;cases a2 ty
    ·cases a2 (ty+1000000)
     ·simp only[mI,if_false,gA]
     ·simp only[mI,if_false,if_true,gA]
    ·simp only[if_true,gA]
   ·unfold D0;split
    ·simp[eW,gV,am]
    ·split<;>simp[eW,gV,am]
  ·cases he
 case h_22 ty a am=>
  split at he
  ·cases he
  ·rename_i au;obtain⟨a,aM,rfl⟩:=dd.1 he;exact⟨by simp only[eK,am,gA,gn r aM,au];rfl,by simp[eW,gV,am]⟩
 case h_23 ty a x am=>
  split at he
  ·cases he
  ·rename_i au;obtain⟨a,aM,he⟩:=c'.1 he;obtain⟨x,an,rfl⟩:=dd.1 he;exact⟨by simp only[eK,am,gA,gn r aM,gn r an,au,if_false],by simp[eW,gV,am]⟩
 case h_24 ty l c am=>
  obtain⟨e,gs,he⟩:=c'.1 he;obtain⟨z,aN,he⟩:=c'.1 he;obtain⟨a,aM,he⟩:=c'.1 he;obtain⟨k,Z,rfl⟩:=dd.1 he;exact⟨by simp only[eK,am,gA,gn r aM,gn r Z,gs,aN,c7];rfl,by simp[eW,gV,am]⟩
 case h_25 args argTypes am=>
  split at he
  ·rename_i x y ty rO ao aq;split at he
   ·rename_i aL;obtain⟨e,gs,he⟩:=c'.1 he;split at he
    ·rename_i aN;obtain⟨a,aM,he⟩:=c'.1 he;obtain⟨k,Z,rfl⟩:=dd.1 he;exact⟨by simp only[eK,am,gA,ao,aq,gn r aM,gn r Z,if_pos aL,gs,c7,if_pos aN],by simp[eW,gV,am]⟩
    ·cases he
   ·rename_i aL;split at he
    ·rename_i bB;obtain⟨e,gs,he⟩:=c'.1 he;split at he
     ·rename_i hA;obtain⟨a,aM,he⟩:=c'.1 he;obtain⟨k,Z,rfl⟩:=dd.1 he;exact⟨by simp only[eK,am,gA,ao,aq,gn r aM,gn r Z,if_neg aL,if_pos bB,gs,c7,if_pos hA],by simp[eW,gV,am]⟩
     ·cases he
    ·cases he
  ·cases he
 case h_26 yH args N6 am=>
  obtain⟨a,aM,he⟩:=c'.1 he;obtain⟨aS,has,rfl⟩:=dd.1 he;refine⟨by simp[eK,iP,am,gA],?_⟩;simp only[eW,gV,am,gn r aM,D3 r has];rfl
 case h_27 x am=>
  obtain⟨a,aM,rfl⟩:=dd.1 he;exact⟨by simp[eK,iP,am,gA],by simp[eW,gV,am]⟩
 case h_28 args _ am=>
  split at he
  ·rename_i x y ao;obtain⟨a,aM,he⟩:=c'.1 he;obtain⟨k,Z,rfl⟩:=dd.1 he;exact⟨by simp only[eK,iP,am,ao,gA,gn r aM,gn r Z],by simp[eW,gV,am]⟩
  ·cases he
 case h_29 args _ am=>
  split at he
  ·rename_i x y ao;obtain⟨a,aM,he⟩:=c'.1 he;obtain⟨k,Z,rfl⟩:=dd.1 he;exact⟨by simp only[eK,iP,am,ao,gA,gn r aM,gn r Z],by simp[eW,gV,am]⟩
  ·cases he
 case h_30=>cases he
theorem Y8{E:a0}{x:Arg}(he:uv P a2 aY lm E=j (.vG x)):∃y,E.op= .panic y/\ii aY lm y=j x:=by
 unfold uv at he;simp only at he;split at he
 case h_27 y am=>
  obtain⟨a,aM,e⟩:=dd.1 he;injection e with e;subst e;exact⟨y,am,aM⟩
 case h_21 ty len parts am=>
  obtain⟨e,gs,he⟩:=c'.1 he;obtain⟨z,aN,he⟩:=c'.1 he;split at he
  ·obtain⟨f',vJ,he⟩:=dd.1 he;unfold D0 at he;split at he
   ·cases he
   ·split at he<;>cases he
  ·cases he
 all_goals
  exfalso
  try (cases he;done)
  try simp only[dd,c',reduceCtorEq,and_false,exists_false]at he
 case h_4=>
  obtain⟨_,_,_,_,he⟩:=he;split at he
  ·split at he<;>cases he
  ·obtain⟨_,_,he⟩:=c'.1 he;split at he<;>cases he
 all_goals repeat' (first
   |(cases he;done)
   |split at he
   |(obtain⟨_,_,he⟩:=he)
   |(simp only[dd,c',reduceCtorEq,and_false,exists_false]at he))
theorem Y9(r:fV n aY lm t V L){E:a0}{k':fC}(he:uv P a2 aY lm E=j k'):lQ t E=vH V L k':=by
 cases k' with
 |vG x=>obtain⟨y,F,O⟩:=Y8 he;simp only[lQ,F,vH,gn r O];rfl
 |_=>
   have:lQ t E=ab:=by
    unfold lQ;split
    ·rename_i x am;unfold uv at he;rw[am]at he;simp only at he;obtain⟨a,aM,e⟩:=dd.1 he;cases e
    ·rfl
   rw[this];rfl
end
section
variable{P:cp}{W:hh}{f:cJ}{n:Nat}{aY lm:List Nat}{t V L:List I}{h:ad}{a2:aT->Bool}{cm:Nat->List (Nat×List Nat)}
theorem Y'{l:List Nat}(h:l.Nodup){i D s:Nat}(aa:l[i]? =j s)(U:l[D]? =j s):i=D:=by
 obtain⟨aJ,a1⟩:=gg.1 aa;obtain⟨c9,dx⟩:=gg.1 U;have:=List.pairwise_iff_getElem.1 h;rcases Nat.lt_trichotomy i D with h|h|h
 ·exact absurd (a1.trans dx.symm) (this i D aJ c9 h)
 ·exact h
 ·exact absurd (dx.trans a1.symm) (this D i c9 aJ h)
theorem Za(r:fV n aY lm t V L)(rf:aY.Nodup){dst:Option Tmp}{d:nw×List Nat}(he:xf n aY lm dst=j d)(v:I):fV n aY d.2 (ev t dst v) (jz V v d.1) (jX L v d.1):=by
 cases dst with
 |none=>simp only[xf,g5]at he;subst he;exact r
 |some s=>
   simp only[xf]at he;split at he
   ·cases he
   ·rename_i aj;simp only[not_or,Nat.not_le,Option.isSome_iff_ne_none,ne_eq,la]at aj;obtain⟨a8,bZ⟩:=aj;have wZ:=Iy lm 0 bZ;split at he
    ·rename_i D U;injection he with he;subst he;have cS:=AN U;refine⟨by simp[ev,r.len],by simp[jz,r.dy],r.te,λi q aG=>?_,λi q aG=>?_⟩
     ·obtain⟨F,O⟩:=r.v i q aG;refine⟨F,?_⟩;by_cases gk:i=D
      ·subst gk;rw[cS]at aG;injection aG with aG;subst aG;have bh:i<V.length:=by rw[r.dy];exact(gg.1 cS).1
       rw[Dz rfl (by rw[r.len];exact F)];simp[jz,cK,bh]
      ·have cO:s≠q:=by intro e;subst e;exact gk (Y' rf aG cS)
       rw[yJ (by simpa using cO),O];simp[jz,cK,s' (kw gk)]
     ·obtain⟨F,O⟩:=r.l i q aG;refine⟨F,?_⟩;have cO:s≠q:=λe=>wZ (by rw[e];exact p6 aG);rw[yJ (by simpa using cO),O];rfl
    ·rename_i U;injection he with he;subst he;have IB:=Iy aY 0 U;refine⟨by simp[ev,r.len],r.dy,by simp[jX,r.te],λi q aG=>?_,λi q aG=>?_⟩
     ·obtain⟨F,O⟩:=r.v i q aG;have cO:s≠q:=λe=>IB (by rw[e];exact p6 aG);exact⟨F,by rw[yJ (by simpa using cO),O];rfl⟩
     ·cases i with
      |zero=>simp only[n4,g5]at aG;subst aG;exact⟨a8,by rw[Dz rfl (by rw[r.len];exact a8)];rfl⟩
      |succ i=>simp only[List.getElem?_cons_succ]at aG;obtain⟨F,O⟩:=r.l i q aG;have cO:s≠q:=λe=>wZ (by rw[e];exact p6 aG);exact⟨F,by rw[yJ (by simpa using cO),O];rfl⟩
theorem D4(r:fV n aY lm t V L){all:Array a0}{E:a0}{g:Option (Arg×Bool)}(he:yY aY lm all E=j g):hy all t E=yW V L g:=by
 unfold yY at he;split at he
 ·rename_i aX;injection he with he;subst he;simp[hy,aX,yW]
 ·rename_i D want aX;obtain⟨d,a6,he⟩:=c'.1 he;obtain⟨a,aM,rfl⟩:=dd.1 he;have:=gn r aM;simp only[be]at this;simp only[hy,aX,a6,this,yW,xc];rfl
theorem IC(r:fV n aY lm t V L){all:Array a0}:∀{l:List a0} {c:List tc},vI P aY lm all l=j c->td V L h c->nV P all t h l
 |[],c,_,_=>trivial
 |E::l,c,he,aj=>by
   simp only[vI]at he;obtain⟨q,aG,he⟩:=c'.1 he;obtain⟨fy,q3,rfl⟩:=dd.1 he;obtain⟨F,O⟩:=aj;refine⟨?_,IC r q3 O⟩;unfold OJ at aG;split at aG
   ·rename_i ty a d am a6;obtain⟨g,aX,aG⟩:=c'.1 aG;obtain⟨dO,aM,aG⟩:=c'.1 aG;obtain⟨k7,mh,rfl⟩:=dd.1 aG;rw[D4 r aX];have ao:=gn r aM;have aq:=gn r mh;simp only[be]at aq;simp only at F;split at F
    ·rename_i hw;rw[hw];simp only[am,a6,ao,aq];exact F
    ·rename_i hw;split
     ·rename_i kA;exact absurd kA hw
     ·trivial
   ·rename_i ty a x am a6;obtain⟨g,aX,aG⟩:=c'.1 aG;obtain⟨dO,aM,aG⟩:=c'.1 aG;obtain⟨k7,mh,rfl⟩:=dd.1 aG;rw[D4 r aX];have ao:=gn r aM;have aq:=gn r mh;simp only at F;split at F
    ·rename_i hw;rw[hw];simp only[am,a6,ao,aq];exact F
    ·rename_i hw;split
     ·rename_i kA;exact absurd kA hw
     ·trivial
   ·cases aG
def lb(P:cp)(a2:aT->Bool)(cm:Nat->List (Nat×List Nat))(n:Nat)(aY:List Nat):List ff->List bl->Option (List bl)
 |[],r=>j r
 |c::cs,r=>(lb P a2 cm n aY cs r).bind λr=>gW P a2 cm n aY c r
inductive vK(P:cp)(a2:aT->Bool)(cm:Nat->List (Nat×List Nat))(n:Nat)(aY:List Nat):ff->bl->Prop
 |cond (c:fi) (x y:ff) (a:Arg) (xs dZ:List bl):ii aY [] c=j a->gW P a2 cm n aY x []=j xs->gW P a2 cm n aY y []=j dZ->vK P a2 cm n aY (.cond c x y) (.cond a xs dZ)
 |block (id:Nat) (b:ff) (r5:List bl):gW P a2 cm n aY b []=j r5->vK P a2 cm n aY (.block id b) (.block id r5)
 |loop (b:ff) (r5:List bl):gW P a2 cm n aY b []=j r5->vK P a2 cm n aY (.loop b) (.loop r5)
 |exit (id:Nat):vK P a2 cm n aY (.exit id) (.exit id)
 |ret:vK P a2 cm n aY .ret .ret
 |region (id:Nat) (all:Array a0) (d:Bool) (bA:List aE):nx P a2 n aY all [] (iK d all (cm id))=j bA->vK P a2 cm n aY (.region id all d) (.ops bA)
theorem OO(cs fN:List ff)(r:List bl):lb P a2 cm n aY (cs++fN) r=(lb P a2 cm n aY fN r).bind λr=>lb P a2 cm n aY cs r:=by
 induction cs with
 |nil=>simp only[k5,lb];cases lb P a2 cm n aY fN r<;>rfl
 |cons c cs aW=>simp only[l0,lb,aW];cases lb P a2 cm n aY fN r<;>rfl
theorem Zb:∀(c:ff) (r l:List bl),gW P a2 cm n aY c r=j l->(l=r/\∀k t h,c6 P W f (.code c::k) t h=c6 P W f k t h)\/(∃s bJ a8 cs,l=s::bJ/\lb P a2 cm n aY cs r=j bJ/\vK P a2 cm n aY a8 s/\∀k t h,c6 P W f (.code c::k) t h=c6 P W f (.code a8::(cs.map .code++k)) t h):=by
 intro c;induction c with
 |skip=>intro r l he;simp only[gW,g5]at he;exact .inl ⟨he.symm,λk t h=>WH⟩
 |label i=>intro r l he;simp only[gW,g5]at he;exact .inl ⟨he.symm,λk t h=>WI⟩
 |seq a b Zc Zd=>
   intro r l he;simp only[gW]at he;obtain⟨bT,F,O⟩:=c'.1 he;rcases Zc bT l O with⟨ao,aq⟩|⟨s,bJ,a8,cs,ao,aq,bm,ck⟩
   ·subst ao;rcases Zd r l F with⟨f1,f2⟩|⟨s,bJ,a8,cs,f1,f2,f3,f4⟩
    ·exact .inl ⟨f1,λk t h=>by rw[Hn,aq,f2]⟩
    ·exact .inr ⟨s,bJ,a8,cs,f1,f2,f3,λk t h=>by rw[Hn,aq,f4]⟩
   ·refine .inr ⟨s,bJ,a8,cs++[b],ao,?_,bm,λk t h=>?_⟩
    ·rw[OO];simp only[lb,c7,F,aq]
    ·rw[Hn,ck];simp
 |cond c x y _ _=>intro r l he;simp only[gW]at he;obtain⟨a,aM,he⟩:=c'.1 he;obtain⟨xs,an,he⟩:=c'.1 he;obtain⟨dZ,bF,rfl⟩:=dd.1 he;exact .inr ⟨_,_,_,[],rfl,rfl,.cond _ _ _ _ _ _ aM an bF,λk t h=>rfl⟩
 |block id b _=>intro r l he;simp only[gW]at he;obtain⟨r5,ai,rfl⟩:=dd.1 he;exact .inr ⟨_,_,_,[],rfl,rfl,.block _ _ _ ai,λk t h=>rfl⟩
 |loop b _=>intro r l he;simp only[gW]at he;obtain⟨r5,ai,rfl⟩:=dd.1 he;exact .inr ⟨_,_,_,[],rfl,rfl,.loop _ _ ai,λk t h=>rfl⟩
 |exit id=>intro r l he;simp only[gW,g5]at he;subst he;exact .inr ⟨_,_,_,[],rfl,rfl,.exit _,λk t h=>rfl⟩
 |ret=>intro r l he;simp only[gW,g5]at he;subst he;exact .inr ⟨_,_,_,[],rfl,rfl,.ret,λk t h=>rfl⟩
 |region id ops d=>intro r l he;simp only[gW]at he;obtain⟨bA,lZ,rfl⟩:=dd.1 he;exact .inr ⟨_,_,_,[],rfl,rfl,.region _ _ _ _ lZ,λk t h=>rfl⟩
 |_=>intro r l he;simp[gW]at he
theorem OP:∀(cs:List ff) (l:List bl),lb P a2 cm n aY cs []=j l->(l=[]/\∀k t h,c6 P W f (cs.map .code++k) t h=c6 P W f k t h)\/(∃s bJ a8 fM,l=s::bJ/\lb P a2 cm n aY fM []=j bJ/\vK P a2 cm n aY a8 s/\∀k t h,c6 P W f (cs.map .code++k) t h=c6 P W f (.code a8::(fM.map .code++k)) t h):=by
 intro cs;induction cs with
 |nil=>intro l he;simp only[lb,g5]at he;exact .inl ⟨he.symm,λk t h=>rfl⟩
 |cons c cs aW=>
   intro l he;simp only[lb]at he;obtain⟨r,F,O⟩:=c'.1 he;rcases Zb (W:=W) (f:=f) c r l O with⟨ao,aq⟩|⟨s,bJ,a8,ID,ao,aq,bm,ck⟩
   ·subst ao;rcases aW l F with⟨f1,f2⟩|⟨s,bJ,a8,fM,f1,f2,f3,f4⟩
    ·exact .inl ⟨f1,λk t h=>by simp only[jU,l0];rw[aq,f2]⟩
    ·exact .inr ⟨s,bJ,a8,fM,f1,f2,f3,λk t h=>by simp only[jU,l0];rw[aq,f4]⟩
   ·refine .inr ⟨s,bJ,a8,ID++cs,ao,?_,bm,λk t h=>?_⟩
    ·rw[OO,F];exact aq
    ·simp only[jU,l0];rw[ck];simp
inductive ny(P:cp)(a2:aT->Bool)(cm:Nat->List (Nat×List Nat))(n:Nat)(aY:List Nat):List hJ->List ic->Prop
 |nil:ny P a2 cm n aY [] []
 |bO (cs:List ff) (l:List bl) (k:List hJ) (nz:List ic):lb P a2 cm n aY cs []=j l->ny P a2 cm n aY k nz->ny P a2 cm n aY (cs.map .code++k) (.bO l::nz)
 |cb (id:Nat) (k:List hJ) (nz:List ic):ny P a2 cm n aY k nz->ny P a2 cm n aY (.inBlock id::k) (.cb id::nz)
 |fI (c:ff) (b:List bl) (k:List hJ) (nz:List ic):gW P a2 cm n aY c []=j b->ny P a2 cm n aY k nz->ny P a2 cm n aY (.inLoop c::k) (.fI b::nz)
 |halt (K:List Item) (k:List hJ) (nz:List ic):ny P a2 cm n aY (.halt K::k) (.halt K::nz)
theorem Ze{id:Nat}(cs:List ff)(k:List hJ):mH id (cs.map .code++k)=mH id k:=by
 induction cs with
 |nil=>rfl
 |cons c cs aW=>simp only[jU,l0,mH];exact aW
theorem Zf{id:Nat}{k:List hJ}{nz D5:List ic}(Z:ny P a2 cm n aY k nz)(he:ly id nz=j D5):∃cn,mH id k=j cn/\ny P a2 cm n aY cn D5:=by
 induction Z with
 |nil=>simp[ly]at he
 |bO cs l k nz F O aW=>simp only[ly]at he;obtain⟨cn,ao,aq⟩:=aW he;exact⟨cn,by rw[Ze];exact ao,aq⟩
 |cb i k nz F aW=>
   simp only[ly]at he;by_cases aa:i=id
   ·rw[if_pos aa]at he;injection he with he;subst he;exact⟨k,by simp[mH,aa],F⟩
   ·rw[if_neg aa]at he;obtain⟨cn,ao,aq⟩:=aW he;exact⟨cn,by simp[mH,aa];exact ao,aq⟩
 |fI c b k nz F O aW=>simp only[ly]at he;obtain⟨cn,ao,aq⟩:=aW he;exact⟨cn,by simp only[mH];exact ao,aq⟩
 |halt K k nz=>simp[ly]at he
def mT(P:cp)(W:hh)(f:cJ)(n:Nat)(aY:List Nat)(e9:List hJ)(t:List I)(h:ad)(r:jd×List I×ad):Prop:=∃cV,c6 P W f e9 t h=j (r.1,cV,r.2.2)/\fV n aY [] cV r.2.1 []
def r6(P:cp)(W:hh)(f:cJ)(n:Nat)(aY:List Nat)(k:List ic)(V L:List I)(h:ad)(r:jd×List I×ad):Prop:=(∀e9 t,ny P (W.a2 f) (W.cm f) n aY e9 k->fV n aY [] t V []->mT P W f n aY e9 t h r)/\(∀d all l bA e9 lm t cn,k= .ops bA::cn->nx P (W.a2 f) n aY all lm l=j bA->ny P (W.a2 f) (W.cm f) n aY e9 cn->fV n aY lm t V L->mT P W f n aY (.ops d all l::e9) t h r)/\(∀d all l bA c bX e9 lm t cn,k= .ops (.bX c::bA)::cn->vI P aY lm all bX=j c->nx P (W.a2 f) n aY all lm l=j bA->ny P (W.a2 f) (W.cm f) n aY e9 cn->fV n aY lm t V L->nV P all t h bX/\mT P W f n aY (.ops d all l::e9) t h r)
theorem mT.eq{OQ:List hJ}{t cV:List I}{h J:ad}{r:jd×List I×ad}(he:c6 P W f e9 t h=c6 P W f OQ cV J)(Z:mT P W f n aY OQ cV J r):mT P W f n aY e9 t h r:=by obtain⟨t2,F,O⟩:=Z;exact⟨t2,he.trans F,O⟩
theorem r6.yZ{k:List ic}{V L:List I}{h:ad}{r:jd×List I×ad}(n3:∀bA cn,k≠.ops bA::cn)(Z:∀e9 t,ny P (W.a2 f) (W.cm f) n aY e9 k->fV n aY [] t V []->mT P W f n aY e9 t h r):r6 P W f n aY k V L h r:=⟨Z,λd all l bA e9 lm t cn he=>absurd he (n3 _ _),λd all l bA c bX e9 lm t cn he=>absurd he (n3 _ _)⟩
theorem fV.drop{L:List I}{lm:List Nat}(r:fV n aY lm t V L):fV n aY [] t V []:=⟨r.len,r.dy,rfl,r.v,λD s av=>by simp at av⟩
theorem fV.clear{D6 IE:Nat}(r:fV n aY [] t V [])(F:∀D s,aY[D]? =j s->(D<IE↔s<D6)):fV n aY [] (cF D6 t) (cF IE V) []:=by
 refine⟨by rw[<-r.len,cF];simp;omega,by rw[<-r.dy,cF];simp;omega,rfl,λD s av=>?_,λD s av=>by simp at av⟩;obtain⟨aJ,a1⟩:=r.v D s av;refine⟨aJ,?_⟩;have U:D<V.length:=by rw[r.dy];exact(gg.1 av).1
 have w4:s<t.length:=by rw[r.len];exact aJ
 have get:∀(n:Nat) (x:List I) (i:Nat),i<x.length->(cF n x).getD i .aP=if i<n then x.getD i .aP else .aP:=by
  intro n x i aa;unfold cF;by_cases gj:i<n
  ·have:i<(x.take n).length:=by simp;omega
   rw[if_pos gj,cK,mJ this,List.getElem?_take];simp[gj,cK]
  ·rw[if_neg gj,cK,pY (by simp;omega)];simp only[List.getElem?_replicate];split<;>rfl
 rw[get _ _ _ w4,get _ _ _ U];by_cases bh:D<IE
 ·rw[if_pos bh,if_pos ((F D s av).1 bh),a1]
 ·rw[if_neg bh,if_neg (λx=>bh ((F D s av).2 x))]
end
noncomputable def oL(p:Bool)(rs:List mS)(ae:ad):Option (jd×List I×ad)->Option ((I⊕I)×ad)
 |some (.ret,V,h)=>wO.gf p ae h ((ie V h rs).map iH)
 |some (.panic v,_,h)=>lS p ae (.inr v,h)
 |some (.halt _,_,_)=>ab
 |none=>ab
section
variable{P:cp}{W:hh}{f:cJ}{n aI:Nat}{aY lm:List Nat}{t V L:List I}{h:ad}
theorem IF{d:nw}{bA:List aE}{cn:List ic}{E:a0}{c:List tc}{bX:List a0}{l:List (a0×List a0)}{all:Array a0}{mU:List Nat}{v:I}{J:ad}{r:jd×List I×ad}(rf:aY.Nodup)(a6:xf n aY lm E.dst=j (d,mU))(aj:vI P aY mU all bX=j c)(lZ:nx P (W.a2 f) n aY all mU l=j bA)(Z:ny P (W.a2 f) (W.cm f) n aY e9 cn)(b4:fV n aY lm t V L)(hm:r6 P W f n aY (.ops (D2 c bA)::cn) (jz V v d) (jX L v d) J r):nV P all (ev t E.dst v) J bX/\mT P W f n aY (.ops cN all l::e9) (ev t E.dst v) J r:=by
 have uw:=Za b4 rf a6 v;cases c with
 |nil=>refine⟨IC uw aj trivial,hm.2.1 cN all l bA e9 _ _ cn rfl lZ Z uw⟩
 |cons q c=>exact hm.2.2 cN all l bA (q::c) bX e9 _ _ cn rfl aj lZ Z uw
theorem IG{a2:aT->Bool}{all:Array a0}{lm:List Nat}{l:List (a0×List a0)}{x:aE}{bA:List aE}(he:nx P a2 n aY all lm l=j (x::bA)):∃E bX bJ k' g d mU c rg,l=(E,bX)::bJ/\uv P a2 aY lm E=j k'/\yY aY lm all E=j g/\xf n aY lm E.dst=j (d,mU)/\vI P aY mU all bX=j c/\nx P a2 n aY all mU bJ=j rg/\x=OK g d k'/\bA=D2 c rg:=by
 cases l with
 |nil=>simp[nx]at he
 |cons q bJ=>obtain⟨E,bX⟩:=q;simp only[nx]at he;obtain⟨k',F,he⟩:=c'.1 he;obtain⟨g,O,he⟩:=c'.1 he;obtain⟨⟨d,mU⟩,af,he⟩:=c'.1 he;obtain⟨c,aw,he⟩:=c'.1 he;obtain⟨rg,bg,he⟩:=dd.1 he;simp only[uu]at he;exact⟨E,bX,bJ,k',g,d,mU,c,rg,rfl,F,O,af,aw,bg,he.1.symm,he.2.symm⟩
theorem Zg{all:Array a0}{E:a0}{bX:List a0}{l:List (a0×List a0)}{v:I}{J:ad}(hw:hy all t E=j Q)(aB:lQ t E=ab)(aj:eW t E=ab)(he:eK P (W.a2 f) t h E=j (v,J))(n5:nV P all (ev t E.dst v) J bX):c6 P W f (.ops cN all ((E,bX)::l)::e9) t h=c6 P W f (.ops cN all l::e9) (ev t E.dst v) J:=by rw[Ad,hw,Da,aB,Ho,aj,WR,he,WS,Nf n5]
theorem Zh{all:Array a0}{E:a0}{bX:List a0}{l:List (a0×List a0)}{g:cJ}{args:List I}{v:I}{J:ad}(hw:hy all t E=j Q)(aB:lQ t E=ab)(aj:eW t E=j (g,args))(he:a3 P W g args h=j (.inl v,J))(n5:nV P all (ev t E.dst v) J bX):c6 P W f (.ops cN all ((E,bX)::l)::e9) t h=c6 P W f (.ops cN all l::e9) (ev t E.dst v) J:=by rw[Ad,hw,Da,aB,Ho,aj,Nd,he,WT,Nf n5]
theorem Zi{all:Array a0}{E:a0}{bX:List a0}{l:List (a0×List a0)}{g:cJ}{args:List I}{v:I}{J:ad}(hw:hy all t E=j Q)(aB:lQ t E=ab)(aj:eW t E=j (g,args))(he:a3 P W g args h=j (.inr v,J)):c6 P W f (.ops cN all ((E,bX)::l)::e9) t h=j (.panic v,t,J):=by rw[Ad,hw,Da,aB,Ho,aj,Nd,he,WU]
theorem Zj{all:Array a0}{E:a0}{bX:List a0}{l:List (a0×List a0)}(hw:hy all t E=j T):c6 P W f (.ops cN all ((E,bX)::l)::e9) t h=c6 P W f (.ops cN all l::e9) (ev t E.dst (.bW [])) h:=by rw[Ad,hw,WQ]
theorem D7(rf:aY.Nodup)(jh:∀D s,aY[D]? =j s->(D<aI↔s<W.aI f)):∀(k:List ic) (V L:List I) (h:ad) (r:jd×List I×ad),bo (a3 P W) aI k V L h=j r->r6 P W f n aY k V L h r:=by
 refine bo.partial_correctness (a3 P W) aI (r6 P W f n aY) λrun aW k V L h r ah=>?_;have wanted:∀{d:nw} {k':fC} {bA:List aE} {cn:List ic},(match vH V L k' with
   |some v=>j (.panic v,V,h)
   |none=>match gV V L k' with
   |some (g,args)=>a3 P W g args h>>= λr=>match r.1 with
     |.inl v=>run (.ops bA::cn) (jz V v d) (jX L v d) r.2
     |.inr v=>j (.panic v,V,r.2)
   |none=>gA V L h k'>>= λr=>run (.ops bA::cn) (jz V r.1 d) (jX L r.1 d) r.2)=j r->
   ∀{all E bX l lm mU c rg e9 t cN},uv P (W.a2 f) aY lm E=j k'->xf n aY lm E.dst=j (d,mU)->vI P aY mU all bX=j c->nx P (W.a2 f) n aY all mU l=j rg->bA=D2 c rg->
   ny P (W.a2 f) (W.cm f) n aY e9 cn->fV n aY lm t V L->hy all t E=j Q->mT P W f n aY (.ops cN all ((E,bX)::l)::e9) t h r:=by
  intro d k' bA cn ah all E bX l lm mU c rg e9 t cN F O af aw bg Z b4 hw;obtain⟨ao,aq⟩:=Y7 (h:=h) b4 F;have gM:=Y9 b4 F;split at ah
  ·rename_i v AF;injection ah with ah;subst ah;exact⟨t,by rw[Ad,hw,Da,gM,AF,WO],b4.drop⟩
  rename_i IH;have gM:=gM.trans IH;split at ah
  ·rename_i g args D8;obtain⟨⟨x,J⟩,an,ah⟩:=c'.1 ah;cases x with
   |inl v=>simp only at ah;subst bg;have hm:=aW _ _ _ _ _ ah;obtain⟨c8,cu⟩:=IF (cN:=cN) rf O af aw Z b4 hm;exact cu.eq (Zh hw gM (aq.trans D8) an c8)
   |inr v=>simp only at ah;injection ah with ah;subst ah;exact⟨t,Zi hw gM (aq.trans D8) an,b4.drop⟩
  ·rename_i D8;obtain⟨⟨v,J⟩,an,ah⟩:=c'.1 ah;simp only at ah;subst bg;have hm:=aW _ _ _ _ _ ah;obtain⟨c8,cu⟩:=IF (cN:=cN) rf O af aw Z b4 hm;exact cu.eq (Zg hw gM (aq.trans D8) (ao.trans an) c8)
 split at ah
 ·injection ah with ah;subst ah;refine r6.yZ (by simp) λe9 t Z b4=>?_;cases Z;exact⟨t,WB,b4⟩
 ·rename_i k;refine r6.yZ (by simp) λe9 t Z b4=>?_;cases Z with
  |bO cs _ ia _ ig Z=>
    rcases OP (W:=W) (f:=f) cs [] ig with⟨_,aq⟩|⟨s,bJ,a8,fM,ao,_⟩
    ·exact((aW _ _ _ _ _ ah).1 _ _ Z b4.drop).eq (aq _ _ _)
    ·cases ao
 ·rename_i s l k;refine r6.yZ (by simp) λe9 t Z b4=>?_;cases Z with
  |bO cs _ ia _ ig Z=>
    rcases OP (W:=W) (f:=f) cs (s::l) ig with⟨ao,_⟩|⟨dW,bJ,a8,fM,ao,aq,bm,ck⟩
    ·cases ao
    ·injection ao with ao Zk;subst ao;subst Zk;refine mT.eq (ck _ _ _) ?_;have y0:ny P (W.a2 f) (W.cm f) n aY (fM.map .code++ia) (.bO l::k):=.bO fM l ia k aq Z;cases bm with
     |region id all d bA II=>exact((aW _ _ _ _ _ ah).2.1 d all _ bA _ [] t _ rfl II y0 b4).eq WM
     |cond c x y a xs dZ aM an bF=>
       simp only at ah;have ul:=gn b4 aM;split at ah
       ·rename_i b ai;have OR:be t c= .bool b:=ul.trans ai;cases b with
        |true=>simp only[if_true]at ah;refine mT.eq (by rw[Nc,OR,WV]) ((aW _ _ _ _ _ ah).1 (.code x::(fM.map .code++ia)) t ?_ b4);exact .bO [x] xs _ _ (by simp[lb,an]) y0
        |false=>simp only[mI,if_false]at ah;refine mT.eq (by rw[Nc,OR,WW]) ((aW _ _ _ _ _ ah).1 (.code y::(fM.map .code++ia)) t ?_ b4);exact .bO [y] dZ _ _ (by simp[lb,bF]) y0
       ·cases ah
     |block id b r5 ai=>refine mT.eq WJ ((aW _ _ _ _ _ ah).1 (.code b::.inBlock id::(fM.map .code++ia)) t ?_ b4);exact .bO [b] r5 _ _ (by simp[lb,ai]) (.cb id _ _ y0)
     |loop b r5 ai=>exact mT.eq WK ((aW _ _ _ _ _ ah).1 (.inLoop b::(fM.map .code++ia)) t (.fI b r5 _ _ ai y0) b4)
     |exit id=>obtain⟨D5,F,ah⟩:=c'.1 ah;obtain⟨cn,O,af⟩:=Zf y0 (by simpa[ly]using F:ly id (.bO l::k)=j D5);exact mT.eq (by rw[WN,O,WX]) ((aW _ _ _ _ _ ah).1 cn t af b4)
     |ret=>injection ah with ah;subst ah;exact⟨t,WL,b4⟩
 ·rename_i id k;refine r6.yZ (by simp) λe9 t Z b4=>?_;cases Z with
  |cb _ ia _ Z=>exact mT.eq WD ((aW _ _ _ _ _ ah).1 _ _ Z b4)
 ·rename_i Y1 k;injection ah with ah;subst ah;refine r6.yZ (by simp) λe9 t Z b4=>?_;cases Z with
  |halt _ ia _=>exact⟨t,WC,b4⟩
 ·rename_i b k;refine r6.yZ (by simp) λe9 t Z b4=>?_;cases Z with
  |fI c _ ia _ ai Z=>refine mT.eq WE ((aW _ _ _ _ _ ah).1 (.code c::.inLoop c::ia) _ ?_ (b4.clear jh));exact .bO [c] b _ _ (by simp[lb,ai]) (.fI c b _ _ ai Z)
 ·rename_i k;refine⟨λe9 t Z b4=>(by cases Z),λcN all l bA e9 lm t cn he ig Z b4=>?_,λcN all l bA c bX e9 lm t cn he=>(by cases he)⟩;injection he with gs n6;injection gs with gs;subst gs;subst n6;cases l with
  |nil=>exact mT.eq WG ((aW _ _ _ _ _ ah).1 _ _ Z b4.drop)
  |cons q l=>obtain⟨E,bX⟩:=q;simp only[nx]at ig;obtain⟨k',F,ig⟩:=c'.1 ig;obtain⟨g,O,ig⟩:=c'.1 ig;obtain⟨⟨d,mU⟩,af,ig⟩:=c'.1 ig;obtain⟨c,aw,ig⟩:=c'.1 ig;obtain⟨rg,bg,ig⟩:=dd.1 ig;cases ig
 ·rename_i l bA k;split at ah
  ·rename_i n5;refine⟨λe9 t Z b4=>(by cases Z),λcN all cC AP e9 lm t cn he ig Z b4=>?_,λcN all cC AP c bX e9 lm t cn he aj ig Z b4=>?_⟩
   ·injection he with gs n6;injection gs with gs;subst gs;subst n6;obtain⟨E,bX,bJ,k',g,d,mU,c,rg,_,_,_,_,_,_,an,_⟩:=IG ig;cases g<;>cases an
   ·injection he with gs n6;injection gs with gs;injection gs with AQ gs;injection AQ with AQ;subst AQ;subst gs;subst n6;exact⟨IC b4 aj n5,(aW _ _ _ _ _ ah).2.1 cN all cC bA e9 lm t _ rfl ig Z b4⟩
  ·cases ah
 ·rename_i d k' bA k;refine⟨λe9 t Z b4=>(by cases Z),λcN all l AP e9 lm t cn he ig Z b4=>?_,λcN all l AP c bX e9 lm t cn he=>(by cases he)⟩;injection he with gs n6;injection gs with gs;subst gs;subst n6;obtain⟨E,bX,bJ,Zl,g,k7,mU,c,rg,rfl,F,O,af,aw,bg,an,cj⟩:=IG ig;cases g with
  |some g=>cases an
  |none=>injection an with D9 p2;subst D9;subst p2;exact wanted ah F af aw bg cj Z b4 (by rw[D4 b4 O];rfl)
 ·rename_i a w d k' bA k;refine⟨λe9 t Z b4=>(by cases Z),λcN all l AP e9 lm t cn he ig Z b4=>?_,λcN all l AP c bX e9 lm t cn he=>(by cases he)⟩;injection he with gs n6;injection gs with gs;subst gs;subst n6;obtain⟨E,bX,bJ,Zl,g,k7,mU,c,rg,rfl,F,O,af,aw,bg,an,cj⟩:=IG ig;cases g with
  |none=>cases an
  |some g=>
    injection an with D9 p2 ux Zm;obtain⟨am2,am3⟩:=g;simp only at D9 p2;subst D9;subst p2;subst ux;subst Zm;have aX:=D4 b4 O;simp only[yW]at aX;split at ah
    ·cases ah
    ·rename_i OS;subst cj;obtain⟨_,cu⟩:=IF (cN:=cN) rf af aw bg Z b4 (aW _ _ _ _ _ ah);exact cu.eq (Zj (aX.trans OS))
    ·rename_i fr;exact wanted ah F af aw bg cj Z b4 (aX.trans fr)
theorem y1(b4:fV n aY [] t V []):∀{l:List ResultVar} {rs:List mS},po P aY l=j rs->oA P t h l=ie V h rs
 |[],rs,he=>by simp only[po,g5]at he;subst he;rfl
 |.tmp i::l,rs,he=>by simp only[po]at he;obtain⟨D,U,he⟩:=c'.1 he;obtain⟨tf,y2,rfl⟩:=dd.1 he;simp only[oA,ie,y1 b4 y2,(b4.v D i (AN U)).2]
 |.cell i ty::l,rs,he=>by
   simp only[po]at he;split at he
   ·cases he
   ·rename_i au;obtain⟨D,U,he⟩:=c'.1 he;obtain⟨tf,y2,rfl⟩:=dd.1 he;simp only[oA,ie,y1 b4 y2,(b4.v D i (AN U)).2,if_neg au]
def r7(a n D6 aI:Nat)(aY:List Nat):Bool:=
 decide (a<=aY.length/\a<=n)&&(iQ aY.length).all λD=>let s:=aY.getD D 0
  decide (s<n)&&(decide (D<aI)==decide (s<D6))&&(if D<a\/s<a then s==D else Q)&&(iQ D).all λi=>aY.getD i 0 != s
def c3(P:cp)(W:hh)(g:cJ)(a aI:Nat)(aY:List Nat)(bO:List bl)(rs:List mS)(p:Bool):Prop:=∃fn c,P.funcs[g]? =j fn/\fn.body=j c/\W.ext g=ab/\W.use g=Q/\W.pure g=p/\gW P (W.a2 g) (W.cm g) fn.ntmps aY c []=j bO/\r7 a fn.ntmps (W.aI g) aI aY=Q/\po P aY fn.results.toList=j rs
theorem bC{g:cJ}{a:Nat}{bO:List bl}{rs:List mS}{p:Bool}{args:List I}{q:(I⊕I)×ad}(bc:c3 P W g a aI aY bO rs p)(aM:args.length=a)(ah:oL p rs h (bo (a3 P W) aI [.bO bO] (args++ax (aY.length - args.length) .aP) [] h)=j q):a3 P W g args h=j q:=by
 obtain⟨fn,c,F,O,af,aw,bg,cj,cT,hA⟩:=bc;rw[WZ af F O aw bg];unfold r7 at cT;simp only[gS,decide_eq_true_eq,iR,jl,beq_iff_eq,bne_iff_ne,ne_eq]at cT;obtain⟨⟨aJ,a1⟩,bf⟩:=cT;have get:∀D s,aY[D]? =j s->D<aY.length/\aY.getD D 0=s:=λD s U=>⟨(gg.1 U).1,by simp[cK,U]⟩;have rf:aY.Nodup:=by rw[List.nodup_iff_pairwise_ne,List.pairwise_iff_getElem];intro i D aa U gk e;have:=(bf D U).2 i gk;apply this;simp[cK,aa,U,e]
 have jh:∀D s,aY[D]? =j s->(D<aI↔s<W.aI g):=by intro D s U;obtain⟨c1,cr⟩:=get D s U;have:=(bf D c1).1.1.2;rw[cr]at this;exact decide_eq_decide.1 this
 have b4:fV fn.ntmps aY [] (args++ax (fn.ntmps - args.length) .aP) (args++ax (aY.length - args.length) .aP) []:=by
  refine⟨by simp;omega,by simp;omega,rfl,λD s U=>?_,λD s U=>by simp at U⟩;obtain⟨c1,cr⟩:=get D s U;obtain⟨⟨⟨c9,_⟩,dx⟩,_⟩:=bf D c1;rw[cr]at c9 dx;refine⟨c9,?_⟩;by_cases aj:D<a\/s<a
  ·rw[if_pos aj]at dx;have:s=D:=by simpa using dx
   subst this;have bh:s<args.length:=by omega
   simp[cK,mJ bh]
  ·have a8:¬D<args.length:=by omega
   have bZ:¬s<args.length:=by omega
   simp only[cK,pY (Nat.not_lt.1 a8),pY (Nat.not_lt.1 bZ),List.getElem?_replicate];split<;>split<;>rfl
 generalize kt:bo (a3 P W) aI [.bO bO] (args++ax (aY.length - args.length) .aP) [] h=x at ah;cases x with
 |none=>cases ah
 |some r=>
   have hm:=(D7 (n:=fn.ntmps) (f:=g) rf jh _ _ _ _ _ kt).1 [.code c] _ (.bO [c] bO [] [] (by simp[lb,cj]) .nil) b4;obtain⟨cV,ao,aq⟩:=hm;rw[ao];obtain⟨x,fB,J⟩:=r;cases x with
   |panic v=>exact ah
   |halt K=>cases ah
   |ret=>rw[WY];have:=y1 (h:=J) aq hA;unfold oB;rw[this];exact ah
end
abbrev bb:aE:=.i .l (.load T 1 (.l 0))
abbrev bj:aE:=.i .l (.ba (.v 0))
abbrev cM:aE:=.i .l (.k9 (.l 0))
abbrev di:aE:=.i .l (.ba (.l 0))
abbrev eT:aE:=.i .l (.cy 0 (.l 0))
abbrev en:aE:=.i .l (.ba (.v 1))
abbrev eY:aE:=.i .l (.ba (.v 3))
abbrev mt:aE:=.i .l (.call (.c (.fn 83 [] [])) [.l 0])
abbrev we:aE:=.i (.v 2) (.ba (.c (.bool T)))
abbrev iD:aE:=.i .l (.cy 1 (.l 0))
abbrev qg:aE:=.i .l (.bin (.int o) .sub (.l 0) (.c (.int o 1)))
abbrev qh:aE:=.i .l (.bin (.int o) .geq (.l 0) (.c (.int o 0)))
abbrev rv:aE:=.i .l (.bin (.int o) .add (.l 0) (.c (.int o 1)))
abbrev uI:aE:=.i .l (.build [.int o 0,.int o 0,.aF] [(0,1),(1,1),(2,1)] [])
abbrev h5:aE:=.i .l (.ba (.v 5))
abbrev iY:aE:=.i .l (.ba (.v 2))
abbrev kF:aE:=.i (.v 3) (.ba (.l 0))
abbrev m0:aE:=.g (.l 1) T .l (.load T 1 (.l 0))
abbrev jo:aE:=.i .l (.ba (.v 4))
abbrev m3:aE:=.g (.l 1) Q .l (.load T 1 (.l 0))
abbrev mA:aE:=.i .n (.store 1 (.l 0) (.l 2))
abbrev sk:aE:=.i (.v 4) (.ba (.c (.int o 0)))
abbrev uK:aE:=.i (.v 3) (.ba (.c (.int o 0)))
abbrev mZ:aE:=.i .l (.load Q 3 (.l 0))
abbrev wb:aE:=.i (.v 5) (.alloc [.int o 0,.int o 0,.aF])
abbrev v9:aE:=.i (.v 4) (.alloc [.int o 0,.int o 0,.aF])
abbrev lh:aE:=.i .l (.ext (.l 1) 1)
abbrev lg:aE:=.i .l (.ext (.l 0) 0)
abbrev lj:aE:=.i (.v 2) (.ba (.l 0))
abbrev zl:aE:=.i (.v 2) (.ba (.c (.int o 0)))
abbrev su:aE:=.i .l (.bin (.int o) .neq (.l 0) (.c (.int o 0)))
abbrev ge:aE:=.i (.v 1) (.ba (.l 0))
abbrev mW:aE:=.i .l (.cy 2 (.l 0))
abbrev oi:aE:=.i (.v 4) (.ba (.l 0))
abbrev GQ:aE:=.i .l (.build [.int o 0,.int o 0,.int o 0,.int o 0,.aF] [(0,1),(1,1),(2,3)] [(0,(.l 0))])
abbrev si:aE:=.i .l (.bin (.int o) .lss (.l 0) (.c (.int o 0)))
abbrev rK:aE:=.i .n (.store 5 (.v 3) (.l 0))
abbrev sx:aE:=.i .l (.load Q 4 (.l 0))
abbrev l6:aE:=.i (.v 7) (.ba (.l 0))
abbrev qm:aE:=.i .l (.load Q 3 (.v 4))
abbrev oT:aE:=.i .l (.cy 1 (.v 2))
abbrev oh:aE:=.i (.v 5) (.ba (.l 0))
abbrev uL:aE:=.i .l (.len T (j 29) (.l 0))
abbrev tz:aE:=.i .l (.pick (.l 3) (.l 0) (.c (.bool T)))
abbrev sj:aE:=.i .l (.load Q 3 (.v 5))
abbrev qn:aE:=.i .l (.load Q 3 (.v 3))
abbrev qp:aE:=.i .l (.cy 0 (.v 1))
abbrev PP:aE:=.i (.v 2) (.ba (.c (.bool Q)))
abbrev xL:aE:=.i .l (.ga (j 29) ab (.l 1) (.l 0))
abbrev sy:aE:=.i .l (.cy 3 (.v 2))
abbrev BH:aE:=.i .l (.call (.c (.fn 84 [] [])) [.l 0,.c (.int o 4)])
abbrev GU:aE:=.i .l (.call (.c (.fn 23 [] [])) [.l 1,.l 0])
abbrev uM:aE:=.i .n (.store 3 (.v 4) (.l 0))
abbrev pz:aE:=.i .l (.ba (.v 6))
abbrev zj:aE:=.i .l (.pick (.l 2) (.c (.bool Q)) (.l 0))
abbrev E8:aE:=.i .l (.kC T 29 [.int o 0,.int o 0,.aF] 3 1 [(0,(.l 0))])
abbrev EY:aE:=.i (.v 3) (.alloc [.int o 0,.int o 0,.aF])
abbrev Ka:aE:=.i .l (.build [.int o 0,.int o 0,.aF] [(0,1),(1,1),(2,1)] [(0,(.c (.int o 1))),(1,(.l 0))])
abbrev sr:aE:=.i .l (.cy 0 (.v 2))
abbrev xy:aE:=.i (.v 5) (.ba (.c (.int o 0)))
abbrev BI:aE:=.i .l (.call (.c (.fn 107 [] [])) [.l 1,.l 0])
abbrev zm:aE:=.g (.l 3) Q .l (.load T 1 (.l 0))
abbrev KT:aE:=.i .l (.call (.c (.fn 71 [] [])) [.l 4,.l 0])
abbrev mX:aE:=.i .l (.ba (.v 7))
abbrev Sl:aE:=.i .l (.build [.int o 0,.int o 0,.aF] [(0,1),(1,1),(2,1)] [(0,(.l 2)),(1,(.l 0))])
abbrev ss:aE:=.i .l (.load Q 3 (.v 2))
abbrev Bi:aE:=.i .l (.pick (.l 5) (.l 0) (.c (.bool T)))
abbrev EQ:aE:=.i .l (.call (.c (.fn 84 [] [])) [.l 0,.c (.int o 1)])
abbrev E0:aE:=.i .l (.call (.c (.fn 82 [] [])) [.l 0,.c (.int o 2)])
abbrev ama:aE:=.i (.v 1) (.ba (.c .aF))
abbrev zA:aE:=.i .n (.store 3 (.v 5) (.l 0))
abbrev xw:aE:=.g (.l 0) Q .l (.ba (.v 0))
abbrev Bb:aE:=.i .l (.ga ab (j (4,5)) (.l 0) (.l 2))
abbrev zH:aE:=.i .l (.len T (j 46) (.l 0))
abbrev J':aE:=.i .l (.call (.c (.fn 81 [] [])) [.l 0])
abbrev E':aE:=.i .l (.bin (.int o) .eql (.l 0) (.c (.int o 0)))
abbrev amb:aE:=.i .l (.bin (.int o) .add (.v 9) (.c (.int o 1)))
abbrev Vp:aE:=.i (.v 3) (.alloc [.int o 0,.int o 0,.int o 0,.int o 0,.aF])
abbrev Rl:aE:=.i (.v 2) (.alloc [.int o 0,.int o 0,.aF])
abbrev EX:aE:=.i (.v 1) (.alloc [.int o 0,.int o 0,.aF])
abbrev zn:aE:=.g (.l 2) Q .l (.load T 1 (.l 0))
abbrev ts:aE:=.i .l (.un .not (.l 0))
abbrev Fp:aE:=.i (.v 2) (.ba (.c .aF))
abbrev PL:aE:=.i .l (.kC Q 126 [.int o 0,.int o 0,.int o 0,.int o 0,.int o 0,.aF,.aF,.aF,.bool T,.aF] 10 1 [(0,(.l 0))])
abbrev BF:aE:=.i (.v 9) (.ba (.l 0))
abbrev v':aE:=.i (.v 8) (.ba (.l 0))
abbrev tt:aE:=.i (.v 6) (.ba (.l 0))
abbrev zx:aE:=.i .n (.store 3 (.v 3) (.l 0))
abbrev E6:aE:=.i .l (.call (.c (.fn 82 [] [])) [.l 1,.l 0])
abbrev KJ:aE:=.i (.v 2) (.box 3 (.v 1))
abbrev BU:aE:=.i (.v 1) (.box 3 (.v 0))
abbrev amc:aE:=.i (.v 10) (.bin (.int o) .lss (.v 9) (.v 8))
abbrev EW:aE:=.i .l (.len T (j 126) (.l 0))
abbrev vW:aE:=.i .l (.cy 2 (.v 2))
abbrev xA:aE:=.i .l (.cy 1 (.v 4))
abbrev ER:aE:=.i .l (.pick (.l 2) (.l 0) (.c (.bool T)))
abbrev Jj:aE:=.g (.l 1) T .l (.bin (.int o) .lss (.l 0) (.c (.int o 0)))
abbrev xM:aE:=.i (.v 12) (.ba (.l 0))
abbrev zp:aE:=.i (.v 6) (.un .not (.l 0))
abbrev EZ:aE:=.i .l (.bin (.int o) .neq (.l 1) (.l 0))
abbrev P3:aE:=.i .l (.kC T 103 [.int o 0,.int o 0,.int o 0,.int o 0,.int o 0,.int o 0] 6 1 [(0,(.l 0))])
abbrev BO:aE:=.i (.v 7) (.load T 1 (.l 0))
abbrev GP:aE:=.i .l (.call (.c (.fn 52 [] [])) [.l 0])
abbrev FL:aE:=.i .l (.ga (j 46) ab (.l 1) (.l 0))
abbrev xN:aE:=.i .l (.cy 7 (.l 0))
abbrev nG:aE:=.i .l (.cy 1 (.v 3))
abbrev JE:aE:=.i (.v 11) (.bin (.int o) .eql (.l 0) (.c (.int o 0)))
abbrev BE:aE:=.i .n (.store 3 (.v 1) (.l 0))
abbrev zG:aE:=.i .n (.store 1 (.l 0) (.l 1))
abbrev KZ:aE:=.i (.v 8) (.bin (.int o) .neq (.l 0) (.c (.int o 0)))
abbrev Bh:aE:=.g (.l 0) Q .l (.ba (.v 1))
abbrev RC:aE:=.i .l (.kC Q 29 [.int o 0,.int o 0,.aF] 3 1 [(0,(.c (.agg [.int o 0,.int o 0,.aF])))])
abbrev Vh:aE:=.i .l (.build [.int o 0,.int o 0,.int o 0,.int o 0,.aF] [(0,1),(1,1),(2,3)] [(2,(.l 0))])
abbrev VF:aE:=.g (.l 4) T .l (.bin (.int o) .neq (.l 2) (.l 0))
abbrev KB:aE:=.i .l (.bin (.int o) .eql (.l 0) (.c (.int o 5)))
abbrev amd:aE:=.i .l (.bin (.int o) .add (.v 8) (.c (.int o 1)))
abbrev Jf:aE:=.i (.v 7) (.alloc [.int o 0,.int o 0,.aF])
abbrev EH:aE:=.i .l (.len T (j 103) (.l 0))
abbrev LT:aE:=.i .l (.build [.int o 0,.int o 0,.aF] [(0,1),(1,1),(2,1)] [(0,(.c (.int o 4))),(1,(.l 0))])
abbrev Rg:aE:=.i .l (.build [.int o 0,.int o 0,.aF] [(0,1),(1,1),(2,1)] [(0,(.c (.int o 2))),(2,(.l 0))])
abbrev Rd:aE:=.i (.v 6) (.alloc [.int o 0,.int o 0,.int o 0,.int o 0,.int o 0,.int o 0])
abbrev Qc:aE:=.i (.v 5) (.alloc [.int o 0,.int o 0,.int o 0,.int o 0,.int o 0,.int o 0])
abbrev Qi:aE:=.i (.v 4) (.alloc [.int o 0,.int o 0,.int o 0,.int o 0,.int o 0,.int o 0])
abbrev zD:aE:=.i .l (.cy 2 (.v 1))
abbrev Fy:aE:=.i (.v 9) (.ba (.c (.int o 0)))
abbrev Fa:aE:=.i (.v 5) (.ba (.c (.bool T)))
abbrev Fk:aE:=.g (.l 0) T .l (.cy 0 (.v 1))
abbrev BT:aE:=.i .l (.call (.c (.fn 107 [] [])) [.l 5,.l 0])
abbrev E2:aE:=.i (.v 3) (.box 3 (.v 1))
abbrev BL:aE:=.i .l (.k9 (.l 2))
abbrev RH:aE:=.i .l (.kC T 98 [.int o 0,.int o 0,.int o 0,.int o 0] 4 1 [(0,(.l 0))])
abbrev E9:aE:=.i (.v 6) (.load T 1 (.l 0))
abbrev JD:aE:=.i (.v 9) (.bin (.int o) .lss (.v 8) (.v 7))
abbrev Mv:aE:=.i .l (.pick (.l 4) (.l 0) (.c (.bool T)))
abbrev ame:aE:=.i (.v 2) (.bin .slice .eql (.l 0) (.c .aF))
abbrev Ex:aE:=.g (.l 0) T .l (.ba (.v 2))
abbrev Bf:aE:=.i (.v 13) (.ba (.l 0))
abbrev BM:aE:=.i (.v 11) (.ba (.l 0))
abbrev Bc:aE:=.i (.v 10) (.ba (.l 0))
abbrev Ew:aE:=.i .n (.store 3 (.v 7) (.l 0))
abbrev zy:aE:=.i .n (.store 3 (.v 2) (.l 0))
abbrev Vo:aE:=.i .l (.kC T 46 [.int o 0,.int o 0,.int o 0,.aF] 4 1 [(0,(.l 0))])
abbrev Mq:aE:=.i .l (.ga ab (j (4,1)) (.l 0) (.l 2))
abbrev zB:aE:=.i .l (.ba (.v 9))
abbrev BQ:aE:=.i .l (.cy 12 (.l 0))
abbrev Kh:aE:=.i .l (.call (.c (.fn 108 [] [])) [.l 0])
abbrev VE:aE:=.i .l (.bin (.int o) .neq (.l 2) (.l 0))
abbrev Kw:aE:=.i .l (.bin (.int o) .lss (.l 3) (.l 0))
abbrev Bk:aE:=.i (.v 5) (.ba (.l 1))
abbrev Bj:aE:=.i (.v 4) (.ba (.l 1))
abbrev Bo:aE:=.i (.v 0) (.ba (.l 0))
abbrev Jl:aE:=.i .n (.store 1 (.v 8) (.c (.int o 0)))
abbrev Jz:aE:=.i .l (.call (.c (.fn 87 [] [])) [.l 0])
abbrev Jm:aE:=.i .l (.call (.c (.fn 18 [] [])) [.l 0])
abbrev amf:aE:=.i (.v 10) (.alloc [.int o 0,.int o 0,.int o 0,.int o 0,.aF])
abbrev amg:aE:=.i (.v 9) (.alloc [.int o 0,.int o 0,.int o 0,.int o 0,.aF])
abbrev Vg:aE:=.i (.v 4) (.alloc [.int o 0,.int o 0,.int o 0,.int o 0,.aF])
abbrev KS:aE:=.i .l (.ga (j 46) ab (.v 7) (.v 9))
abbrev zF:aE:=.i .l (.cy 2 (.v 3))
abbrev xQ:aE:=.i .l (.cy 0 (.v 3))
abbrev Rj:aE:=.g (.l 3) T .l (.load T 1 (.l 0))
abbrev If:aE:=.i .l (.load Q 9 (.v 8))
abbrev EK:aE:=.i .l (.load Q 6 (.l 0))
abbrev E1:aE:=.i .l (.load Q 3 (.v 1))
abbrev EF:aE:=.g (.l 4) Q .l (.load T 1 (.l 0))
abbrev BN:aE:=.i .l (.k9 (.l 4))
abbrev Ba:aE:=.i .l (.k9 (.l 1))
abbrev KU:aE:=.i (.v 8) (.len T (j 46) (.v 7))
abbrev amh:aE:=.i (.v 0) (.ba (.c .gd))
abbrev FK:aE:=.i (.v 2) (.box 4 (.v 0))
abbrev Mu:aE:=.i .l (.call (.c (.fn 22 [] [])) [])
abbrev CL:aE:=.i .l (.len T (j 56) (.l 0))
abbrev Jw:aE:=.g (.l 4) Q .l (.un .not (.l 0))
abbrev ami:aE:=.g (.l 2) T .l (.bin (.int o) .eql (.l 0) (.c (.int o 11)))
abbrev SE:aE:=.i (.v 6) (.alloc [.int o 0,.int o 0,.int o 0,.aF])
abbrev Fl:aE:=.g (.l 2) T .l (.bin (.int o) .gtr (.l 0) (.c (.int o 5)))
abbrev PH:aE:=.g (.l 1) T .l (.bin (.int o) .geq (.l 0) (.c (.int o 4)))
abbrev JH:aE:=.i (.v 8) (.ba (.c (.int o 0)))
abbrev JJ:aE:=.i (.v 7) (.ba (.c (.int o 0)))
abbrev Jv:aE:=.i (.v 4) (.ba (.c (.int o 1)))
abbrev Kf:aE:=.i (.v 4) (.ba (.c (.bool T)))
abbrev JI:aE:=.i (.v 3) (.ba (.c (.bool T)))
abbrev Ey:aE:=.i (.v 15) (.ba (.l 0))
abbrev Jq:aE:=.i (.v 1) (.ba (.c (.int o 0)))
abbrev JN:aE:=.i (.v 1) (.ba (.c (.bool T)))
abbrev Vr:aE:=.g (.l 3) Q .l (.bin (.int o) .eql (.l 0) (.c (.int o 1)))
abbrev FN:aE:=.g (.l 2) Q .l (.bin (.int o) .neq (.l 0) (.c (.int o 2)))
abbrev R0:aE:=.g (.l 2) Q .l (.bin (.int o) .neq (.l 0) (.c (.int o 0)))
abbrev H1:aE:=.g (.l 2) Q .l (.bin (.int o) .lss (.l 0) (.c (.int o 0)))
abbrev RS:aE:=.g (.l 1) Q .l (.bin (.int o) .geq (.l 0) (.c (.int o 0)))
abbrev uU:aE:=.g (.l 0) T .l (.cy 1 (.v 3))
abbrev amj:aE:=.i .l (.build [.gd,.aF] [(0,1),(1,1)] [(0,(.l 1)),(1,(.l 0))])
abbrev KA:aE:=.g (.l 0) Q .l (.cy 1 (.v 1))
abbrev ED:aE:=.i (.v 6) (.ba (.l 1))
abbrev E3:aE:=.i (.v 3) (.ba (.l 1))
abbrev Vk:aE:=.i .l (.call (.c (.fn 54 [] [])) [.l 4,.l 2,.l 1,.l 0])
abbrev amk:aE:=.g (.l 6) T .l (.call (.c (.fn 19 [] [])) [.l 1,.l 0])
abbrev tx:aE:=.i .l (.cy 6 (.l 0))
abbrev E5:aE:=.i .l (.cy 4 (.v 6))
abbrev WA:aE:=.i .l (.cy 0 (.v 9))
abbrev aml:aE:=.i .l (.call (.c (.fn 82 [] [])) [.l 0,.c (.int o 4)])
abbrev K0:aE:=.i .l (.build [.int o 0,.int o 0] [(0,1),(1,1)] [])
abbrev JK:aE:=.i .l (.box 2 (.l 0))
abbrev Ji:aE:=.g (.l 0) T .l (.ba (.v 1))
abbrev Mp:aE:=.i .n (.store 5 (.v 4) (.l 0))
abbrev FT:aE:=.i .n (.store 2 (.v 2) (.l 0))
abbrev Sn:aE:=.i (.v 6) (.bin (.int o) .neq (.l 0) (.c (.int o 0)))
abbrev FQ:aE:=.g (.l 0) Q .l (.ba (.v 5))
abbrev Jn:aE:=.i .l (.load T 1 (.v 11))
abbrev Rt:aE:=.i .l (.bin (.int o) .eql (.v 10) (.c (.int o 6)))
abbrev Rs:aE:=.i .l (.bin (.int o) .eql (.v 10) (.c (.int o 4)))
abbrev Rq:aE:=.i .l (.bin (.int o) .eql (.v 10) (.c (.int o 3)))
abbrev Rp:aE:=.i .l (.bin (.int o) .eql (.v 10) (.c (.int o 2)))
abbrev Ro:aE:=.i .l (.bin (.int o) .eql (.v 10) (.c (.int o 1)))
abbrev amm:aE:=.i .l (.bin (.int o) .eql (.l 0) (.c (.int o 20)))
abbrev amn:aE:=.i .l (.bin (.int o) .eql (.l 0) (.c (.int o 11)))
abbrev RX:aE:=.i .l (.bin (.int o) .add (.v 11) (.c (.int o 1)))
abbrev EE:aE:=.i .n (.vG (.l 0))
abbrev EA:aE:=.i .l (.ba (.v 10))
abbrev Jh:aE:=.i .l (.load T 1 (.v 6))
abbrev FI:aE:=.i .l (.bin (.int o) .lss (.l 0) (.c (.int o 1)))
abbrev Qm:aE:=.i .l (.bin (.int o) .add (.v 7) (.c (.int o 1)))
abbrev Sb:aE:=.i .l (.bin (.int o) .add (.v 5) (.c (.int o 1)))
abbrev PU:aE:=.g (.l 6) Q .l (.bin (.int o) .lss (.l 5) (.l 0))
abbrev amo:aE:=.g (.l 5) T .l (.call (.c (.fn 24 [] [])) [.l 1])
abbrev amp:aE:=.g (.l 4) T .l (.call (.c (.fn 24 [] [])) [.l 2])
abbrev Rk:aE:=.i (.v 9) (.alloc [.int o 0,.int o 0,.aF])
abbrev Ry:aE:=.i (.v 8) (.alloc [.int o 0,.int o 0,.aF])
abbrev Rw:aE:=.i (.v 6) (.alloc [.int o 0,.int o 0,.aF])
abbrev KX:aE:=.i .l (.load Q 4 (.v 6))
abbrev amq:aE:=.i .l (.ga (j 46) ab (.l 0) (.c (.int o 1)))
abbrev amr:aE:=.i .l (.ga (j 46) ab (.l 0) (.c (.int o 0)))
abbrev Qk:aE:=.i .l (.kC T 3 [.int o 0] 1 1 [(0,(.l 0))])
abbrev EM:aE:=.i .l (.ba (.v 8))
abbrev JC:aE:=.i (.v 3) (.ba (.c .aF))
abbrev Ra:aE:=.i .l (.call (.c (.fn 133 [] [])) [.l 1,.l 0])
abbrev Sj:aE:=.i .l (.call (.c (.fn 122 [] [])) [.l 1,.l 0])
abbrev Rv:aE:=.i .l (.call (.c (.fn 107 [] [])) [.l 8,.l 0])
abbrev Rr:aE:=.i .l (.call (.c (.fn 107 [] [])) [.l 4,.l 0])
abbrev RT:aE:=.i (.v 5) (.pick (.l 2) (.l 0) (.c (.bool T)))
abbrev ams:aE:=.i (.v 23) (.pick (.l 8) (.c (.bool Q)) (.l 0))
abbrev amt:aE:=.i (.v 22) (.pick (.l 3) (.c (.bool Q)) (.l 0))
abbrev RW:aE:=.i (.v 12) (.bin (.int o) .lss (.v 11) (.v 10))
abbrev SD:aE:=.i .l (.call (.c (.fn 99 [] [])) [.l 1,.l 0])
abbrev PW:aE:=.i .l (.call (.c (.fn 89 [] [])) [.l 1,.l 0])
abbrev P4:aE:=.i .l (.call (.c (.fn 88 [] [])) [.l 4,.l 0])
abbrev SA:aE:=.i .l (.call (.c (.fn 71 [] [])) [.l 1,.l 0])
abbrev Kc:aE:=.i (.v 2) (.box 3 (.v 0))
abbrev KY:aE:=.i (.v 1) (.box 1 (.v 0))
abbrev amu:aE:=.i (.v 21) (.bin (.int o) .eql (.l 1) (.l 0))
abbrev Qh:aE:=.i (.v 8) (.bin (.int o) .lss (.v 7) (.v 6))
abbrev R':aE:=.i (.v 6) (.bin (.int o) .lss (.v 5) (.v 4))
abbrev PV:aE:=.i .l (.pick (.l 7) (.l 0) (.c (.bool T)))
abbrev Mz:aE:=.i .n (.store 1 (.l 0) (.c (.int o (-1))))
abbrev amv:aE:=.i .l (.pick (.l 5) (.c (.bool Q)) (.l 0))
abbrev Fs:aE:=.i .l (.pick (.l 3) (.c (.bool Q)) (.l 0))
abbrev Kn:aE:=.i (.v 17) (.ba (.l 0))
abbrev Km:aE:=.i (.v 16) (.ba (.l 0))
abbrev Jk:aE:=.i (.v 14) (.ba (.l 0))
abbrev EG:aE:=.i .l (.call (.c (.fn 112 [] [])) [.l 0])
abbrev Rx:aE:=.i .l (.call (.c (.fn 109 [] [])) [.l 0])
abbrev PN:aE:=.i .l (.bin (.int o) .sub (.l 4) (.l 0))
abbrev Q8:aE:=.i .l (.bin (.int o) .sub (.l 1) (.l 0))
abbrev Q':aE:=.i .l (.bin (.int o) .eql (.l 1) (.l 0))
abbrev Qx:aE:=.i .l (.bin (.int o) .and (.l 1) (.l 0))
abbrev Qa:aE:=.i .l (.ga (j 103) ab (.l 1) (.l 0))
abbrev LE:aE:=.i .l (.call (.c (.fn 58 [] [])) [.l 0])
abbrev RV:aE:=.i .l (.call (.c (.fn 50 [] [])) [.l 0])
abbrev PK:aE:=.i .l (.call (.c (.fn 46 [] [])) [.l 0])
abbrev Ko:aE:=.i .l (.k9 (.l 10))
abbrev Mw:aE:=.i .l (.ga (j 56) ab (.l 1) (.l 0))
abbrev Mr:aE:=.i .l (.cy 6 (.v 2))
abbrev MA:aE:=.i .l (.cy 1 (.v 8))
abbrev R7:aE:=.i .l (.cy 1 (.v 1))
abbrev Kz:aE:=.i .l (.ga (j 3) ab (.l 2) (.l 0))
abbrev Vv:aE:=.i .l (.ga (j 3) ab (.l 1) (.l 0))
abbrev Jt:aE:=.g (.l 6) Q .l (.load T 1 (.l 0))
abbrev amw:aE:=.g (.l 3) T .l (.load Q 3 (.l 0))
abbrev amx:aE:=.g (.l 1) T .l (.load Q 3 (.l 0))
abbrev Jx:aE:=.i .l (.k9 (.l 7))
abbrev Be:aE:=.i .l (.k9 (.l 6))
abbrev My:aE:=.i .l (.ba (.v 13))
abbrev KD:aE:=.i (.v 2) (.ba (.c (.int o (-1))))
abbrev Sx:aE:=.i .l (.len T (j 169) (.l 0))
abbrev amy:aE:=.g (.l 7) T .l (.un .not (.l 0))
abbrev RB:aE:=.i .l (.len T (j 29) (.l 1))
abbrev RI:aE:=.i .l (.app T 98 (.l 5) (.l 0))
abbrev R2:aE:=.i (.v 11) (.ba (.c (.int o 0)))
abbrev amz:aE:=.g (.l 2) T .l (.cy 2 (.v 10))
abbrev amA:aE:=.g (.l 2) T .l (.cy 1 (.v 10))
abbrev amB:aE:=.g (.l 0) T .l (.cy 0 (.v 10))
abbrev PO:aE:=.i .l (.len T (j 4) (.l 0))
abbrev VD:aE:=.i .l (.len T (j 3) (.l 0))
abbrev Vu:aE:=.i .l (.len T (j 2) (.l 0))
abbrev Ql:aE:=.i .l (.app T 3 (.l 3) (.l 0))
abbrev P6:aE:=.i (.v 6) (.ba (.c (.int o 0)))
abbrev Sm:aE:=.i (.v 3) (.ba (.c (.int o 9)))
abbrev Vn:aE:=.i (.v 0) (.ba (.c (.bool T)))
abbrev PI:aE:=.g (.l 6) T .l (.cy 1 (.l 0))
abbrev amC:aE:=.g (.l 0) T .l (.cy 2 (.v 9))
abbrev amD:aE:=.g (.l 0) T .l (.cy 1 (.v 9))
abbrev Sa:aE:=.i (.v 7) (.call (.l 4) [.l 0])
abbrev RJ:aE:=.i (.v 5) (.ba (.c (.bool Q)))
abbrev Rn:aE:=.i (.v 10) (.load T 1 (.l 0))
abbrev P1:aE:=.g (.l 2) Q .l (.cy 1 (.l 0))
abbrev Vq:aE:=.g (.l 1) Q .l (.cy 0 (.l 0))
abbrev GX:aE:=.g (.l 0) Q .l (.cy 3 (.v 8))
abbrev GW:aE:=.g (.l 0) Q .l (.cy 0 (.v 8))
abbrev R1:aE:=.i (.v 9) (.load T 1 (.l 0))
abbrev PT:aE:=.g (.l 2) Q .l (.k9 (.l 0))
abbrev P0:aE:=.g (.l 1) Q .l (.k9 (.l 0))
abbrev amE:aE:=.i .n (.store 5 (.v 10) (.l 0))
abbrev FP:aE:=.g (.l 2) T .l (.ba (.v 0))
abbrev Vw:aE:=.g (.l 1) Q .l (.ba (.v 13))
abbrev Re:aE:=.i .n (.store 6 (.v 6) (.l 0))
abbrev In:aE:=.i .n (.store 6 (.v 5) (.l 0))
abbrev Qj:aE:=.i .n (.store 6 (.v 4) (.l 0))
abbrev Qg:aE:=.i .n (.store 6 (.v 2) (.l 0))
abbrev amF:aE:=.i .n (.store 5 (.v 9) (.l 0))
abbrev SF:aE:=.i .n (.store 4 (.v 6) (.l 0))
abbrev Rz:aE:=.i .n (.store 3 (.v 8) (.l 0))
abbrev amG:aE:=.i .n (.store 3 (.v 4) (.l 2))
abbrev SG:aE:=.i .n (.store 2 (.v 3) (.l 0))
abbrev RD:aE:=.i .n (.store 1 (.l 0) (.l 3))
abbrev SR:aE:=.g (.l 1) Q .l (.ba (.v 1))
abbrev PS:aE:=.g (.l 1) Q .l (.ba (.v 0))
abbrev VC:bl:=.ops [WA,bb,.i .l (.cy 0 (.v 10)),bb,VE,di,amD,m0,amA,Rj,VF,amv,di,amC,amx,amz,amw,amp,.bX [⟨(j ((.l 5),T)),Q,3,.l 2,(.l 1)⟩],amo,amk,amy,ams]
abbrev nC:bl:=.ops [we]
abbrev uJ:bl:=.ops [zl]
abbrev zq:bl:=.ops [eY,lj]
abbrev vX:bl:=.ops [ama]
abbrev uR:bl:=.ops [PP]
abbrev xz:bl:=.ops [uK]
abbrev VB:bl:=.ops [WA,bb,amn,di,amB,m0,ami,amt]
abbrev Fx:bl:=.ops [amb,BF]
abbrev Ru:bl:=.ops [bj,mt,bj,mt,v9,wb,amG,zA]
abbrev R4:bl:=.ops [qp,bb,R7,bb,Sl,EY,zx]
abbrev Kx:bl:=.ops [jo,rv,oi]
abbrev Rh:bl:=.ops [bj,cM,iD,bb,EW,amm,aml]
abbrev BG:bl:=.ops [KJ]
abbrev KE:bl:=.ops [eY,rv,kF]
abbrev BS:bl:=.ops [sk]
abbrev Kl:bl:=.ops [bj,J',kF]
abbrev RE:bl:=.ops [eY,xA,bb,BL,mW,mA]
abbrev SB:bl:=.ops [bj,sy,bb,amr,sx,KT]
abbrev SC:bl:=.ops [bj,sy,bb,amq,sx,KT]
abbrev Rc:bl:=.ops [E2,.i (.v 4) (.box 3 (.v 2))]
abbrev Vj:bl:=.ops [.i (.v 2) (.box 9 (.v 1)),Vp]
abbrev VA:bl:=.ops [jo,If,GU,amf,amE]
abbrev Vy:bl:=.ops [eY,If,GU,amg,amF]
abbrev TG:bl:=.ops [bj,iY,amj,JK,l6]
abbrev EP:bl:=.ops [amh]
abbrev JF:bl:=.ops [amd,v']
abbrev Ke:bl:=.ops [BU,Rl]
abbrev JM:bl:=.ops [bj,ame]
abbrev Fw:bl:=.ops [amc]
abbrev EL:bl:=.ops [Fp]
abbrev SO:bl:=.ops [.i (.v 3) (.box 4 (.v 1))]
abbrev Q1:bl:=.ops [.i (.v 2) (.ba (.v 0))]
abbrev Vz:bl:=.ops [MA,bb,en,amu]
abbrev Bd:fC:=.bin (.int o) .neq (.l 0) (.c (.int o 0))
abbrev Bm:fC:=.bin (.int o) .eql (.l 0) (.c (.int o 0))
abbrev wg:fC:=.bin (.int o) .lss (.l 2) (.l 0)
abbrev zE:fC:=.pick (.l 3) (.l 0) (.c (.bool T))
abbrev Bn:fC:=.bin (.int o) .geq (.l 0) (.c (.int o 0))
abbrev Fq:fC:=.bin (.int o) .eql (.l 0) (.c (.int o 4))
abbrev BW:fC:=.bin (.int o) .eql (.l 0) (.c (.int o 2))
abbrev rp:fC:=.load T 1 (.l 0)
abbrev FH:fC:=.alloc [.int o 0,.int o 0]
abbrev vV:fC:=.un .not (.l 0)
abbrev Qf:fC:=.alloc [.int o 0,.int o 0,.int o 0,.int o 0,.int o 0,.int o 0]
abbrev JG:fC:=.call (.c (.fn 67 [] [])) [.l 1,.l 0]
abbrev EN:fC:=.pick (.l 5) (.l 0) (.c (.bool T))
abbrev wd:fC:=.ba (.l 0)
abbrev EI:fC:=.ba (.c (.int o 1))
abbrev Sz:fC:=.alloc [.int o 0,.int o 0,.int o 0,.aF]
abbrev B3:fC:=.len T (j 46) (.l 0)
abbrev KC:fC:=.len T (j 29) (.l 0)
abbrev Js:fC:=.ba (.c (.int o 8))
abbrev Jg:fC:=.alloc [.int o 0]
abbrev PM:fC:=.alloc [.int o 0,.int o 0,.aF]
abbrev P9:fC:=.call (.c (.fn 94 [] [])) [.l 1,.l 0]
abbrev Ju:fC:=.pick (.l 8) (.l 0) (.c (.bool T))
abbrev FO:fC:=.pick (.l 4) (.c (.bool Q)) (.l 0)
abbrev RZ:fC:=.pick (.l 3) (.c (.bool Q)) (.l 0)
abbrev P7:fC:=.pick (.l 2) (.c (.bool Q)) (.l 0)
abbrev Do:fC:=.load Q 4 (.v 4)
abbrev R5:fC:=.call (.c (.fn 131 [] [])) [.l 0]
abbrev RA:fC:=.bin (.int o) .neq (.l 4) (.l 0)
abbrev KG:fC:=.bin (.int o) .neq (.l 2) (.l 0)
abbrev SU:fC:=.bin (.int o) .lss (.l 3) (.l 0)
abbrev Q9:fC:=.bin (.int o) .lss (.l 1) (.l 0)
abbrev PJ:fC:=.bin (.int o) .geq (.l 8) (.l 0)
abbrev Se:fC:=.bin (.int o) .eql (.l 2) (.l 0)
abbrev PX:fC:=.ga (j 4) ab (.l 1) (.l 0)
abbrev Vx:fC:=.ga (j 2) ab (.l 1) (.l 0)
def OT(ops:Array a0)(M:Array Nat):Nat->List Nat->List Nat->List (Nat×List Nat)
 |0,_,_=>[]
 |n+1,rest,done=>
   let vL:=rest.filter λi=>rest.all λD=>D==i|| !ks M D i
   match((vL.find? λi=>lR (ops.getD i default)).or (vL.find? λi=>match(ops.getD i default).op with|.alloc _=>T|_=>Q)).or vL.head? with
   |none=>[]
   |some i=>(i,if lR (ops.getD i default)then[]else done.filter λD=>qM (ops.getD D default)&& !ks M D i)::OT ops M n (rest.filter (· != i)) (done++[i])
def OU(ops:Array a0)(M:Array Nat)(pl:List (Nat×List Nat)):List (Nat×List Nat):=match pl.reverse with
 |(y,[])::(x,[])::r=>if pS (ops.getD x default)&&pS (ops.getD y default)&& !ks M x y then r.reverse++[(x,[]),(y,[x])]else pl
 |_=>pl
def OV(ops:Array a0)(M:Array Nat):Nat->List Nat->List Nat->List (Nat×List Nat)
 |0,_,_=>[]
 |n+1,rest,done=>
   let vL:=rest.filter λi=>rest.all λD=>D==i|| !ks M D i
   match(((vL.find? λi=>lR (ops.getD i default)).or (vL.find? λi=>match(ops.getD i default).op with|.buildSlice .. =>Q|_=>T)).or (vL.find? λi=>match(ops.getD i default).op with|.alloc _=>T|_=>Q)).or vL.head? with
   |none=>[]
   |some i=>(i,if lR (ops.getD i default)then[]else done.filter λD=>qM (ops.getD D default)&& !ks M D i)::OV ops M n (rest.filter (· != i)) (done++[i])
def Zn(ops:Array a0):List (Nat×List Nat):=OU ops (lq ops) (OT ops (lq ops) ops.size (iQ ops.size) [])
def Zo(ops:Array a0):List (Nat×List Nat):=OU ops (lq ops) (OV ops (lq ops) ops.size (iQ ops.size) [])
def Zp(a2:aT->Bool)(ops:Array a0):Bool:=ops.any λE=>match E.op with|.buildSlice ty _ _=> !a2 ty&&a2 (ty+1000000)|_=>T
def xg(id:Nat):ff->Option (Array a0)
 |.region i ops _=>if i=id then j ops else ab
 |.seq a b=>(xg id a).or (xg id b)
 |.cond _ a b=>(xg id a).or (xg id b)
 |.block _ b=>xg id b
 |.loop b=>xg id b
 |_=>ab
def Zq(fn:Func):Nat:=fn.ntmps
def xh(P:cp)(a2:cJ->aT->Bool)(ext:cJ->Option (List I->ad->Option ((I⊕I)×ad)))(use pure:List cJ):hh where
 ext:=ext
 a2:=a2
 aI g:=match P.funcs[g]? with
  |some fn=>Zq fn
  |none=>0
 cm g id:=match((P.funcs[g]?).bind (·.body)).bind (xg id)with
  |some ops=>if Zp (a2 g) ops then Zo ops else Zn ops
  |none=>[]
 use:=use.contains
 pure:=pure.contains
 e3 g d:=if 3000000<=d then !a2 g (d - 3000000)&&a2 g (d - 3000000+1000000)else if 1000000<=d then(jv P (d - 1000000)).isSome else match P.funcs[g]? with
  |some fn=>fn.results.toList.any λr=>match r with|.cell i _=>i==d|_=>T
  |none=>T
def OW(P:cp):Bool:=(iQ P.types.size).all λt=>(match P.info? t with
 |some i=>decide (i.bytes<=100000)&&(match i.zero with|some v=>v.cells.size==i.size|none=>Q)
 |none=>Q)&&(match P.underlying t with
 |some (.slice e)=>decide (0<P.cellsOf e)
 |_=>Q)
def OX(P:cp)(W:hh)(use:List cJ):Bool:=use.all λg=>match P.funcs[g]? with
 |some fn=>(match fn.body with|some c=>iJ (W.cm g) (W.e3 g) c|none=>Q)&& !(fn.name== "runtime.NumGoroutine")
 |none=>Q
theorem Zr{P:cp}(h:OW P=Q):nZ P:=by
 unfold OW at h;rw[iR]at h;refine⟨λt i v bh F O=>?_,λt i bh F=>?_,λt e bh he=>?_⟩
 ·have:=h t (jl.2 bh);simp only[F,O,gS,beq_iff_eq]at this;exact this.1.2
 ·have:=h t (jl.2 bh);simp only[F,gS,decide_eq_true_eq]at this;exact this.1.1
 ·have:=h t (jl.2 bh);simp only[he,gS,decide_eq_true_eq]at this;exact this.2
theorem Zs{P:cp}{a2:cJ->aT->Bool}{ext:cJ->Option (List I->ad->Option ((I⊕I)×ad))}{use pure:List cJ}(p1:nZ P)(hm:P.follows .mixedOrders=Q)(bc:OX P (xh P a2 ext use pure) use=Q)(an:∀g ag,ext g=j ag->∃fn,P.funcs[g]? =j fn/\(fn.body.isNone=T/\(fn.name== "runtime.NumGoroutine")=T)/\∀args h r,ag args h=j r->AC P g args h r):k6 P (xh P a2 ext use pure):=by
 unfold OX at bc;rw[iR]at bc;have r0:∀g,(xh P a2 ext use pure).use g=Q->g∈use:=λg aX=>by simpa[xh]using aX
 refine⟨p1,λg fn F O=>?_,an,λg fn c F O af=>?_,hm,λg e F he=>?_,λg ty he=>?_⟩
 ·have:=bc g (r0 g O);rw[F]at this;simp only[gS]at this;simpa using this.2
 ·have:=bc g (r0 g af);rw[F]at this;simp only[O,gS]at this;exact this.1
 ·simp only[xh]at he;rw[if_neg (by omega),if_pos (Nat.le_add_right _ _),Nat.add_sub_cancel_left]at he;exact he
 ·simp only[xh]at he ⊢;rw[if_pos (by omega),show 1000000+(ty+2000000) - 3000000=ty by omega,gS,Bool.not_eq_true']at he;exact he
end Go.Proofs.Ytkdbjfncchmmpaa
