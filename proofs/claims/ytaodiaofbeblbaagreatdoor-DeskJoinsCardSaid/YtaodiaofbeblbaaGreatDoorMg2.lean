/- Each operation that is no call does in memory what it does in the plain model: structs compared, slices cut, rows built. Rows are built: struct literals, slice literals, make, append. append does in memory what it does in the plain model. append does in memory what it does in the plain model: whole. Every operation that is no call does in memory what it does in the plain model. -/
import Derived.Test.YtaodiaofbeblbaaGreatDoorMg1
import Derived.Lib.AppendStr
import Derived.Great.BuildSlice
import Derived.Laws.MakeOwn
import Derived.Laws.OwnMore
import Derived.Maps.AppendAt
import Derived.Orders
set_option linter.unusedSimpArgs false
set_option linter.unusedVariables false
set_option maxHeartbeats 4000000
set_option maxRecDepth 1000000
open List renaming replicate→ar,length_append→dy,length_cons→dw,getElem?_eq_some_iff→fR,getElem?_eq_getElem→gd,length_nil→ey,getD→dm,getElem_mem→hf,map_cons→gP,mem_cons→gW,all_eq_true→iC,append_assoc→jA,getElem?_eq_none→lN,nil_append→j6,length_eq_zero_iff→mF,mem_range→j8,range→iO,getElem?_append_left→ph,append_nil→me,map_nil→kK,mem_map→lR,getElem?_cons_zero→qT,getElem?_append_right→rx,mem_of_getElem?→qV,mem_append→pq,contains_eq_mem→rJ,getElem?_take_of_lt→t',length_drop→sK,mem_singleton→vp
open Option renaming some→j,none→Z,bind_eq_some_iff→dt,map_eq_some_iff→dl,bind_some→da,map_some→g3,getD_some→ns,isSome_iff_exists→w0
open Nat renaming le_refl→bS,lt_of_lt_of_le→eF,le_trans→ee,zero_add→gH,zero_le→hK,lt_or_ge→oI,add_assoc→p0,le_of_eq→p3
open Bool renaming false→R,true→Q,and_eq_true→h8,false_eq_true→nx,or_eq_true→qg
open Go renaming TypeId→aU,Program→cu,Value→bH,Oper→bb,run_underlying→fY,FuncId→cH,World→cd,Operand→fM,execOp→e9,Frame→eO,undef→fy,Code→ef,lone→ew,IntKind→kf
open Array renaming getD_eq_getD_getElem?→h9,getElem?_toList→tY
open Option.some renaming injEq→hg
open Go.Result renaming andThen_ok→hD
open Prod.mk renaming injEq→iQ
open Go.Sem renaming run_bind→hM,run_pure→kX
open Go.Op renaming operands→hW
open Go.Region renaming binds→kv,before→mA
open Go.Frame renaming enter→jO
open Go.RowKit.Below renaming refl→kZ
open Go.Addr renaming add_lit→nW
open Ne renaming symm→lo
open List.cons renaming injEq→xf
open Go.Builtin renaming append_→vv
open Go.Act renaming put→px
namespace Go.Proofs.YtaodiaofbeblbaaGreatDoor
variable{u:bH}{xs:List bH}{dR z:List I}{es:List (List I)}{cap off y:Nat}{rest:List Nat}{O:bb}{cs:List eO}{dh:Bool}
open Go Go.RowKit
section
variable{P:cu}{m aZ:dq}{h E:ad}{w aJ:cd}{t:List I}{a:Act}{O:bb}
theorem alf{ty:aU}{k:kf}(ab:hs P ty= .int k):P.underlying ty=j (.int k):=by unfold hs at ab;split at ab<;>simp at ab;rename_i F;rw[F,ab]
theorem alg{ty:aU}(ab:hs P ty= .bool):P.underlying ty=j .bool:=by unfold hs at ab;split at ab<;>simp at ab;assumption
theorem alh{ty:aU}(ab:hs P ty= .str):P.underlying ty=j .string:=by unfold hs at ab;split at ab<;>simp at ab;assumption
theorem Vi(ty:aU){d:TypeDesc}(a1:P.underlying ty=j d)(tV:j3 P ty=R)(cs:List bH)(off:Nat)(bE:cs[off]? =j u):(part ty cs.toArray off).run P w= .ok u w:=by unfold part;simp only[hM,NG ty a1,hD,tV];simp[bE]
theorem Vj:∀(dM:List Field) (i d:Nat) (X Y:List I) (vz vA:List bH) (r:Bool),dV P m h X vz->dV P m h Y vA->(dM.zipIdx i).all (λ(f,i)=>f.name != "_"&&f.offset==i&&P.cellsOf f.type==1)=Q->sA (dM.map λf=>hs P f.type) (X.drop i) (Y.drop i)=j r->(Op.eqFields (d+1) vz.toArray vA.toArray dM).run P w= .ok r w
 |[],i,d,X,Y,vz,vA,r,EW,NL,bn,he=>by simp only[kK]at he;unfold sA at he;split at he<;>simp_all [Op.eqFields]
 |f::dM,i,d,X,Y,vz,vA,r,EW,NL,bn,he=>by
   simp only[List.zipIdx_cons,List.all_cons,h8,bne_iff_ne,beq_iff_eq]at bn;obtain⟨⟨⟨aq,ali⟩,_⟩,IN⟩:=bn;simp only[gP]at he;have step:∀(x y:I) (xs dR:List I) (b bZ:Bool),X.drop i=x::xs->Y.drop i=y::dR->sA (dM.map λf=>hs P f.type) xs dR=j bZ->r=(b&&bZ)->j3 P f.type=R->(∃mb,P.underlying f.type=j mb)->(∀u v,bF P m h x u->bF P m h y v->(Op.equalIn (d+1) f.type u v).run P w= .ok b w)->(Op.eqFields (d+1) vz.toArray vA.toArray (f::dM)).run P w= .ok r w:=by
    intro x y xs dR b bZ ex w4 ny aj tV ⟨mb,Cx⟩ heq;have an:X[i]? =j x:=by have:=congrArg (·[0]?) ex;simpa using this
    have bq:Y[i]? =j y:=by have:=congrArg (·[0]?) w4;simpa using this
    obtain⟨u,ma,kL⟩:=EW.get? an;obtain⟨v,qP,hO⟩:=NL.get? bq;have alj:X.drop (i+1)=xs:=by have:=congrArg (List.drop 1) ex;simpa using this
    have alk:Y.drop (i+1)=dR:=by have:=congrArg (List.drop 1) w4;simpa using this
    have aW:=Vj dM (i+1) d X Y vz vA bZ EW NL IN (by rw[alj,alk];exact ny);have dU:=Vi (w:=w) f.type Cx tV vz i ma;have g8:=Vi (w:=w) f.type Cx tV vA i qP;simp only[Op.eqFields,aq,ne_eq,not_false_eq_true,if_true,ali,hM,dU,g8,hD,heq u v kL hO];cases b
    ·simp[aj]
    ·simp[aj,aW]
   generalize aAh:X.drop i=aAi at he step;generalize aAj:Y.drop i=aAk at he step;unfold sA at he;split at he
   ·rename_i aE;simp at aE
   ·rename_i _ _ _ hh aV k dZ xs dn c1 dR av;injection av with av ax;split at he
    ·rename_i IP;subst IP;obtain⟨bZ,F,J⟩:=dl.1 he;have oS:=alf av;refine step _ _ _ _ (dZ==c1) bZ rfl rfl (by rw[ax];exact F) J.symm (by simp[j3,oS]) ⟨_,oS⟩ (λu v bE U=>?_);cases bE;cases U;simp[Op.equalIn,fY oS]
    ·cases he
   ·rename_i _ _ _ aV dZ xs c1 dR av;injection av with av ax;obtain⟨bZ,F,J⟩:=dl.1 he;have oS:=alg av;refine step _ _ _ _ (dZ==c1) bZ rfl rfl (by rw[ax];exact F) J.symm (by simp[j3,oS]) ⟨_,oS⟩ (λu v bE U=>?_);cases bE;cases U;simp[Op.equalIn,fY oS]
   ·rename_i _ _ _ aV dZ xs c1 dR av;injection av with av ax;obtain⟨bZ,F,J⟩:=dl.1 he;have oS:=alh av;refine step _ _ _ _ (dZ==c1) bZ rfl rfl (by rw[ax];exact F) J.symm (by simp[j3,oS]) ⟨_,oS⟩ (λu v bE U=>?_);cases bE;cases U;simp[run_equalIn_string,oS]
   ·cases he
theorem Vk(hw:bW P m h w)(aO:dF P m h t a.tmps)(op:BinOp)(ty sM:aU)(x y:fM)(au:O.op= .binOp op ty x y sM){xs:List I}{aV:List kh}{b:Bool}{v:I}(an:bA t x= .agg xs)(bq:bA t y= .agg dR)(ab:vs P ty=j aV)(ag:sA aV xs dR=j b)(iW:(op= .eql/\v= .bool b)\/(op= .neq/\v= .bool !b)):dJ P m h a w O v h:=by
 have F:=g2 aO x;have J:=g2 aO y;rw[an]at F;rw[bq]at J;obtain⟨u1,ma⟩:∃u,a.eval x=u:=⟨_,rfl⟩;obtain⟨u2,kL⟩:∃u,a.eval y=u:=⟨_,rfl⟩;rw[ma]at F;rw[kL]at J;cases F with
 |agg _ b5 aP a2=>
 cases J with
 |agg _ ca dk dH=>
 unfold vs at ab;split at ab
 ·rename_i dM sL;split at ab
  ·rename_i al;injection ab with ab;subst ab;simp only[h8,Bool.not_eq_true']at al;obtain⟨⟨a6,c2⟩,c3⟩:=al;have IQ:P.fieldsOf ty=dM:=by simp[Program.fieldsOf,sL]
   have oS:P.underlying ty=j (.struct (P.fieldsOf ty)):=by rw[IQ];exact sL
   have fz:(Op.equalIn 10000 ty (.agg b5.toArray) (.agg ca.toArray)).run P w= .ok b w:=by rw[show(10000:Nat)=9999+1 from rfl,run_equalIn_agg w 9999 ty _ _ oS a6,IQ];exact Vj dM.toList 0 9998 xs dR b5 ca b ⟨aP,a2⟩ ⟨dk,dH⟩ c3 ag
   rcases iW with⟨rfl,rfl⟩|⟨rfl,rfl⟩
   ·refine dJ.pure hw (u:=.bool b) ?_ (.bool _);simp only[e9,au,ma,kL,hM,run_eqGuard_agg w _ _ _ _ _ _ c2,hD,run_eql_struct,fz,kX]
   ·refine dJ.pure hw (u:=.bool !b) ?_ (.bool _);simp only[e9,au,ma,kL,hM,run_eqGuard_agg w _ _ _ _ _ _ c2,hD,run_neq_struct,fz,kX]
  ·cases ab
 ·cases ab
theorem Vl(x:bH)(k:kf)(i:Int)(y:Nat)(c:BoundsCode)(an:x= .int k i)(am:0<=i)(F:i<=y):(Instr.sliceBound x y c).run P w= .ok i.toNat w:=by subst an;simp[Instr.sliceBound,asIntOf,am,F]
theorem E0(alm:Bool)(n cap:Nat)(gk ae:Option fM)(aO:dF P m h t a.tmps){l r:Int}(ai:p5 (gk.map (bA t))=j l)(aj:qM n (ae.map (bA t))=j r)(am:0<=l)(F:l<=r)(J:r<=n)(af:n<=cap):(Instr.sliceBounds alm n cap (gk.map a.eval) (ae.map a.eval) Z).run P w= .ok (l.toNat,r.toNat,cap) w:=by
 have IS:∀x,ae=j x->∀(y:Nat) c,r<=(y:Int)->(Instr.sliceBound (a.eval x) y c).run P w= .ok r.toNat w:=by intro x z' y c bq;subst z';have an:=g2 aO x;simp only[g3]at aj;generalize bA t x=ex at aj an;generalize a.eval x=II at an;cases an<;>simp[qM]at aj;subst aj;exact Vl _ _ _ _ _ rfl (by omega) (by omega)
 have Aa:∀x,gk=j x->∀(y:Nat) c,l<=(y:Int)->(Instr.sliceBound (a.eval x) y c).run P w= .ok l.toNat w:=by intro x z' y c bq;subst z';have an:=g2 aO x;simp only[g3]at ai;generalize bA t x=ex at ai an;generalize a.eval x=II at an;cases an<;>simp[p5]at ai;subst ai;exact Vl _ _ _ _ _ rfl (by omega) (by omega)
 cases ae with
 |none=>
   have jE:r.toNat=n:=by simp[qM]at aj;omega
   cases gk with
   |none=>
     have jh:l.toNat=0:=by simp[p5]at ai;omega
     simp[Instr.sliceBounds,jE,jh]
   |some x=>simp[Instr.sliceBounds,jE,Aa x rfl n _ (by omega)]
 |some y=>
   cases gk with
   |none=>
     have jh:l.toNat=0:=by simp[p5]at ai;omega
     simp[Instr.sliceBounds,jh,IS y rfl cap _ (by omega)]
   |some x=>simp[Instr.sliceBounds,IS y rfl cap _ (by omega),Aa x rfl r.toNat _ (by omega)]
theorem aln{ty:aU}(F:oM P ty=Q):P.underlying ty=j .string:=by
 unfold oM at F;split at F
 ·assumption
 ·cases F
theorem alo{ty:aU}(F:Ix P ty=Q):∃e,jK P ty=j e:=by unfold Ix at F;exact w0.1 F
theorem alp(gf:pw P)(hw:bW P m h w)(aO:dF P m h t a.tmps)(ty:aU)(x:fM)(gk ae:Option fM)(au:O.op= .slice ty x gk ae Z)(bn:wS P ty (bA t x)=Q){v:I}(U:ku (bA t x) (gk.map (bA t)) (ae.map (bA t))=j v):dJ P m h a w O v h:=by
 have al:=g2 aO x;have key:∃l n r,p5 (gk.map (bA t))=j l/\gY (bA t x)=j n/\qM n (ae.map (bA t))=j r/\(0<=l/\l<=r/\r<=n)/\oO (bA t x) l r=j v:=by
  unfold ku at U;obtain⟨l,ai,qP⟩:=dt.1 U;obtain⟨n,aq,hO⟩:=dt.1 qP;obtain⟨r,aj,vB⟩:=dt.1 hO;split at vB
  ·rename_i j5;exact⟨l,n,r,ai,aq,aj,j5,vB⟩
  ·cases vB
 clear U;obtain⟨l,n,r,ai,aq,aj,⟨am,F,J⟩,U⟩:=key
 ·revert bn al aq U;obtain⟨u,bE⟩:∃u,a.eval x=u:=⟨_,rfl⟩;rw[bE];generalize bA t x=ex;intro bn al aq U;have pre:∀{d:TypeDesc},P.underlying ty=j d->(∀k e,d≠.array k e)->(e9 a.eval O).run P w=((Instr.slice ty u (gk.map a.eval) (ae.map a.eval) Z).run P w).andThen λv aJ=>.ok (.value v) aJ:=by intro d a1 cP;simp only[e9,au,bE,Instr.sliceAt,hM,fY a1,hD,Option.map_none];cases d<;>first|rfl|exact absurd rfl (cP _ _)
  cases al with
  |str s=>
    simp only[gY,hg]at aq;simp only[oO,hg]at U;subst aq;subst U
    ·have a1:=aln (P:=P) (ty:=ty) bn;refine dJ.pure hw (u:=.string ⟨((s.drop l.toNat).take (r.toNat - l.toNat)).toArray⟩) ?_ (.str _);rw[pre a1 (by simp)];simp only[Instr.slice,hM,fY a1,hD,Option.isSome_none,nx,if_false,IL,kX];rw[E0 R s.length s.length gk ae aO ai aj am F J (bS _)];simp only[hD];congr 3;apply ByteArray.ext;simp[ByteArray.data_extract]
  |aC=>
    simp only[gY,hg]at aq;simp only[oO,hg]at U;subst aq;subst U
    ·obtain⟨e,Vm⟩:=alo (P:=P) (ty:=ty) bn;have a1:=rE Vm;have mC:=w2 gf Vm;obtain⟨i0,gw,h7⟩:=qQ (P:=P) (q:=e) (by unfold c';omega);have qd:l=0:=by omega
     have vC:r=0:=by omega
     refine dJ.pure hw (u:=.slice Z 0 0) ?_ .aC;rw[pre a1 (by simp)];simp only[Instr.slice,hM,fY a1,hD];rw[E0 Q 0 0 gk ae aO ai aj am F J (bS _)];simp[qd,vC,sizeOf,typeInfo,gw]
  |mB e dZ cap=>
    simp only[gY,hg,ey]at aq;simp only[oO,hg,List.drop_nil,List.take_nil]at U;subst aq;subst U;simp only[wS,beq_iff_eq]at bn;have a1:=rE bn;have mC:=w2 gf bn;obtain⟨i0,gw,h7⟩:=qQ (P:=P) (q:=e) (by unfold c';omega);have qd:l=0:=by omega
    have vC:r=0:=by omega
    refine dJ.pure hw (u:=.slice (j dZ) 0 cap) ?_ (.mB e dZ cap);rw[pre a1 (by simp)];simp only[Instr.slice,hM,fY a1,hD];rw[E0 Q 0 cap gk ae aO ai aj am F J (hK _)];simp[qd,vC,sizeOf,typeInfo,gw,Addr.add]
  |bN id e es g e6 cap ah hle ev qa jt z6=>
    simp only[gY,hg]at aq;simp only[oO,hg]at U;subst aq;subst U;simp only[wS,beq_iff_eq]at bn;have a1:=rE bn;have mC:=w2 gf bn;obtain⟨i0,gw,h7⟩:=qQ (P:=P) (q:=e) (by unfold c';omega);have hN:i0.size=P.cellsOf e:=h7;have hlen:((es.drop l.toNat).take (r.toNat - l.toNat)).length=r.toNat - l.toNat:=by simp;omega
    have jM:(e9 a.eval O).run P w= .ok (.value (.slice (j (if cap=l.toNat then⟨g,e6,Z⟩else⟨g,e6+l.toNat*P.cellsOf e,Z⟩)) (r.toNat - l.toNat) (cap - l.toNat))) w:=by
     rw[pre a1 (by simp)];simp only[Instr.slice,hM,fY a1,hD];rw[E0 Q es.length cap gk ae aO ai aj am F J jt];simp only[hD,sizeOf,typeInfo,hM,run_program,gw,kX,hN];by_cases lp:cap=l.toNat
     ·simp[lp]
     ·simp[lp,nW]
    obtain⟨bC,tW⟩:∃bC,(if cap=l.toNat then(⟨g,e6,Z⟩:Addr)else⟨g,e6+l.toNat*P.cellsOf e,Z⟩)=⟨g,bC,Z⟩/\(cap≠l.toNat->bC=e6+l.toNat*P.cellsOf e):=by
     by_cases lp:cap=l.toNat
     ·exact⟨e6,by simp[lp],λcP=>absurd lp cP⟩
     ·exact⟨_,by simp[lp],λ_=>rfl⟩
    obtain⟨tW,alq⟩:=tW;rw[tW]at jM;refine dJ.pure hw jM ?_;have kl:=bF.bN (P:=P) (m:=m) (h:=h) Z e ((es.drop l.toNat).take (r.toNat - l.toNat)) g bC (cap - l.toNat) (λi D=>ah (l.toNat+i) D) (λq aE=>hle q (List.mem_of_mem_drop (List.mem_of_mem_take aE))) (by
     intro i Vn D aa;rw[hlen]at Vn;rw[alq (by omega)];have:=ev (l.toNat+i) (by omega) D aa;rw[Nat.add_mul]at this;rw[<-this];congr 1;omega) (by
     intro i Vn D aa;simp only[List.getElem_take,List.getElem_drop]at aa ⊢;exact qa _ _ D aa) (by rw[hlen];omega) (λk ab=>by cases ab)
    rw[hlen]at kl;exact kl
  |br b e6 b4 e cap ag n0 jt n1 ju=>
    simp only[gY,hg]at aq;simp only[oO]at U;subst aq;split at U
    ·rename_i qd;injection U with U;subst U;subst qd;simp only[wS,beq_iff_eq]at bn;have a1:=rE bn;have mC:=w2 gf bn;obtain⟨i0,gw,h7⟩:=qQ (P:=P) (q:=e) (by unfold c';omega);refine dJ.pure hw (u:=.slice (j ⟨m.b1 b,e6*P.cellsOf e,Z⟩) r.toNat cap) ?_ (.br b e6 r.toNat e cap ag n0 jt (by omega) ju);rw[pre a1 (by simp)];simp only[Instr.slice,hM,fY a1,hD];rw[E0 Q b4 cap gk ae aO ai aj am F J n1];simp only[hD,sizeOf,typeInfo,hM,run_program,gw,kX];by_cases lp:cap=0
     ·simp[lp]
     ·simp[nW]
    ·cases U
  |_=>simp[oO]at U
end
open Go Go.RowKit
section
variable{P:cu}{m aZ:dq}{h E:ad}{w aJ:cd}{t:List I}{a:Act}{O:bb}
theorem Vo(off:Nat)(v:bH)(cells:Array bH):(v.cells.zipIdx.foldl (λcs (x:bH×Nat)=>cs.setIfInBounds (off+x.2) x.1) cells).size=cells.size/\∀k,(v.cells.zipIdx.foldl (λcs (x:bH×Nat)=>cs.setIfInBounds (off+x.2) x.1) cells)[k]? =if off<=k/\k<off+v.cells.size/\k<cells.size then v.cells[k - off]? else cells[k]? :=by have:=Go.Great.foldl_set off v.cells.toList 0 cells;rw[<-Array.foldl_toList,Array.toList_zipIdx];simpa using this
theorem NM(aO:dF P m h t a.tmps)(place:Nat->Option (Nat×Nat))(pl:List (Nat×Nat))(hp:∀i q,pl[i]? =j q->place i=j q):∀(L:List (Nat×fM)) (cs:List I) (cells:Array bH) (gA:List I),dV P m h cs cells.toList->pr pl cs (L.map λq=>(q.1,bA t q.2))=j gA->∃tX,Instr.fill place cells (L.map λq=>(q.1,a.eval q.2))=j tX/\dV P m h gA tX.toList
 |[],cs,cells,gA,aj,bn=>by simp[pr]at bn;subst bn;exact⟨cells,by simp[Instr.fill],aj⟩
 |(i,x)::L,cs,cells,gA,aj,bn=>by
   simp only[gP,pr]at bn;rcases NN:pl[i]? with _|⟨off,size⟩
   ·simp[NN]at bn
   ·simp only[NN]at bn;split at bn
    ·rename_i al;obtain⟨a6,c2,c3⟩:=al;obtain⟨v1,v2⟩:=(g2 aO x).cells c3;have n2:=v1.1;have py:=aj.1;simp only[Array.length_toList]at n2 py;obtain⟨f1,f2⟩:=Vo off (a.eval x) cells;have jE:dV P m h (dO cs off (bA t x).cells) ((a.eval x).cells.zipIdx.foldl (λcs (y:bH×Nat)=>cs.setIfInBounds (off+y.2) y.1) cells).toList:=by
      refine⟨by rw[Array.length_toList,f1,dO];simp;omega,λD aa di=>?_⟩;have a7:(cs.take off++(bA t x).cells++cs.drop (off+(bA t x).cells.length))[D]? =j (dO cs off (bA t x).cells)[D]:=gd aa;rw[NH _ _ _ (by omega)]at a7;have mD:((a.eval x).cells.zipIdx.foldl (λcs (y:bH×Nat)=>cs.setIfInBounds (off+y.2) y.1) cells)[D]? =j (((a.eval x).cells.zipIdx.foldl (λcs (y:bH×Nat)=>cs.setIfInBounds (off+y.2) y.1) cells).toList[D]):=by rw[<-tY];exact gd di
      rw[f2 D]at mD;by_cases gt:off<=D/\D<off+(bA t x).cells.length
      ·rw[if_pos gt]at a7;rw[if_pos ⟨gt.1,by omega,by omega⟩]at mD;obtain⟨u,u1,u2⟩:=v1.get? a7;rw[tY]at u1;rw[u1]at mD;injection mD with mD;rw[<-mD];exact u2
      ·rw[if_neg gt]at a7;rw[if_neg (by omega)]at mD;obtain⟨u,u1,u2⟩:=aj.get? a7;rw[tY]at u1;rw[u1]at mD;injection mD with mD;rw[<-mD];exact u2
     obtain⟨tX,g1,cK⟩:=NM aO place pl hp L _ _ gA jE bn;refine⟨tX,?_,cK⟩;simp only[gP,Instr.fill,hp i _ NN];rw[if_neg (by simp;omega)];exact g1
    ·cases bn
theorem Vp(gf:pw P)(hw:bW P m h w)(aO:dF P m h t a.tmps)(ty:aU)(parts:Array (Nat×fM))(au:O.op= .build ty parts)(aR:kg P ty=j z){cs:List I}(U:(∃pl,sz P ty=j pl/\(∀q∈pl,c' P q.2≠0)/\pr (pl.map λq=>(q.1,c' P q.2)) z (parts.toList.map λq=>(q.1,bA t q.2))=j cs)\/(∃n e,qL P ty=j (n,e)/\c' P e≠0/\pr ((iO n).map λi=>(i*c' P e,c' P e)) z (parts.toList.map λq=>(q.1,bA t q.2))=j cs)):dJ P m h a w O (.agg cs) h:=by
 obtain⟨i,v,ae,vD,ai,az,aj,jM⟩:=yx (m:=m) (h:=h) (w:=w) gf aR;have key:∃cells,P.built ty (parts.map λ(i,x)=>(i,a.eval x)).toList=j cells/\dV P m h cs cells.toList:=by
  have alr:(parts.map λ(i,x)=>(i,a.eval x)).toList=parts.toList.map λq=>(q.1,a.eval q.2):=by simp
  rw[alr];unfold Program.built;rcases U with⟨pl,F,J,af⟩|⟨n,e,F,J,af⟩
  ·unfold sz at F;split at F
   ·rename_i dM sL;injection F with F;subst F;have i6:dM.toList.mapM (λf=>(P.info? f.type).map λi=>(f.offset,i.size))=j (dM.toList.map λf=>(f.offset,c' P f.type)):=by
     have:∀l:List Field,(∀f∈l,c' P f.type≠0)->l.mapM (λf=>(P.info? f.type).map λi=>(f.offset,i.size))=j (l.map λf=>(f.offset,c' P f.type)):=by
      intro l;induction l with
      |nil=>intro _;rfl
      |cons f l aW=>intro ai;obtain⟨i0,gw,h7⟩:=qQ (ai f (by simp));simp[List.mapM_cons,gw,aW (λg a7=>ai g (by simp[a7])),h7]
     exact this _ (λf bn=>J (f.offset,f.type) (lR.2 ⟨f,bn,rfl⟩))
    simp only[List.map_map]at af;obtain⟨cells,g1,cK⟩:=NM aO (λx=>(dM.toList.map λf=>(f.offset,c' P f.type)).toArray[x]?) (dM.toList.map ((λq:Nat×aU=>(q.1,c' P q.2))∘λf=>(f.offset,f.type))) (λi q aE=>by simpa using aE) parts.toList z v.cells cs aj af;refine⟨cells,?_,cK⟩;simp only[ae,sL,vD,i6];exact g1
   ·cases F
  ·have z8:=IK F;obtain⟨i0,gw,h7⟩:=qQ J;obtain⟨cells,g1,cK⟩:=NM aO (λi=>j (i*i0.size,i0.size)) ((iO n).map λi=>(i*c' P e,c' P e)) (λi q aE=>by simp only[List.getElem?_map,dl]at aE;obtain⟨D,aa,rfl⟩:=aE;have:=fR.1 aa;obtain⟨bt,Vq⟩:=this;simp at Vq;subst Vq;rw[h7]) parts.toList z v.cells cs aj af;refine⟨cells,?_,cK⟩;simp only[ae,z8,vD,gw];exact g1
 obtain⟨cells,F,J⟩:=key;refine dJ.pure hw (u:=.agg cells) ?_ ?_
 ·have e:=run_build (P:=P) w ty (parts.map λ(i,x)=>(i,a.eval x)) cells F;simp only[e9,au,hM,e,hD,kX]
 ·have:=bF.agg (P:=P) (m:=m) (h:=h) cs cells.toList J.1 J.2;simpa using this
def IT(P:cu)(m:dq)(h:ad)(eE:Nat)(es:List (List I))(cs:Array bH):Prop:=cs.size=es.length*eE/\(∀r∈es,r.length=eE)/\∀i (ae:i<es.length) D (aa:D<es[i].length),∃v,cs[i*eE+D]? =j v/\bF P m h es[i][D] v
theorem Vr(aO:dF P m h t a.tmps)(eE:Nat):∀(L:List (Nat×fM)) (es:List (List I)) (cells:Array bH) (gz:List (List I)),IT P m h eE es cells->ps eE es (L.map λq=>(q.1,bA t q.2))=j gz->∃tX,Instr.fill (λi=>j (i*eE,eE)) cells (L.map λq=>(q.1,a.eval q.2))=j tX/\IT P m h eE gz tX/\gz.length=es.length
 |[],es,cells,gz,aj,bn=>by simp[ps]at bn;subst bn;exact⟨cells,by simp[Instr.fill],aj,rfl⟩
 |(i,x)::L,es,cells,gz,aj,bn=>by
   simp only[gP,ps]at bn;split at bn
   ·rename_i al;obtain⟨a6,c2,c3⟩:=al;obtain⟨v1,v2⟩:=(g2 aO x).cells c3;have n2:=v1.1;simp only[Array.length_toList]at n2;obtain⟨b0,bK,gl⟩:=aj;have gt:=oQ (s:=eE) c2;obtain⟨f1,f2⟩:=Vo (i*eE) (a.eval x) cells;have jE:IT P m h eE (es.set i (bA t x).cells) ((a.eval x).cells.zipIdx.foldl (λcs (y:bH×Nat)=>cs.setIfInBounds (i*eE+y.2) y.1) cells):=by
     refine⟨by rw[f1,b0,List.length_set],λr aj=>?_,λh6 ev D aa=>?_⟩
     ·rcases List.mem_or_eq_of_mem_set aj with aE|aE
      ·exact bK r aE
      ·rw[aE,a6]
     ·rw[f2];have hN:h6<es.length:=by simpa using ev
      by_cases av:h6=i
      ·subst av;have k0:(es.set h6 (bA t x).cells)[h6]=(bA t x).cells:=by simp
       have di:D<(bA t x).cells.length:=by rw[k0]at aa;exact aa
       rw[if_pos ⟨by omega,by omega,by omega⟩];obtain⟨u,u1,u2⟩:=v1.get? (gd di);refine⟨u,by rw[<-u1,tY];congr 1;omega,?_⟩;simpa only[k0]using u2
      ·have k0:(es.set i (bA t x).cells)[h6]=es[h6]:=by simp[lo av]
       have di:D<es[h6].length:=by rw[k0]at aa;exact aa
       have tZ:D<eE:=by rw[bK _ (hf hN)]at di;exact di
       rw[if_neg (by
        rcases Nat.lt_or_gt_of_ne av with aE|aE
        ·have:=oQ (s:=eE) aE;omega
        ·have:=oQ (s:=eE) aE;omega)]
       obtain⟨v,qP,hO⟩:=gl h6 hN D di;exact⟨v,qP,by simpa only[k0]using hO⟩
    obtain⟨tX,g1,cK,et⟩:=Vr aO eE L _ _ gz jE bn;refine⟨tX,?_,cK,by rw[et,List.length_set]⟩;simp only[gP,Instr.fill];rw[if_neg (by simp;omega)];exact g1
   ·cases bn
theorem bW.fresh(hw:bW P m h w)(aJ:cd)(e:aU)(es:List (List I))(cs:Array bH)(cap:Nat)(aq:hL w aJ)(sH:iZ aJ w.heap.size e cs)(az:cs.size=cap*P.cellsOf e)(al:es.length<=cap)(ju:cap<=maxLen)(ai:∀r∈es,r.length=P.cellsOf e)(U:∀i (ae:i<es.length) D (aa:D<es[i].length),∃v,cs[i*P.cellsOf e+D]? =j v/\bF P m h es[i][D] v):∃aZ,Ext m h aZ (h.fresh es.length)/\bW P aZ (h.fresh es.length) aJ/\bF P aZ (h.fresh es.length) (.bN (j h.ids) e es) (.slice (j ⟨w.heap.size,0,Z⟩) es.length cap):=by
 have E1:∀O,m.dI w.heap.size O=Z:=λO=>by
  rcases ae:m.dI w.heap.size O with _|v
  ·rfl
  ·have:=hw.p9 ae;omega
 have an:Ext m h {m with dI:=λg O=>if g=w.heap.size then(if O<es.length*P.cellsOf e then cs[O]? else Z)else m.dI g O,iB:=λk=>if k=h.ids then w.heap.size else m.iB k,sG:=λk=>if k=h.ids then cap else m.sG k,kY:=λk=>if k=h.ids then e else m.kY k} (h.fresh es.length):=by
  refine⟨rfl,bS _,by simp[ad.fresh],λb ag=>⟨rfl,rfl,rfl⟩,λg O v ae=>?_,λk ab=>?_,λ_ _ h=>h⟩
  ·have:g≠w.heap.size:=λe=>by rw[e,E1]at ae;cases ae
   simpa[this]using ae
  ·have:k≠h.ids:=by omega
   simp[ad.fresh,this]
 have ft:=hw.new aq;have hle:es.length*P.cellsOf e<=cs.size:=by rw[az];exact Nat.mul_le_mul_right _ al
 refine⟨_,an,?_,?_⟩
 ·refine⟨ft.size,λb x ag=>ft.lt b x ag,λb x ag=>?_,λb c1 x hV F J he=>ft.inj b c1 x hV F J he,λg O v ae=>?_,λb x ag O=>?_,λk ab=>?_,λk ab O qe=>?_,λk ab b x ag=>?_,λk dn ab oT he=>?_,ft.dg,λg x aa=>?_⟩
  ·obtain⟨c2,F,J,af,aB,bw⟩:=ft.live b x ag;refine⟨c2,F,J,af,aB,λi ae D aa=>?_⟩;obtain⟨v,cc,cQ⟩:=bw i ae D aa;exact⟨v,cc,cQ.ext an⟩
  ·by_cases a7:g=w.heap.size
   ·subst a7;simp only[if_true]at ae;split at ae
    ·rw[sH.cell];exact ae
    ·cases ae
   ·simp only[a7,if_false]at ae;exact ft.dI g O v ae
  ·have:=hw.below ag;have cP:m.b1 b≠w.heap.size:=by omega
   simp only[cP,if_false];exact ft.sep b x ag O
  ·by_cases kw:k=h.ids
   ·subst kw;simp only[if_true,ad.fresh];refine⟨cs.toList.take (es.length*P.cellsOf e),?_,.inr ⟨w.heap.size,cap,cs,rfl,hw.size,sH,al,ju,az,rfl⟩⟩;simp;omega
   ·have Cy:k<h.ids:=by simp[ad.fresh]at ab;omega
    simp only[kw,if_false,ad.fresh];exact ft.oP k Cy
  ·by_cases kw:k=h.ids
   ·subst kw;simp only[if_true,ad.fresh]at qe ⊢;rw[if_neg (by omega)]
   ·have Cy:k<h.ids:=by simp[ad.fresh]at ab;omega
    simp only[kw,if_false,ad.fresh]at qe ⊢;have:=(hw.qO Cy).2;rw[if_neg (by omega)];exact ft.nw k Cy O qe
  ·have n3:=hw.below ag;by_cases kw:k=h.ids
   ·simp only[kw,if_true];omega
   ·have Cy:k<h.ids:=by simp[ad.fresh]at ab;omega
    simp only[kw,if_false];exact ft.l9 k Cy b x ag
  ·by_cases F:k=h.ids<;>by_cases J:dn=h.ids
   ·omega
   ·have:=(hw.qO (k:=dn) (by simp[ad.fresh]at oT;omega)).2;simp[F,J]at he;omega
   ·have:=(hw.qO (k:=k) (by simp[ad.fresh]at ab;omega)).2;simp[F,J]at he;omega
   ·simp[F,J]at he;exact hw.nY k dn (by simp[ad.fresh]at ab;omega) (by simp[ad.fresh]at oT;omega) he
  ·have bt:=hw.tU aa;obtain⟨aP,a2,a3,a4,a5⟩:=ft.fo g x aa;refine⟨aP,a2,a3,λk ab=>?_,λO=>?_⟩
   ·by_cases kw:k=h.ids
    ·simp only[kw,if_true];omega
    ·simp only[kw,if_false];exact a4 k (by simp[ad.fresh]at ab;omega)
   ·simp only[show ¬g=w.heap.size by omega,if_false];exact a5 O
 ·refine .bN (j h.ids) e es w.heap.size 0 cap (λi D=>(cs[i*P.cellsOf e+D]?).getD fy) ai (λi ae D aa=>?_) (λi ae D aa=>?_) al (λk ab=>?_)
  ·have:=oQ (s:=P.cellsOf e) ae;simp only[if_true,gH];rw[if_pos (by omega)];obtain⟨v,F,_⟩:=U i ae D (by rw[ai _ (hf ae)];exact aa);simp[F]
  ·obtain⟨v,F,J⟩:=U i ae D aa;simp only[F,ns];exact J.ext an
  ·injection ab with ab;subst ab;simp[ad.fresh]
theorem H1(len eE:Nat)(z:List I)(v:Array bH)(aR:dV P m h z v.toList)(ai:z.length=eE)(hp:0<eE):IT P m h eE (ar len z) ((Array.range (len*eE)).map (v[· % v.size]!)):=by
 have e1:v.size=eE:=by have:=aR.1;simp at this;omega
 refine⟨by simp,λr aj=>by rw[(List.mem_replicate.1 aj).2];exact ai,λi ae D aa=>?_⟩;simp only[List.getElem_replicate]at aa ⊢;have ev:i<len:=by simpa using ae
 have:=oQ (s:=eE) ev;obtain⟨u,u1,u2⟩:=aR.get? (gd aa);refine⟨u,?_,u2⟩;have als:(i*eE+D) % eE=D:=by rw[Nat.mul_comm,Nat.mul_add_mod];exact Nat.mod_eq_of_lt (by omega)
 rw[tY]at u1;have bt:i*eE+D<len*eE:=by omega
 simp only[Array.getElem?_map,e1];rw[Array.getElem?_eq_getElem (by simpa using bt)];simp only[Array.getElem_range,g3,als];rw[getElem!_def,u1]
theorem bW.lay(hw:bW P m h w)(aJ:cd)(e:aU)(es:List (List I))(cs:Array bH)(cap:Nat)(aq:hL w aJ)(sH:iZ aJ w.heap.size e cs)(az:cs.size=cap*P.cellsOf e)(al:es.length<=cap)(ai:∀r∈es,r.length=P.cellsOf e)(U:∀i (ae:i<es.length) D (aa:D<es[i].length),∃v,cs[i*P.cellsOf e+D]? =j v/\bF P m h es[i][D] v):∃aZ,Ext m h aZ h/\bW P aZ h aJ/\bF P aZ h (.bN Z e es) (.slice (j ⟨w.heap.size,0,Z⟩) es.length cap):=by
 have E1:∀O,m.dI w.heap.size O=Z:=λO=>by
  rcases ae:m.dI w.heap.size O with _|v
  ·rfl
  ·have:=hw.p9 ae;omega
 have an:Ext m h {m with dI:=λg O=>if g=w.heap.size then(if O<es.length*P.cellsOf e then cs[O]? else Z)else m.dI g O} h:=by
  refine⟨rfl,bS _,bS _,λb ag=>⟨rfl,rfl,rfl⟩,λg O v ae=>?_,λk ab=>⟨rfl,bS _,λ_=>⟨rfl,rfl⟩⟩,λ_ _ h=>h⟩;have:g≠w.heap.size:=λe=>by rw[e,E1]at ae;cases ae
  simpa[this]using ae
 have ft:=hw.new aq;have hle:es.length*P.cellsOf e<=cs.size:=by rw[az];exact Nat.mul_le_mul_right _ al
 refine⟨_,an,?_,?_⟩
 ·refine⟨ft.size,λb x ag=>ft.lt b x ag,λb x ag=>?_,λb c1 x hV F J he=>ft.inj b c1 x hV F J he,λg O v ae=>?_,λb x ag O=>?_,ft.oP,λk ab O qe=>?_,ft.l9,ft.nY,ft.dg,λg x aa=>?_⟩
  ·obtain⟨c2,F,J,af,aB,bw⟩:=ft.live b x ag;refine⟨c2,F,J,af,aB,λi ae D aa=>?_⟩;obtain⟨v,cc,cQ⟩:=bw i ae D aa;exact⟨v,cc,cQ.ext an⟩
  ·by_cases a7:g=w.heap.size
   ·subst a7;simp only[if_true]at ae;split at ae
    ·rw[sH.cell];exact ae
    ·cases ae
   ·simp only[a7,if_false]at ae;exact ft.dI g O v ae
  ·have:=hw.below ag;have cP:m.b1 b≠w.heap.size:=by omega
   simp only[cP,if_false];exact ft.sep b x ag O
  ·have:=(hw.qO ab).2;simp only[show ¬m.iB k=w.heap.size by omega,if_false];exact ft.nw k ab O qe
  ·have bt:=hw.tU aa;obtain⟨aP,a2,a3,a4,a5⟩:=ft.fo g x aa;refine⟨aP,a2,a3,a4,λO=>?_⟩;simp only[show ¬g=w.heap.size by omega,if_false];exact a5 O
 ·refine .bN Z e es w.heap.size 0 cap (λi D=>(cs[i*P.cellsOf e+D]?).getD fy) ai (λi ae D aa=>?_) (λi ae D aa=>?_) al (λk ab=>by cases ab)
  ·have:=oQ (s:=P.cellsOf e) ae;simp only[if_true,gH];rw[if_pos (by omega)];obtain⟨v,F,_⟩:=U i ae D (by rw[ai _ (hf ae)];exact aa);simp[F]
  ·obtain⟨v,F,J⟩:=U i ae D aa;simp only[F,ns];exact J.ext an
theorem alu(gf:pw P)(hw:bW P m h w)(aO:dF P m h t a.tmps)(ty:aU)(len:Nat)(parts:Array (Nat×fM))(au:O.op= .buildSlice ty len parts){e:aU}(he:jK P ty=j e)(aR:kg P e=j z)(U:ps (c' P e) (ar len z) (parts.toList.map λq=>(q.1,bA t q.2))=j es)(NO:len*c' P e<=16777216):dJ P m h a w O (.br h.n 0 len e) (h.push es)/\dJ P m h a w O (.bN (j h.ids) e es) (h.fresh len)/\dJ P m h a w O (.bN Z e es) h:=by
 have kk:=rE he;have mC:=w2 gf he;obtain⟨i,v,ae,vD,ai,az,aj,jM⟩:=yx (m:=m) (h:=h) (w:=w) gf aR;have h7:i.size=P.cellsOf e:=by simp[Program.cellsOf,ae]
 have lQ:=H1 (P:=P) (m:=m) (h:=h) len (P.cellsOf e) z v.cells aj ai mC;obtain⟨cells,g1,cK,et⟩:=Vr aO (P.cellsOf e) parts.toList _ _ es lQ U;simp only[List.length_replicate]at et;have n4:(parts.map λ(i,x)=>(i,a.eval x)).toList=parts.toList.map λq=>(q.1,a.eval q.2):=by simp
 have ag:(Instr.buildSlice ty len (parts.map λ(i,x)=>(i,a.eval x))).run P w= .ok (.slice (j ⟨w.heap.size,0,Z⟩) len len) (w.alloc (.cells cells e)):=by
  by_cases hlen:len=0
  ·subst hlen;have vC:Array.range 0= #[]:=rfl;have alv:Instr.fill (λi=>j (i*P.cellsOf e,P.cellsOf e)) #[] (parts.toList.map λq=>(q.1,a.eval q.2))=j cells:=by rw[Nat.zero_mul,vC,Array.map_empty]at g1;exact g1
   simp only[Instr.buildSlice,hM,fY kk,hD,sizeOf,typeInfo,run_program,ae,kX,h7,n4,Nat.zero_mul,vC,Nat.not_lt_zero,gt_iff_lt,if_false,if_true];simp[alv,newRow]
  ·have hmul:0<len*P.cellsOf e:=Nat.mul_pos (by omega) mC;have n5:=run_buildSlice (P:=P) w ty e len (parts.map λ(i,x)=>(i,a.eval x)) cells i v kk ae vD (by rw[h7];unfold c' at NO;omega) (by rw[h7];omega) (by rw[h7,n4];exact g1);rw[n5]
 have NP:(e9 a.eval O).run P w= .ok (.value (.slice (j ⟨w.heap.size,0,Z⟩) len len)) (w.alloc (.cells cells e)):=by simp only[e9,au,hM,ag,hD,kX]
 obtain⟨IU,NQ,NR⟩:=cK;have ju:len<=maxLen:=by have:len*1<=len*P.cellsOf e:=Nat.mul_le_mul_left _ mC;unfold maxLen c' at*;omega
 refine⟨?_,?_,?_⟩
 ·obtain⟨aZ,F,J,af,aB,bw⟩:=hw.push (w.alloc (.cells cells e)) e es cells ((ci.refl _ w).alloc _) (iZ.new w _ _) (p3 IU.symm) NQ NR;refine⟨aZ,_,_,.inl NP,F,J,?_,(kZ _ _).alloc hw.size _⟩;have:=bF.br (P:=P) (m:=aZ) (h:=h.push es) h.n 0 len e len (by simp[ad.push]) aB (by rw[bw,IU,et,gH]) (bS _) ju;rw[af]at this;simpa using this
 ·obtain⟨aZ,F,J,af⟩:=hw.fresh (w.alloc (.cells cells e)) e es cells len ((ci.refl _ w).alloc _) (iZ.new w _ _) (by rw[IU,et]) (by rw[et];exact bS _) ju NQ NR;rw[et]at F J af;exact⟨aZ,_,_,.inl NP,F,J,af,(kZ _ _).alloc hw.size _⟩
 ·obtain⟨aZ,F,J,af⟩:=hw.lay (w.alloc (.cells cells e)) e es cells len ((ci.refl _ w).alloc _) (iZ.new w _ _) (by rw[IU,et]) (by rw[et];exact bS _) NQ NR;rw[et]at af;exact⟨aZ,_,_,.inl NP,F,J,af,(kZ _ _).alloc hw.size _⟩
theorem alw(gf:pw P)(hw:bW P m h w)(aO:dF P m h t a.tmps)(ty:aU)(l c:fM)(au:O.op= .makeSlice ty l c){e:aU}(he:jK P ty=j e)(aR:kg P e=j z){c8 c6:kf}{n:Int}(ai:bA t l= .int c8 n)(al:bA t c= .int c6 n)(am:0<=n)(NO:n<=100000):dJ P m h a w O (.br h.n 0 n.toNat e) (h.push (ar n.toNat z)):=by
 have kk:=rE he;have mC:=w2 gf he;obtain⟨i,v,ae,vD,jh,az,aj,jM⟩:=yx (m:=m) (h:=h) (w:=w) gf aR;have h7:i.size=P.cellsOf e:=by simp[Program.cellsOf,ae]
 have v1:=g2 aO l;have v2:=g2 aO c;rw[ai]at v1;rw[al]at v2;obtain⟨u1,ma⟩:∃u,a.eval l=u:=⟨_,rfl⟩;obtain⟨u2,kL⟩:∃u,a.eval c=u:=⟨_,rfl⟩;rw[ma]at v1;rw[kL]at v2;cases v1;cases v2;have p8:=gf.small e i (Vf aR) ae;have ag:(i.bytes:Int)*n<=281474976710656:=by have F:(i.bytes:Int)*n<=100000*100000:=Int.mul_le_mul (by omega) NO am (by omega);omega
 have lQ:=H1 (P:=P) (m:=m) (h:=h) n.toNat (P.cellsOf e) z v.cells aj jh mC;obtain⟨b0,bK,gl⟩:=lQ;have Vs:=run_make (P:=P) w ty e i v kk ae vD c8 c6 n n am (Int.le_refl _) ag (by omega);have av:madeCells v.cells (n.toNat*i.size)=(Array.range (n.toNat*P.cellsOf e)).map (v.cells[· % v.cells.size]!):=by rw[h7];rfl
 rw[av]at Vs;obtain⟨aZ,F,J,af,aB,bw⟩:=hw.push (w.alloc (.cells ((Array.range (n.toNat*P.cellsOf e)).map (v.cells[· % v.cells.size]!)) e)) e (ar n.toNat z) _ ((ci.refl _ w).alloc _) (iZ.new w _ _) (p3 b0.symm) bK gl;refine⟨aZ,_,.slice (j ⟨w.heap.size,0,Z⟩) n.toNat n.toNat,.inl ?_,F,J,?_,(kZ _ _).alloc hw.size _⟩
 ·simp only[e9,au,ma,kL,hM,Vs,hD,kX]
 ·have:=bF.br (P:=P) (m:=aZ) (h:=h.push (ar n.toNat z)) h.n 0 n.toNat e n.toNat (by simp[ad.push]) aB (by rw[bw,b0,List.length_replicate,gH]) (bS _) (by unfold maxLen;omega);rw[af]at this;simpa using this
end
open Go Go.RowKit
section
variable{P:cu}{m aZ:dq}{h E:ad}{w aJ:cd}{t:List I}{a:Act}{O:bb}
theorem NS(base:Nat)(t ty e:aU)(i:TypeInfo)(z:bH)(size bytes:Nat)(aO:P.underlying t=j (.slice e))(ae:P.info? e=j i)(aR:i.zero=j z)(pu:i.size=size)(p8:i.bytes=bytes)(wW:z.cells.size=size)(dY:0<size)(v:bH)(n:Nat)(xs:List bH)(fD:w.ownsRow base e size v n xs)(a:Addr)(m c:Nat)(w5:0<m)(news:List bH)(ai:news.length=m*size)(w6:∀D u,news[D]? =j u->w.cell? (a.add D)=j u)(F:∀u∈news,u.oneCell'=Q)(wX:n+m<=maxLen)(z1:(n+m)*bytes<=140737488355328)(vu:base<=w.heap.size):∃g cap aJ,(vv #[t,t] ty #[v,.slice (j a) m c]).run P w= .ok (.slice (j ⟨g,0,Z⟩) (n+m) cap) aJ/\aJ.ownsRow base e size (.slice (j ⟨g,0,Z⟩) (n+m) cap) (n+m) (xs++news)/\((v.ownBlock=j g/\ci (λk=>k=g) w aJ/\∃k,v= .slice (j ⟨g,0,Z⟩) n k)\/(g=w.heap.size/\hL w aJ)):=by
 subst pu;subst p8;have alx:n+m<=9223372036854775807:=by simp only[maxLen]at wX;omega
 have hlen:(xs++news).length=(n+m)*i.size:=by rw[dy,fD.1,ai,Nat.add_mul]
 have grown:∀(fu:Nat),fu<n+m->(w.drew.alloc (.cells (xs.toArray++news.toArray++Builtin.zeroCells z.cells (grownCap w (n+m) fu e - (n+m))) e)).ownsRow base e i.size (.slice (j ⟨w.heap.size,0,Z⟩) (n+m) (grownCap w (n+m) fu e)) (n+m) (xs++news)/\hL w (w.drew.alloc (.cells (xs.toArray++news.toArray++Builtin.zeroCells z.cells (grownCap w (n+m) fu e - (n+m))) e)):=by
  intro fu au;have tP:=grownCap_ge w (n+m) fu e;have w7:grownCap w (n+m) fu e<=maxLen:=grownCap_le_maxLen w (n+m) fu e wX;refine⟨⟨hlen,.inr ⟨w.heap.size,_,_,rfl,vu,heap_alloc_new w.drew _,tP,w7,?_,?_⟩⟩,⟨rfl,rfl,rfl,by simp,λk ab _=>heap_alloc_old w.drew _ ab⟩⟩
  ·simp only[Array.size_append,List.size_toArray,size_zeroCells,wW,fD.1,ai,<-Nat.add_mul];congr 1;omega
  ·simp only[Array.toList_append,jA];rw[<-jA,<-hlen];exact List.take_left
 rcases fD.2 with⟨rfl,rfl⟩|⟨g,cap,cur,rfl,NT,a7,tQ,w7,nX,yv⟩
 ·have an:xs=[]:=List.eq_nil_of_length_eq_zero (by simpa using fD.1);subst an;have aj:=run_append_nil (P:=P) w t ty e i z aO ae aR a m c news ai w6 (by omega) (by omega) (by have ag:=z1;simp only[gH]at ag;omega);have rF:=grown 0 (by omega);simp only[gH,j6,Array.empty_append]at rF ⊢;exact⟨_,_,_,aj,rF.1,.inr ⟨rfl,rF.2⟩⟩
 ·by_cases Cz:n+m<=cap
  ·have aly:n*i.size+news.length<=cur.size:=by rw[ai,nX,<-Nat.add_mul];exact Nat.mul_le_mul_right _ Cz
   have aj:=run_append_room (P:=P) w t ty e i aO ae g n cap cur a7 a m c news ai w6 F Cz aly;refine⟨_,_,_,aj,⟨hlen,.inr ⟨g,cap,_,rfl,NT,setRow_heap w g cur _ e _ a7,Cz,w7,?_,?_⟩⟩,.inl ⟨rfl,⟨rfl,rfl,rfl,by simp,λk _ ab=>setRow_other w g k _ ab⟩,⟨_,rfl⟩⟩⟩
   ·simp only[List.size_toArray,dy,List.length_take,sK,Array.length_toList];omega
   ·rw[yv,<-hlen];exact List.take_left
  ·have holds:∀D u,xs[D]? =j u->w.cell? ((⟨g,0,Z⟩:Addr).add D)=j u:=fD.cells (g:=g) rfl;have aj:=run_append_grow (P:=P) w t ty e i z aO ae aR ⟨g,0,Z⟩ n cap xs fD.1 holds a m c news ai w6 (by omega) (by omega) (growslice_fits (by omega) z1);have rF:=grown cap (by omega);exact⟨_,_,_,aj,rF.1,.inr ⟨rfl,rF.2⟩⟩
def nz(P:cu)(m:dq)(h:ad)(eE:Nat)(es:List (List I))(l:List bH):Prop:=l.length=es.length*eE/\(∀r∈es,r.length=eE)/\∀i (ae:i<es.length) D (aa:D<es[i].length),∃v,l[i*eE+D]? =j v/\bF P m h es[i][D] v
theorem nz.one{eE:Nat}{es:List (List I)}{l:List bH}(aj:nz P m h eE es l)(hp:0<eE)(F:es.all (·.all I.one)=Q):∀u∈l,u.oneCell'=Q:=by
 intro u bE;obtain⟨k,ab,rfl⟩:=List.getElem_of_mem bE;obtain⟨b0,bK,gl⟩:=aj;have ae:k / eE<es.length:=Nat.div_lt_of_lt_mul (by rw[Nat.mul_comm,<-b0];exact ab);have aa:k % eE<es[k / eE].length:=by rw[bK _ (hf ae)];exact Nat.mod_lt _ hp
 obtain⟨v,J,af⟩:=gl _ ae _ aa;have e:k / eE*eE+k % eE=k:=by rw[Nat.mul_comm];exact Nat.div_add_mod k eE
 rw[e,gd ab]at J;injection J with J;rw[J];simp only[iC]at F;exact af.one (F _ (hf ae) _ (hf aa))
theorem Vt(hw:bW P m h w){e:aU}{x:I}(an:bF P m h x u)(n1:x≠.aC){new:List (List I)}(aq:js h e x=j new):∃pv n c news,u= .slice (j pv) n c/\n=new.length/\nz P m h (P.cellsOf e) new news/\∀D v,news[D]? =j v->w.cell? (pv.add D)=j v:=by
 cases an with
 |aC=>exact absurd rfl n1
 |mB ej dZ cap=>
   simp only[js]at aq;split at aq
   ·injection aq with aq;subst aq;exact⟨dZ,0,cap,[],rfl,rfl,⟨by simp,by simp,λi ae=>by simp at ae⟩,λD v aa=>by simp at aa⟩
   ·cases aq
 |bN id ej es g e6 cap ah hle ev qa jt z6=>
   simp only[js]at aq;split at aq
   ·rename_i he;subst he;injection aq with aq;subst aq;have alz:0<P.cellsOf ej\/P.cellsOf ej=0:=by omega
    refine⟨⟨g,e6,Z⟩,es.length,cap,(iO (es.length*P.cellsOf ej)).map λk=>ah (k / P.cellsOf ej) (k % P.cellsOf ej),rfl,rfl,⟨by simp,hle,λi ae D aa=>?_⟩,λD v aa=>?_⟩
    ·have tZ:D<P.cellsOf ej:=by rw[<-hle _ (hf ae)];exact aa
     have:=oQ (s:=P.cellsOf ej) ae;have a1:(i*P.cellsOf ej+D) / P.cellsOf ej=i:=by rw[Nat.mul_comm,Nat.mul_add_div (by omega),Nat.div_eq_of_lt tZ,Nat.add_zero]
     have hm:(i*P.cellsOf ej+D) % P.cellsOf ej=D:=by rw[Nat.mul_comm,Nat.mul_add_mod];exact Nat.mod_eq_of_lt tZ
     refine⟨ah i D,?_,qa i ae D aa⟩;rw[List.getElem?_map,List.getElem?_range (by omega)];simp only[g3,a1,hm]
    ·simp only[List.getElem?_map,dl]at aa;obtain⟨k,ab,rfl⟩:=aa;obtain⟨bt,IP⟩:=fR.1 ab;simp at bt IP;subst IP;have hp:0<P.cellsOf ej:=by
      rcases alz with F|F
      ·exact F
      ·rw[F]at bt;omega
     have a1:D / P.cellsOf ej<es.length:=Nat.div_lt_of_lt_mul (by rw[Nat.mul_comm];exact bt);have hm:=Nat.mod_lt D hp;have:=hw.dI _ _ _ (ev _ a1 _ hm);rw[nW];have ax:D / P.cellsOf ej*P.cellsOf ej+D % P.cellsOf ej=D:=by rw[Nat.mul_comm];exact Nat.div_add_mod D _
     rwa [ax]at this
   ·cases aq
 |br b e6 b4 ej cap ag n0 jt n1 ju=>
   simp only[js]at aq;split at aq
   ·rename_i he;subst he;obtain⟨es,kk,aq⟩:=dt.1 aq;split at aq
    ·rename_i hle;injection aq with aq;subst aq;obtain⟨cs,F,J,af,aB,bw⟩:=hw.live b es kk;rw[n0]at F af aB bw;have hm:(e6+b4)*P.cellsOf ej<=es.length*P.cellsOf ej:=Nat.mul_le_mul_right _ hle;rw[Nat.add_mul]at hm;have hlen:((es.drop e6).take b4).length=b4:=by simp;omega
     refine⟨_,b4,cap,(cs.toList.drop (e6*P.cellsOf ej)).take (b4*P.cellsOf ej),rfl,hlen.symm,⟨by rw[hlen];simp;omega,λr aj=>af r (List.mem_of_mem_drop (List.mem_of_mem_take aj)),λi ae D aa=>?_⟩,λD v aa=>?_⟩
     ·have h7:i<b4/\e6+i<es.length:=by simp at ae;omega
      have av:((es.drop e6).take b4)[i]=es[e6+i]'h7.2:=by simp
      have di:D<es[e6+i].length:=by rw[<-av];exact aa
      have tZ:D<P.cellsOf ej:=by rw[<-af _ (hf h7.2)];exact di
      obtain⟨v,v1,v2⟩:=bw (e6+i) h7.2 D di;have aAl:=oQ (s:=P.cellsOf ej) h7.1;refine⟨v,?_,by simpa using v2⟩;rw[t' (by omega),List.getElem?_drop,tY];rw[show e6*P.cellsOf ej+(i*P.cellsOf ej+D)=(e6+i)*P.cellsOf ej+D by rw[Nat.add_mul];omega];exact v1
     ·have bt:D<b4*P.cellsOf ej:=by have:=(fR.1 aa).1;simp at this;omega
      rw[t' bt,List.getElem?_drop,tY]at aa;rw[nW,F.cell];exact aa
    ·cases aq
   ·cases aq
 |_=>simp[js]at aq
theorem yz(ty:aU)(qc:List aU)(x y:fM)(au:O.op= .call {callee:=.builtin .append,args:= #[x,y],argTypes:=(ty::qc).toArray}){v r:bH}(bE:a.eval x=u)(U:a.eval y=v)(aj:(vv (ty::qc).toArray O.type #[u,v]).run P w= .ok r aJ):(e9 a.eval O).run P w= .ok (.value r) aJ:=by simp only[e9,au,resolve,invoke,builtin,hM,kX,hD,List.map_toArray,gP,kK,bE,U,aj]
theorem alA(ty e:aU)(qc:List aU)(rG:P.underlying ty=j (.slice e))(ae:P.info? e≠Z)(NU:qc=[ty])(Ab:aU)(A:Option Addr)(n c:Nat)(tQ:n<=c):(vv (ty::qc).toArray Ab #[.slice A n c,.slice Z 0 0]).run P w= .ok (.slice A n c) w:=by subst NU;obtain⟨i,ae⟩:=Option.ne_none_iff_exists'.1 ae;cases A<;>simp[vv,fY rG,sizeOf,typeInfo,ae,Builtin.lenOf,Builtin.firstCells,tQ,storeCells]
theorem alB(ty e:aU)(qc:List aU)(rG:P.underlying ty=j (.slice e))(ae:P.info? e≠Z)(NU:qc=[ty])(Ab:aU)(A:Option Addr)(n c:Nat)(tQ:n<=c)(pv:Addr)(c2:Nat):(vv (ty::qc).toArray Ab #[.slice A n c,.slice (j pv) 0 c2]).run P w= .ok (.slice A n c) w:=by subst NU;obtain⟨i,ae⟩:=Option.ne_none_iff_exists'.1 ae;cases A<;>simp[vv,fY rG,sizeOf,typeInfo,ae,Builtin.lenOf,Builtin.firstCells,tQ,storeCells,loadCells,loadCellsFrom]
theorem alC(hw:bW P m h w){e:aU}{g:Nat}(fD:w.ownsRow m.base e (P.cellsOf e) (.slice (j ⟨g,0,Z⟩) es.length cap) es.length xs)(ai:∀r∈es,r.length=P.cellsOf e)(U:∀i (ae:i<es.length) D (aa:D<es[i].length),∃v,w.cell? ⟨g,i*P.cellsOf e+D,Z⟩=j v/\bF P m h es[i][D] v):nz P m h (P.cellsOf e) es xs:=by
 refine⟨fD.1,ai,λi ae D aa=>?_⟩;have tZ:D<P.cellsOf e:=by rw[<-ai _ (hf ae)];exact aa
 have:=oQ (s:=P.cellsOf e) ae;have bt:i*P.cellsOf e+D<xs.length:=by rw[fD.1];omega
 obtain⟨v,F,J⟩:=U i ae D aa;have af:=fD.cells (g:=g) rfl (i*P.cellsOf e+D) xs[i*P.cellsOf e+D] (gd bt);rw[nW,gH,F]at af;injection af with af;exact⟨v,by rw[gd bt,af],J⟩
theorem nz.append{eE:Nat}{dM:List (List I)}{l k:List bH}(F:nz P m h eE es l)(J:nz P m h eE dM k):nz P m h eE (es++dM) (l++k):=by
 obtain⟨aP,a2,a3⟩:=F;obtain⟨dk,dH,g0⟩:=J;refine⟨by simp[aP,dk,Nat.add_mul],λr aj=>?_,λi ae D aa=>?_⟩
 ·rcases pq.1 aj with h|h
  ·exact a2 r h
  ·exact dH r h
 ·by_cases bt:i<es.length
  ·have av:(es++dM)[i]=es[i]:=List.getElem_append_left bt;have di:D<es[i].length:=by rw[av]at aa;exact aa
   have tZ:D<eE:=by rw[<-a2 _ (hf bt)];exact di
   have:=oQ (s:=eE) bt;obtain⟨v,v1,v2⟩:=a3 i bt D di;exact⟨v,by rw[ph (by omega)];exact v1,by simpa only[av]using v2⟩
  ·have hN:i - es.length<dM.length:=by simp at ae;omega
   have av:(es++dM)[i]=dM[i - es.length]:=List.getElem_append_right (by omega);have di:D<dM[i - es.length].length:=by rw[av]at aa;exact aa
   have hle:es.length*eE<=i*eE:=Nat.mul_le_mul_right _ (by omega);obtain⟨v,v1,v2⟩:=g0 _ hN D di;refine⟨v,?_,by simpa only[av]using v2⟩;rw[rx (by omega),<-v1];congr 1;rw[Nat.sub_mul];omega
theorem nz.take{eE:Nat}{es:List (List I)}{l:List bH}(F:nz P m h eE es l)(n:Nat)(aq:n<=es.length):nz P m h eE (es.take n) (l.take (n*eE)):=by
 obtain⟨aP,a2,a3⟩:=F;have hle:n*eE<=es.length*eE:=Nat.mul_le_mul_right _ aq;refine⟨by simp[aP,Nat.min_eq_left hle,Nat.min_eq_left aq],λr aj=>a2 r (List.mem_of_mem_take aj),λi ae D aa=>?_⟩;have ev:i<n/\i<es.length:=by simp at ae;omega
 have av:(es.take n)[i]=es[i]'ev.2:=by simp
 have di:D<(es[i]'ev.2).length:=by rw[av]at aa;exact aa
 have tZ:D<eE:=by rw[<-a2 _ (hf ev.2)];exact di
 have:=oQ (s:=eE) ev.1;obtain⟨v,v1,v2⟩:=a3 i ev.2 D di;exact⟨v,by rw[t' (by omega)];exact v1,by simpa only[av]using v2⟩
end
open Go Go.RowKit
section
variable{P:cu}{m aZ:dq}{h E:ad}{w aJ:cd}{t:List I}{a:Act}{O:bb}
theorem bW.grown(hw:bW P m h w){k:Nat}(ab:k<h.ids){news:List bH}{n kx g:Nat}(aq:n=h.hw k)(w5:0<kx)(hold:w.ownsRow m.base (m.kY k) (P.cellsOf (m.kY k)) (.slice (j ⟨m.iB k,0,Z⟩) n (m.sG k)) n xs)(dY:0<P.cellsOf (m.kY k))(fD:aJ.ownsRow m.base (m.kY k) (P.cellsOf (m.kY k)) (.slice (j ⟨g,0,Z⟩) (n+kx) cap) (n+kx) (xs++news))(a7:(g=m.iB k/\ci (λq=>q=g) w aJ)\/(g=w.heap.size/\hL w aJ))(es:List (List I))(NV:nz P m h (P.cellsOf (m.kY k)) es (xs++news))(kk:es.length=n+kx):∃aZ,Ext m h aZ (h.grow k (n+kx))/\bW P aZ (h.grow k (n+kx)) aJ/\bF P aZ (h.grow k (n+kx)) (.bN (j k) (m.kY k) es) (.slice (j ⟨g,0,Z⟩) (n+kx) cap)/\Below m.base w aJ:=by
 subst aq;generalize fz:m.kY k=e at*;generalize cG:P.cellsOf e=S at*;have Ac:=hw.qO ab;have yu:∀O v,(xs++news)[O]? =j v->aJ.cell? ⟨g,O,Z⟩=j v:=by intro O v au;have:=fD.cells (g:=g) rfl O v au;rwa [nW,gH]at this
 have alD:∀O v,xs[O]? =j v->w.cell? ⟨m.iB k,O,Z⟩=j v:=by intro O v au;have:=hold.cells (g:=m.iB k) rfl O v au;rwa [nW,gH]at this
 have Ad:xs.length=h.hw k*S:=hold.1;have aAm:(xs++news).length=(h.hw k+kx)*S:=fD.1;have bt:h.hw k*S<(h.hw k+kx)*S:=by rw[Nat.add_mul];have:=Nat.mul_pos w5 dY;omega
 have Vu:∀fJ O v,m.dI fJ O=j v->(if fJ=g/\O<(h.hw k+kx)*S then(xs++news)[O]? else m.dI fJ O)=j v/\aJ.cell? ⟨fJ,O,Z⟩=j v:=by
  intro fJ O v ae;have al:=hw.dI _ _ _ ae;by_cases av:fJ=g
  ·subst av;rcases a7 with⟨gc,jD⟩|⟨gc,eV⟩
   ·have au:O<h.hw k*S:=by
     rcases oI O (h.hw k*S)with F|F
     ·exact F
     ·have:=hw.nw k ab O (by rw[fz,cG];exact F);rw[<-gc,ae]at this;cases this
    have an:xs[O]? =j v:=by have F:=gd (l:=xs) (i:=O) (by omega);have J:=alD O _ F;rw[<-gc,al]at J;injection J with J;rw[F,J]
    have rH:(xs++news)[O]? =j v:=by rw[ph (by omega)];exact an
    exact⟨by rw[if_pos ⟨rfl,by omega⟩];exact rH,yu O v rH⟩
   ·have:=hw.p9 ae;omega
  ·refine⟨by rw[if_neg (λbz=>av bz.1)];exact ae,?_⟩;rcases a7 with⟨gc,jD⟩|⟨gc,eV⟩
   ·rw[World.cell?_of_block (w:=w) (jD.block _ (hw.p9 ae) av)];exact al
   ·rw[World.cell?_of_block (w:=w) (eV.block _ (hw.p9 ae) id)];exact al
 have an:Ext m h {m with dI:=λfJ O=>if fJ=g/\O<(h.hw k+kx)*S then(xs++news)[O]? else m.dI fJ O,iB:=λq=>if q=k then g else m.iB q,sG:=λq=>if q=k then cap else m.sG q} (h.grow k (h.hw k+kx)):=by
  refine⟨rfl,bS _,bS _,λb ag=>⟨rfl,rfl,rfl⟩,λfJ O v ae=>(Vu fJ O v ae).1,λq aE=>⟨rfl,?_,λhe=>?_⟩,λ_ _ h=>h⟩
  ·by_cases av:q=k
   ·subst av;simp[ad.grow]
   ·simp[ad.grow,av]
  ·by_cases av:q=k
   ·subst av;simp[ad.grow]at he;omega
   ·simp[av]
 have pu:w.heap.size<=aJ.heap.size:=by
  rcases a7 with⟨_,jD⟩|⟨_,eV⟩
  ·exact jD.size
  ·exact eV.size
 have sN:∀q,q<w.heap.size->q≠m.iB k->aJ.heap[q]? =w.heap[q]? :=by
  intro q aE cP;rcases a7 with⟨gc,jD⟩|⟨gc,eV⟩
  ·exact jD.block q aE (λe=>cP (e.trans gc))
  ·exact eV.block q aE id
 have Vv:m.base<=g:=by
  rcases a7 with⟨gc,_⟩|⟨gc,_⟩
  ·rw[gc];exact Ac.1
  ·rw[gc];exact hw.size
 have Vw:∀b x,h.cell b=j x->m.b1 b≠g:=by
  intro b x ag;rcases a7 with⟨gc,_⟩|⟨gc,_⟩
  ·rw[gc];exact hw.l9 k ab b x ag
  ·have:=hw.below ag;omega
 refine⟨_,an,?_,?_,?_⟩
 ·refine⟨ee hw.size pu,hw.lt,λb x ag=>?_,hw.inj,λfJ O v ae=>?_,λb x ag O=>?_,λq aE=>?_,λq aE O au=>?_,λq aE b x ag=>?_,λq hi aE sO he=>?_,hw.dg.fs hw.size λfJ mD bt=>sN fJ mD (λe=>by have:=Ac.1;omega),λD x aa=>?_⟩
  ·obtain⟨cs,a6,c2,c3,c4,c5⟩:=hw.live b x ag;refine⟨cs,(sN _ a6.lt (hw.l9 k ab b x ag)).trans a6,c2,c3,c4,λi ae D aa=>?_⟩;obtain⟨v,v1,v2⟩:=c5 i ae D aa;exact⟨v,v1,v2.ext an⟩
  ·simp only at ae;split at ae
   ·rename_i al;rw[al.1];exact yu O v ae
   ·exact(Vu fJ O v ae).2
  ·simp only;rw[if_neg (λbz=>Vw b x ag bz.1)];exact hw.sep b x ag O
  ·by_cases av:q=k
   ·subst av;refine⟨xs++news,?_⟩;simp only[if_true,ad.grow,fz,cG];exact fD
   ·obtain⟨dR,bq⟩:=hw.oP q aE;refine⟨dR,?_⟩;simp only[av,if_false,ad.grow];have cP:m.iB q≠m.iB k:=λe=>av (hw.nY q k aE ab e);refine⟨bq.1,?_⟩;rcases bq.2 with F|⟨cK,sP,cur,ax,m3,NW,r⟩
    ·exact .inl F
    ·refine .inr ⟨cK,sP,cur,ax,m3,?_,r⟩;simp at ax;obtain⟨rfl,rfl⟩:=ax;exact(sN _ (hw.qO aE).2 cP).trans NW
  ·by_cases av:q=k
   ·subst av;simp only[if_true,ad.grow,fz,cG]at au ⊢;rw[if_neg (by omega)];rcases a7 with⟨gc,_⟩|⟨gc,_⟩
    ·rw[gc];exact hw.nw q ab O (by rw[fz,cG];omega)
    ·rcases ae:m.dI g O with _|v
     ·rfl
     ·have:=hw.p9 ae;omega
   ·simp only[av,if_false,ad.grow]at au ⊢;have cP:m.iB q≠g:=by
     rcases a7 with⟨gc,_⟩|⟨gc,_⟩
     ·rw[gc];exact λe=>av (hw.nY q k aE ab e)
     ·have:=(hw.qO aE).2;omega
    rw[if_neg (λbz=>cP bz.1)];exact hw.nw q aE O au
  ·by_cases av:q=k
   ·simp only[av,if_true];exact Vw b x ag
   ·simp only[av,if_false];exact hw.l9 q aE b x ag
  ·have cP:∀q,q<h.ids->q≠k->m.iB q≠g:=by
    intro q aE av;rcases a7 with⟨gc,_⟩|⟨gc,_⟩
    ·rw[gc];exact λe=>av (hw.nY q k aE ab e)
    ·have:=(hw.qO aE).2;omega
   by_cases F:q=k<;>by_cases J:hi=k
   ·omega
   ·simp[F,J]at he;exact absurd he.symm (cP hi sO J)
   ·simp[F,J]at he;exact absurd he (cP q aE F)
   ·simp[F,J]at he;exact hw.nY q hi aE sO he
  ·obtain⟨aP,a2,a3,a4,a5⟩:=hw.fo D x aa;have dW:=hw.tU aa;have IV:g≠D:=by
    rcases a7 with⟨gc,_⟩|⟨gc,_⟩
    ·rw[gc];exact a4 k ab
    ·omega
   refine⟨aP,(sN D dW (λe=>a4 k ab e.symm)).trans a2,a3,λq aE=>?_,λO=>?_⟩
   ·by_cases av:q=k
    ·simp only[av,if_true];exact IV
    ·simp only[av,if_false];exact a4 q aE
   ·simp only;rw[if_neg λbz=>IV bz.1.symm];exact a5 O
 ·obtain⟨b0,bK,gl⟩:=NV;have:=bF.bN (P:=P) (m:={m with dI:=λfJ O=>if fJ=g/\O<(h.hw k+kx)*S then(xs++news)[O]? else m.dI fJ O,iB:=λq=>if q=k then g else m.iB q,sG:=λq=>if q=k then cap else m.sG q}) (h:=h.grow k (h.hw k+kx)) (j k) e es g 0 cap (λi D=>((xs++news)[i*S+D]?).getD fy) (by rw[cG];exact bK) (λi ae D aa=>by
    rw[cG]at aa ⊢;have:=oQ (s:=S) ae;rw[kk]at this;simp only[gH];rw[if_pos ⟨trivial,by omega⟩,gd (by omega)];simp) (λi ae D aa=>by
    obtain⟨v,v1,v2⟩:=gl i ae D aa;rw[v1,ns];exact v2.ext an) (by
    rw[kk];rcases fD.2 with⟨F,J⟩|⟨_,_,_,F,_,_,J,_⟩
    ·simp at F
    ·simp at F;obtain⟨rfl,rfl⟩:=F;exact J) (λq aE=>by
    injection aE with aE;subst aE;exact⟨ab,fz,by simp[ad.grow,kk],λ_=>by simp⟩)
  rw[kk]at this;exact this
 ·have ag:∀q,q<m.base->aJ.heap[q]? =w.heap[q]? :=λq aE=>sN q (by have:=hw.size;omega) (by have:=Ac.1;omega);rcases a7 with⟨_,jD⟩|⟨_,eV⟩
  ·exact⟨jD.os,jD.tape,jD.output,jD.size,ag⟩
  ·exact⟨eV.os,eV.tape,eV.output,eV.size,ag⟩
theorem bW.Vx(hw:bW P m h w){b:Nat}(ag:h.cell b=j es)(e:aU)(he:m.fI b=e){n g:Nat}(fD:aJ.ownsRow m.base e (P.cellsOf e) (.slice (j ⟨g,0,Z⟩) n cap) n xs)(a7:(g=m.b1 b/\ci (λq=>q=g) w aJ)\/(g=w.heap.size/\hL w aJ))(dM:List (List I))(NV:nz P m h (P.cellsOf e) dM xs)(sL:dM.length=n):∃aZ,Ext m h aZ ((h.set b Z).push dM)/\bW P aZ ((h.set b Z).push dM) aJ/\bF P aZ ((h.set b Z).push dM) (.br h.n 0 n e) (.slice (j ⟨g,0,Z⟩) n cap)/\Below m.base w aJ:=by
 have an:Ext m h {m with b1:=λq=>if q=h.n then g else m.b1 q,fI:=λq=>if q=h.n then e else m.fI q,nv:=λq=>if q=h.n then cap*P.cellsOf e else m.nv q} ((h.set b Z).push dM):=⟨rfl,by simp[ad.push,ad.set],by simp[ad.push,ad.set],λq aE=>by simp[show q≠h.n by omega],λ_ _ _ h=>h,λk ab=>⟨rfl,bS _,λ_=>⟨rfl,rfl⟩⟩,λ_ _ h=>h⟩;have pu:w.heap.size<=aJ.heap.size:=by
  rcases a7 with⟨_,jD⟩|⟨_,eV⟩
  ·exact jD.size
  ·exact eV.size
 have sN:∀q,q<w.heap.size->q≠m.b1 b->aJ.heap[q]? =w.heap[q]? :=by
  intro q aE cP;rcases a7 with⟨gc,jD⟩|⟨gc,eV⟩
  ·exact jD.block q aE (λe=>cP (e.trans gc))
  ·exact eV.block q aE id
 have hE:=(hw.lt b es ag).1;have aAn:=hw.below ag;have ua:∀q x,((h.set b Z).push dM).cell q=j x->(q=h.n/\x=dM)\/(q≠h.n/\q≠b/\h.cell q=j x):=by
  intro q x aE;by_cases av:q=h.n
  ·left;subst av;simp[ad.push,ad.set]at aE;exact⟨rfl,aE.symm⟩
  ·right;by_cases ax:q=b
   ·simp[ad.push,ad.set,ax]at aE;subst ax;simp[av]at aE
   ·simp[ad.push,ad.set,av,ax]at aE;exact⟨av,ax,aE⟩
 have alE:∃cur,iZ aJ g e cur/\cur.size=cap*P.cellsOf e/\n<=cap/\cap<=maxLen/\cur.toList.take (n*P.cellsOf e)=xs/\m.base<=g:=by
  rcases fD.2 with⟨F,J⟩|⟨cK,sP,cur,F,J,af,aB,bw,cc,cQ⟩
  ·simp at F
  ·simp at F;obtain⟨rfl,rfl⟩:=F;exact⟨cur,af,cc,aB,bw,cQ,J⟩
 obtain⟨cur,alF,nX,Vy,ju,yv,Vv⟩:=alE;have cP:∀q x,q≠b->h.cell q=j x->m.b1 q≠g:=by
  intro q x CA aE;rcases a7 with⟨gc,_⟩|⟨gc,_⟩
  ·rw[gc];exact λe=>CA (hw.inj _ _ _ _ aE ag e)
  ·have:=hw.below aE;omega
 have alG:∀O,m.dI g O=Z:=by
  intro O;rcases a7 with⟨gc,_⟩|⟨gc,_⟩
  ·rw[gc];exact hw.sep b es ag O
  ·rcases ae:m.dI g O with _|v
   ·rfl
   ·have:=hw.p9 ae;omega
 obtain⟨b0,bK,gl⟩:=NV;refine⟨_,an,?_,?_,?_⟩
 ·refine⟨ee hw.size pu,λq x aE=>?_,λq x aE=>?_,λq hi x hV aE sO he=>?_,λfJ O v ae=>?_,λq x aE O=>?_,λk ab=>?_,λk ab=>hw.nw k ab,λk ab q x aE=>?_,λk dn ab oT=>hw.nY k dn ab oT,hw.dg.fs hw.size λfJ mD bt=>sN fJ mD (λe=>by have:=(hw.lt b es ag).2;omega),λD x aa=>?_⟩
  ·rcases ua q x aE with⟨rfl,rfl⟩|⟨av,ax,af⟩
   ·simp[ad.push,ad.set,Vv]
   ·have:=hw.lt q x af;simp[ad.push,ad.set,av];omega
  ·rcases ua q x aE with⟨rfl,rfl⟩|⟨av,ax,af⟩
   ·refine⟨cur,by simpa using alF,by simp[nX],by simpa using bK,?_,λi ae D aa=>?_⟩
    ·simp only[if_true];rw[sL,nX];exact Nat.mul_le_mul_right _ Vy
    ·obtain⟨v,v1,v2⟩:=gl i ae D aa;refine⟨v,?_,v2.ext an⟩;simp only[if_true];rw[<-yv]at v1;have bt:=(fR.1 v1).1;simp at bt;rw[t' (by omega)]at v1;rw[<-tY];exact v1
   ·obtain⟨cs,a6,c2,c3,c4,c5⟩:=hw.live q x af;refine⟨cs,?_,by simpa[av]using c2,by simpa[av]using c3,by simpa[av]using c4,λi ae D aa=>?_⟩
    ·simp only[av,if_false];exact(sN _ a6.lt (λe=>ax (hw.inj _ _ _ _ af ag e))).trans a6
    ·obtain⟨v,v1,v2⟩:=c5 i ae D aa;exact⟨v,by simpa[av]using v1,v2.ext an⟩
  ·rcases ua q x aE with⟨rfl,rfl⟩|⟨av,ax,af⟩<;>rcases ua hi hV sO with⟨rfl,rfl⟩|⟨f1,f2,f3⟩
   ·rfl
   ·simp[f1]at he;exact absurd he.symm (cP _ _ f2 f3)
   ·simp[av]at he;exact absurd he (cP _ _ ax af)
   ·simp[av,f1]at he;exact hw.inj _ _ _ _ af f3 he
  ·have mD:fJ≠m.b1 b:=λe=>by simp only at ae;rw[e,hw.sep b es ag O]at ae;cases ae
   rw[World.cell?_of_block (w:=w) (sN _ (hw.p9 ae) mD)];exact hw.dI fJ O v ae
  ·rcases ua q x aE with⟨rfl,rfl⟩|⟨av,ax,af⟩
   ·simp only[if_true];exact alG O
   ·simp only[av,if_false];exact hw.sep q x af O
  ·obtain⟨dR,bq⟩:=hw.oP k ab;refine⟨dR,bq.1,?_⟩;rcases bq.2 with F|⟨cK,sP,alH,ax,m3,NW,r⟩
   ·exact .inl F
   ·refine .inr ⟨cK,sP,alH,ax,m3,?_,r⟩;simp at ax;obtain⟨rfl,rfl⟩:=ax;exact(sN _ (hw.qO ab).2 (λe=>hw.l9 k ab b es ag e.symm)).trans NW
  ·have alI:g≠m.iB k:=by
    rcases a7 with⟨gc,_⟩|⟨gc,_⟩
    ·rw[gc];exact hw.l9 k ab b es ag
    ·have:=(hw.qO ab).2;omega
   rcases ua q x aE with⟨rfl,rfl⟩|⟨av,ax,af⟩
   ·simpa using alI
   ·simp only[av,if_false];exact hw.l9 k ab q x af
  ·obtain⟨aP,a2,a3,a4,a5⟩:=hw.fo D x aa;have dW:=hw.tU aa;have IV:g≠D:=by
    rcases a7 with⟨gc,_⟩|⟨gc,_⟩
    ·rw[gc];exact a3 b es ag
    ·omega
   refine⟨aP,(sN D dW (λe=>a3 b es ag e.symm)).trans a2,λq y aE=>?_,a4,a5⟩;rcases ua q y aE with⟨rfl,rfl⟩|⟨av,ax,af⟩
   ·simpa using IV
   ·simp only[av,if_false];exact a3 q y af
 ·have:=bF.br (P:=P) (m:={m with b1:=λq=>if q=h.n then g else m.b1 q,fI:=λq=>if q=h.n then e else m.fI q,nv:=λq=>if q=h.n then cap*P.cellsOf e else m.nv q}) (h:=(h.set b Z).push dM) h.n 0 n e cap (by simp[ad.push,ad.set]) (by simp) (by simp) Vy ju;simpa using this
 ·have i1:∀q,q<m.base->aJ.heap[q]? =w.heap[q]? :=λq aE=>sN q (by have:=hw.size;omega) (by have:=(hw.lt b es ag).2;omega);rcases a7 with⟨_,jD⟩|⟨_,eV⟩
  ·exact⟨jD.os,jD.tape,jD.output,jD.size,i1⟩
  ·exact⟨eV.os,eV.tape,eV.output,eV.size,i1⟩
theorem alJ(gf:pw P)(hw:bW P m h w)(aO:dF P m h t a.tmps)(ty:aU)(x y:fM)(au:O.op= .call {callee:=.builtin .append,args:= #[x,y],argTypes:=[ty,ty].toArray}){e:aU}(he:jK P ty=j e)(aR:(kg P e).isSome=Q)(ba:Bool){v:I}(U:e0 ba e (bA t x) (bA t y) h=j (v,E)):dJ P m h a w O v E:=by
 have kk:=rE he;have mC:=w2 gf he;obtain⟨z,aR⟩:=w0.1 aR;obtain⟨i,Ae,ae,vD,jh,az,aj,jM⟩:=yx (m:=m) (h:=h) (w:=w) gf aR;have h7:i.size=P.cellsOf e:=by simp[Program.cellsOf,ae]
 have p8:=gf.small e i (Vf aR) ae;have iP:=g2 aO x;have qR:=g2 aO y;obtain⟨IW,ub⟩:∃u,a.eval x=u:=⟨_,rfl⟩;obtain⟨alK,sQ⟩:∃u,a.eval y=u:=⟨_,rfl⟩;rw[ub]at iP;rw[sQ]at qR;by_cases IX:bA t y= .aC
 ·rw[IX]at qR U;cases qR;have ir:∀{A n c},IW= .slice A n c->n<=c->bF P m h v (.slice A n c)->E=h->dJ P m h a w O v E:=by intro A n c F J af aB;subst F;subst aB;exact dJ.pure hw (yz ty [ty] x y au ub sQ (alA ty e [ty] kk (by rw[ae];simp) rfl _ A n c J)) af
  simp only[e0,sB]at U;cases mE:bA t x<;>rw[mE]at U iP<;>simp only at U<;>try (cases U;done)
  ·injection U with U;injection U with F J;subst F;cases iP;exact ir rfl (bS _) .aC J.symm
  ·split at U
   ·injection U with U;injection U with F J;subst F;have qS:=iP;cases iP with
    |mB ej dZ cap=>exact ir rfl (hK _) qS J.symm
    |bN id ej es g e6 cap ah hle ev qa jt z6=>exact ir rfl jt qS J.symm
   ·cases U
  ·split at U
   ·injection U with U;injection U with F J;subst F;have qS:=iP;cases iP with
    |br b e6 b4 ej cap ag n0 jt n1 ju=>exact ir rfl n1 qS J.symm
   ·cases U
 ·have hO:((js h e (bA t y)).bind λnew=>if new.length=0 then sB e (bA t x) h else kW ba e (bA t x) new h)=j (v,E):=by rw[<-U];unfold e0;cases NX:bA t y<;>first|rfl|exact absurd NX IX
  clear U;obtain⟨new,Af,U⟩:=dt.1 hO;by_cases lQ:new.length=0
  ·rw[if_pos lQ]at U;obtain⟨pv,n,c,news,rfl,rfl,gB,vw⟩:=Vt hw qR IX Af;rw[lQ]at sQ qR;have ir:∀{A n gy},IW= .slice A n gy->n<=gy->bF P m h v (.slice A n gy)->E=h->dJ P m h a w O v E:=by intro A n gy F J af aB;subst F;subst aB;exact dJ.pure hw (yz ty [ty] x y au ub sQ (alB ty e [ty] kk (by rw[ae];simp) rfl _ A n gy J pv c)) af
   simp only[sB]at U;cases mE:bA t x<;>rw[mE]at U iP<;>simp only at U<;>try (cases U;done)
   ·injection U with U;injection U with F J;subst F;cases iP;exact ir rfl (bS _) .aC J.symm
   ·split at U
    ·injection U with U;injection U with F J;subst F;have qS:=iP;cases iP with
     |mB ej dZ cap=>exact ir rfl (hK _) qS J.symm
     |bN id ej es g e6 cap ah hle ev qa jt z6=>exact ir rfl jt qS J.symm
    ·cases U
   ·split at U
    ·injection U with U;injection U with F J;subst F;have qS:=iP;cases iP with
     |br b e6 b4 ej cap ag n0 jt n1 ju=>exact ir rfl n1 qS J.symm
    ·cases U
  rw[if_neg lQ]at U;unfold kW at U;split at U
  ·rename_i al;obtain⟨a6,c2,c3⟩:=al;obtain⟨pv,n,c,news,rfl,rfl,gB,vw⟩:=Vt hw qR IX Af;have E2:=gB.one mC c3;have NY:∀k,k<=1000000->(k+new.length)*i.bytes<=140737488355328:=by intro k ab;have:(k+new.length)*i.bytes<=2000000*100000:=Nat.mul_le_mul (by omega) p8;omega
   have NZ:∀k,k<=1000000->k+new.length<=maxLen:=by intro k ab;unfold maxLen;omega
   have alL:bA t x= .aC->dJ P m h a w O v E:=by
    intro mE;rw[mE]at U iP;simp only at U;cases iP;obtain⟨g,cap,aJ,b0,bK,gl⟩:=NS (P:=P) (w:=w) m.base ty O.type e i Ae (P.cellsOf e) i.bytes kk ae vD h7 rfl (by rw[az]) mC (.slice Z 0 0) 0 [] (World.ownsRow_nil _ _ _ _) pv new.length c (by omega) news gB.1 vw E2 (NZ 0 (by omega)) (NY 0 (by omega)) hw.size;simp only[gH,j6]at b0 bK;rcases gl with⟨F,_⟩|⟨a7,eV⟩
    ·simp at F
    ·have iW:=yz (aJ:=aJ) ty [ty] x y au ub sQ b0;obtain⟨bT,bM⟩:=bK;rcases bM with⟨F,_⟩|⟨cK,sP,cur,F,J,af,aB,bw,cc,cQ⟩
     ·simp at F
     ·simp at F;obtain⟨rfl,rfl⟩:=F;have alM:cur.toList.take (new.length*P.cellsOf e)=news:=cQ;have vB:∀i (ae:i<new.length) D (aa:D<new[i].length),∃v,cur[i*P.cellsOf e+D]? =j v/\bF P m h new[i][D] v:=by intro i ae D aa;obtain⟨v,v1,v2⟩:=gB.2.2 i ae D aa;rw[<-alM]at v1;have bt:=(fR.1 v1).1;simp at bt;rw[t' (by omega)]at v1;exact⟨v,by rw[<-tY];exact v1,v2⟩
      subst a7;cases ba
      ·simp only[nx,if_false,hg,iQ]at U;obtain⟨rfl,rfl⟩:=U;obtain⟨aZ,c8,c6,fN⟩:=hw.fresh aJ e new cur cap eV af cc aB bw gB.2.1 vB;exact⟨aZ,aJ,_,.inl iW,c8,c6,fN,(hL.below eV).mono hw.size⟩
      ·simp only[if_true,hg,iQ]at U;obtain⟨rfl,rfl⟩:=U;obtain⟨aZ,c8,c6,fN,hu,j4⟩:=hw.push aJ e new cur eV af (by rw[cc];exact Nat.mul_le_mul_right _ aB) gB.2.1 vB;have iD:=bF.br (P:=P) (m:=aZ) (h:=h.push new) h.n 0 new.length e cap (by simp[ad.push]) hu (by rw[j4,cc,gH]) aB bw;rw[fN,Nat.zero_mul]at iD;exact⟨aZ,aJ,_,.inl iW,c8,c6,iD,(hL.below eV).mono hw.size⟩
   have alN:∀k z es,bA t x= .bN (j k) z es->dJ P m h a w O v E:=by
    intro k z es mE;rw[mE]at U iP;simp only at U;split at U
    ·rename_i j5;obtain⟨rfl,N0,CB⟩:=j5;injection U with U;injection U with g1 cK;subst g1;subst cK;cases iP with
     |bN id ej es g e6 cap ah hle ev qa jt z6=>
       obtain⟨ab,yA,_,alO⟩:=z6 k rfl;obtain⟨rfl,rfl,rfl⟩:=alO N0.symm;obtain⟨xs,sI⟩:=hw.oP k ab;rw[yA,N0]at sI;have alP:nz P m h (P.cellsOf z) es xs:=alC hw sI hle (λi ae D aa=>⟨ah i D,by
        have:=hw.dI _ _ _ (ev i ae D (by rw[<-hle _ (hf ae)];exact aa));rwa [gH]at this,qa i ae D aa⟩)
       obtain⟨g,sP,aJ,b0,bK,gl⟩:=NS (P:=P) (w:=w) m.base ty O.type z i Ae (P.cellsOf z) i.bytes kk ae vD h7 rfl (by rw[az]) mC _ es.length xs sI pv new.length c (by omega) news gB.1 vw E2 (NZ _ CB) (NY _ CB) hw.size;have iW:=yz (aJ:=aJ) ty [ty] x y au ub sQ b0;obtain⟨aZ,c8,c6,fN,hu⟩:=bW.grown hw ab (n:=es.length) (kx:=new.length) (xs:=xs) (news:=news) (g:=g) (cap:=sP) (aJ:=aJ) N0.symm a6 (by rw[yA];exact sI) (by rw[yA];exact mC) (by rw[yA];exact bK) (by
        rcases gl with⟨bT,bM,_⟩|q
        ·left;simp at bT;exact⟨bT.symm,bM⟩
        ·exact .inr q) (es++new) (by rw[yA];exact alP.append gB) (by simp)
       rw[yA]at fN;exact⟨aZ,aJ,_,.inl iW,c8,c6,fN,hu⟩
    ·cases U
   have alQ:∀b e6 b4 z,bA t x= .br b e6 b4 z->dJ P m h a w O v E:=by
    intro b e6 b4 z mE;rw[mE]at U iP;simp only at U;split at U
    ·rename_i j5;obtain⟨rfl,rfl,CB⟩:=j5;obtain⟨es,ag,U⟩:=dt.1 U;split at U
     ·rename_i qN;injection U with U;injection U with g1 cK;subst g1;subst cK;cases iP with
      |br b e6 b4 ej cap i1 n0 jt n1 ju=>
        obtain⟨cs,b5,ca,dK,kM,jN⟩:=hw.live b es ag;rw[n0]at b5 dK kM jN;have N1:cs.size=cap*P.cellsOf z:=by rw[ca,<-jt,gH]
        have Ag:b4*P.cellsOf z<=es.length*P.cellsOf z:=Nat.mul_le_mul_right _ qN;have fD:w.ownsRow m.base z (P.cellsOf z) (.slice (j ⟨m.b1 b,0,Z⟩) b4 cap) b4 (cs.toList.take (b4*P.cellsOf z)):=⟨by simp;omega,.inr ⟨m.b1 b,cap,cs,rfl,(hw.lt b es ag).2,b5,n1,ju,N1,rfl⟩⟩;have N2:nz P m h (P.cellsOf z) (es.take b4) (cs.toList.take (b4*P.cellsOf z)):=by
         have F:nz P m h (P.cellsOf z) es (cs.toList.take (es.length*P.cellsOf z)):=by
          refine⟨by simp;omega,dK,λi ae D aa=>?_⟩;obtain⟨v,v1,v2⟩:=jN i ae D aa;have:=oQ (s:=P.cellsOf z) ae;have tZ:D<P.cellsOf z:=by rw[<-dK _ (hf ae)];exact aa
          exact⟨v,by rw[t' (by omega),tY];exact v1,v2⟩
         have J:=F.take b4 qN;rwa [List.take_take,Nat.min_eq_left Ag]at J
        obtain⟨g,sP,aJ,b0,bK,gl⟩:=NS (P:=P) (w:=w) m.base ty O.type z i Ae (P.cellsOf z) i.bytes kk ae vD h7 rfl (by rw[az]) mC _ b4 _ fD pv new.length c (by omega) news gB.1 vw E2 (NZ _ CB) (NY _ CB) hw.size;have N3:a.eval x= .slice (j ⟨m.b1 b,0,Z⟩) b4 cap:=by rw[ub];simp
        have iW:=yz (aJ:=aJ) ty [ty] x y au N3 sQ b0;obtain⟨aZ,c8,c6,fN,hu⟩:=bW.Vx hw ag z n0 (aJ:=aJ) (g:=g) (cap:=sP) bK (by
         rcases gl with⟨bT,bM,_⟩|q
         ·left;simp at bT;exact⟨bT.symm,bM⟩
         ·exact .inr q) (es.take b4++new) (N2.append gB) (by simp;omega)
        exact⟨aZ,aJ,_,.inl iW,c8,c6,fN,hu⟩
     ·cases U
    ·cases U
   cases mE:bA t x with
   |aC=>exact alL mE
   |bN id z es=>
     cases id with
     |some k=>exact alN k z es mE
     |none=>rw[mE]at U;cases U
   |br b e6 b4 z=>exact alQ b e6 b4 z mE
   |_=>rw[mE]at U;cases U
  ·cases U
theorem Vz(base:Nat)(t u ty e:aU)(i:TypeInfo)(aO:P.underlying t=j (.slice e))(bE:P.underlying u=j .string)(ae:P.info? e=j i)(aR:i.zero=j (.int .u8 0))(pu:i.size=1)(p8:i.bytes=1)(v:bH)(n:Nat)(xs:List bH)(fD:w.ownsRow base e 1 v n xs)(s:ByteArray)(w5:s.size≠0)(wX:n+s.size<=maxLen)(z1:n+s.size<=140737488355328)(vu:base<=w.heap.size):∃g cap aJ,(vv #[t,u] ty #[v,.string s]).run P w= .ok (.slice (j ⟨g,0,Z⟩) (n+s.size) cap) aJ/\aJ.ownsRow base e 1 (.slice (j ⟨g,0,Z⟩) (n+s.size) cap) (n+s.size) (xs++Lib.strCells s)/\((v.ownBlock=j g/\ci (λk=>k=g) w aJ/\∃k,v= .slice (j ⟨g,0,Z⟩) n k)\/(g=w.heap.size/\hL w aJ)):=by
 have alx:n+s.size<=9223372036854775807:=by simp only[maxLen]at wX;omega
 have Ad:xs.length=n:=by simpa using fD.1
 have hlen:(xs++Lib.strCells s).length=(n+s.size)*1:=by rw[dy,Ad,Lib.strCells_length,Nat.mul_one]
 have grown:∀(fu:Nat),fu<n+s.size->(w.drew.alloc (.cells (xs.toArray++(Lib.strCells s).toArray++Builtin.zeroCells (Value.int .u8 0).cells (grownCap w (n+s.size) fu e - (n+s.size))) e)).ownsRow base e 1 (.slice (j ⟨w.heap.size,0,Z⟩) (n+s.size) (grownCap w (n+s.size) fu e)) (n+s.size) (xs++Lib.strCells s)/\hL w (w.drew.alloc (.cells (xs.toArray++(Lib.strCells s).toArray++Builtin.zeroCells (Value.int .u8 0).cells (grownCap w (n+s.size) fu e - (n+s.size))) e)):=by
  intro fu au;have tP:=grownCap_ge w (n+s.size) fu e;have w7:grownCap w (n+s.size) fu e<=maxLen:=grownCap_le_maxLen w (n+s.size) fu e wX;refine⟨⟨hlen,.inr ⟨w.heap.size,_,_,rfl,vu,heap_alloc_new w.drew _,tP,w7,?_,?_⟩⟩,⟨rfl,rfl,rfl,by simp,λk ab _=>heap_alloc_old w.drew _ ab⟩⟩
  ·have yB:(Value.int IntKind.u8 0).cells.size=1:=rfl;simp only[Array.size_append,List.size_toArray,size_zeroCells,yB,Ad,Lib.strCells_length];omega
  ·simp only[Array.toList_append,jA];rw[<-jA,<-hlen];exact List.take_left
 rcases fD.2 with⟨rfl,rfl⟩|⟨g,cap,cur,rfl,NT,a7,tQ,w7,nX,yv⟩
 ·have an:xs=[]:=List.eq_nil_of_length_eq_zero Ad;subst an;have aj:=run_append_nil_string (P:=P) w t u ty e i (.int .u8 0) aO bE ae aR s (by omega) (by omega) (by rw[p8];omega);have rF:=grown 0 (by omega);simp only[gH,j6,Array.empty_append]at rF ⊢;have av:(s.data.map λb=>Value.int .u8 b.toNat)=(Lib.strCells s).toArray:=by apply Array.ext';simp[Lib.strCells]
  rw[av]at aj;exact⟨_,_,_,aj,rF.1,.inr ⟨rfl,rF.2⟩⟩
 ·by_cases Cz:n+s.size<=cap
  ·have aAo:cur.size=cap:=by simpa using nX
   have aj:=Lib.run_append_room_string (P:=P) w t u ty e i aO bE ae pu g n cap cur a7 s Cz (by omega);refine⟨_,_,_,aj,⟨hlen,.inr ⟨g,cap,_,rfl,NT,setRow_heap w g cur _ e _ a7,Cz,w7,?_,?_⟩⟩,.inl ⟨rfl,⟨rfl,rfl,rfl,by simp,λk _ ab=>setRow_other w g k _ ab⟩,⟨_,rfl⟩⟩⟩
   ·simp only[List.size_toArray,dy,List.length_take,sK,Array.length_toList,Lib.strCells_length];omega
   ·have NK:cur.toList.take n=xs:=by simpa using yv
    rw[NK,<-hlen];exact List.take_left
  ·have holds:∀D u,xs[D]? =j u->w.cell? ((⟨g,0,Z⟩:Addr).add D)=j u:=fD.cells (g:=g) rfl;have aj:=Lib.run_append_grow_string (P:=P) w t u ty e i (.int .u8 0) aO bE ae aR ⟨g,0,Z⟩ n cap xs (by rw[pu];simpa using Ad) holds s (by omega) (by omega) (by rw[p8];exact growslice_fits (by omega) (by omega));have rF:=grown cap (by omega);exact⟨_,_,_,aj,rF.1,.inr ⟨rfl,rF.2⟩⟩
theorem alR{e:aU}(h:EN P e=Q):∃i,P.info? e=j i/\i.zero=j (.int .u8 0)/\i.size=1/\i.bytes=1/\P.cellsOf e=1:=by
 unfold EN at h;split at h
 ·rename_i i ae;simp only[h8,beq_iff_eq]at h;obtain⟨⟨F,J⟩,af⟩:=h;split at F
  ·rename_i n aR;have:n=0:=by simpa using F
   subst this;exact⟨i,ae,aR,J,af,by simp[Program.cellsOf,ae,J]⟩
  ·cases F
 ·cases h
theorem VA(l:List UInt8):nz P m h 1 (jL l) (Lib.strCells ⟨l.toArray⟩):=by
 refine⟨by simp[Lib.strCells],λr aj=>?_,λi ae D aa=>?_⟩
 ·obtain⟨c,_,rfl⟩:=lR.1 aj;rfl
 ·have ev:i<l.length:=by simpa using ae
  have e:(jL l)[i]=[.int .u8 l[i].toNat]:=by simp[jL]
  have qf:D=0:=by rw[e]at aa;simpa using aa
  subst qf;refine⟨.int .u8 l[i].toNat,by simp[Lib.strCells,ev],?_⟩;simp only[e,List.getElem_cons_zero];exact .int _ _
theorem alS{ty:aU}(h:oM P ty=Q):P.underlying ty=j .string:=by
 unfold oM at h;split at h
 ·assumption
 ·cases h
theorem alT(ty u e:aU)(rG:P.underlying ty=j (.slice e))(bE:P.underlying u=j .string){i:TypeInfo}(ae:P.info? e=j i)(az:i.size=1)(Ab:aU)(A:Option Addr)(n c:Nat)(tQ:n<=c):(vv #[ty,u] Ab #[.slice A n c,.string ⟨#[]⟩]).run P w= .ok (.slice A n c) w:=by have bn:=Lib.run_firstCells_string (P:=P) w 1 ⟨#[]⟩;have gI:(Lib.strCells ⟨#[]⟩)=[]:=rfl;have av:(⟨#[]⟩:ByteArray).size=0:=rfl;rw[gI,av]at bn;cases A<;>simp[vv,fY rG,fY bE,sizeOf,typeInfo,ae,az,Builtin.lenOf,tQ,bn,av,storeCells]
theorem alU(hw:bW P m h w)(aO:dF P m h t a.tmps)(ty yC:aU)(x y:fM)(au:O.op= .call {callee:=.builtin .append,args:= #[x,y],argTypes:=[ty,yC].toArray}){e:aU}(he:jK P ty=j e)(bE:oM P yC=Q)(g7:EN P e=Q)(ba:Bool){v:I}(U:wT ba e (bA t x) (bA t y) h=j (v,E)):dJ P m h a w O v E:=by
 have kk:=rE he;have Cu:=alS bE;obtain⟨i,ae,aR,l',sJ,oR⟩:=alR g7;have iP:=g2 aO x;have qR:=g2 aO y;obtain⟨IW,ub⟩:∃u,a.eval x=u:=⟨_,rfl⟩;obtain⟨alK,sQ⟩:∃u,a.eval y=u:=⟨_,rfl⟩;rw[ub]at iP;rw[sQ]at qR;unfold wT at U;split at U
 ·rename_i l NX;rw[NX]at qR;cases qR;split at U
  ·rename_i lQ;obtain rfl:=mF.1 lQ;have ir:∀{A n gy},IW= .slice A n gy->n<=gy->bF P m h v (.slice A n gy)->E=h->dJ P m h a w O v E:=by intro A n gy F J af aB;subst F;subst aB;exact dJ.pure hw (yz ty [yC] x y au ub sQ (alT ty yC e kk Cu ae l' _ A n gy J)) af
   simp only[sB]at U;cases mE:bA t x<;>rw[mE]at U iP<;>simp only at U<;>try (cases U;done)
   ·injection U with U;injection U with F J;subst F;cases iP;exact ir rfl (bS _) .aC J.symm
   ·split at U
    ·injection U with U;injection U with F J;subst F;have qS:=iP;cases iP with
     |mB ej dZ cap=>exact ir rfl (hK _) qS J.symm
     |bN id ej es g e6 cap ah hle ev qa jt z6=>exact ir rfl jt qS J.symm
    ·cases U
   ·split at U
    ·injection U with U;injection U with F J;subst F;have qS:=iP;cases iP with
     |br b e6 b4 ej cap ag n0 jt n1 ju=>exact ir rfl n1 qS J.symm
    ·cases U
  ·rename_i lQ;split at U
   ·rename_i aAp;have dY:(⟨l.toArray⟩:ByteArray).size=l.length:=IL l;split at U
    ·rename_i mE;rw[mE]at iP;cases iP;split at U
     ·rename_i IY;injection U with U;injection U with g1 cK;subst g1;subst cK;obtain⟨g,cap,aJ,b0,bK,gl⟩:=Vz (P:=P) (w:=w) m.base ty yC O.type e i kk Cu ae aR l' sJ (.slice Z 0 0) 0 [] (World.ownsRow_nil _ _ _ _) ⟨l.toArray⟩ (by rw[dY];exact lQ) (by rw[dY];unfold maxLen;omega) (by rw[dY];omega) hw.size;rw[dY]at b0 bK;simp only[gH,j6]at b0 bK;rcases gl with⟨bT,_⟩|⟨a7,eV⟩
      ·simp at bT
      ·have iW:=yz (aJ:=aJ) ty [yC] x y au ub sQ b0;obtain⟨bT,bM⟩:=bK;rcases bM with⟨F,_⟩|⟨cK,sP,cur,F,J,af,aB,bw,cc,cQ⟩
       ·simp at F
       ·simp at F;obtain⟨rfl,rfl⟩:=F;have gB:=VA (P:=P) (m:=m) (h:=h) l;have vB:∀i (ae:i<(jL l).length) D (aa:D<(jL l)[i].length),∃v,cur[i*P.cellsOf e+D]? =j v/\bF P m h (jL l)[i][D] v:=by intro i ae D aa;obtain⟨v,v1,v2⟩:=gB.2.2 i ae D aa;rw[<-cQ]at v1;have bt:=(fR.1 v1).1;simp at bt;rw[t' (by omega)]at v1;exact⟨v,by rw[oR,<-tY];exact v1,v2⟩
        subst a7;obtain⟨aZ,c8,c6,fN,hu,j4⟩:=hw.push aJ e (jL l) cur eV af (by rw[cc,oR];simp;omega) (by rw[oR];exact gB.2.1) vB;have iD:=bF.br (P:=P) (m:=aZ) (h:=h.push (jL l)) h.n 0 l.length e cap (by simp[ad.push]) hu (by rw[j4,cc,gH,oR]) aB bw;rw[fN,Nat.zero_mul]at iD;exact⟨aZ,aJ,_,.inl iW,c8,c6,iD,(hL.below eV).mono hw.size⟩
     ·cases U
    ·rename_i b e6 b4 z mE;rw[mE]at iP;split at U
     ·rename_i j5;obtain⟨rfl,rfl,CB⟩:=j5;obtain⟨es,ag,U⟩:=dt.1 U;split at U
      ·rename_i qN;injection U with U;injection U with g1 cK;subst g1;subst cK;cases iP with
       |br b e6 b4 ej cap i1 n0 jt n1 ju=>
         obtain⟨cs,b5,ca,dK,kM,jN⟩:=hw.live b es ag;rw[n0,oR]at dK kM jN;rw[n0]at b5;have N1:cs.size=cap*1:=by rw[ca,<-jt,gH,oR]
         have fD:w.ownsRow m.base z 1 (.slice (j ⟨m.b1 b,0,Z⟩) b4 cap) b4 (cs.toList.take (b4*1)):=⟨by simp;omega,.inr ⟨m.b1 b,cap,cs,rfl,(hw.lt b es ag).2,b5,n1,ju,N1,rfl⟩⟩;have N2:nz P m h 1 (es.take b4) (cs.toList.take (b4*1)):=by
          have F:nz P m h 1 es (cs.toList.take (es.length*1)):=by
           refine⟨by simp;omega,dK,λi ae D aa=>?_⟩;obtain⟨v,v1,v2⟩:=jN i ae D aa;have:=oQ (s:=1) ae;have tZ:D<1:=by rw[<-dK _ (hf ae)];exact aa
           exact⟨v,by rw[t' (by omega),tY];exact v1,v2⟩
          have J:=F.take b4 qN;rwa [List.take_take,Nat.min_eq_left (by omega)]at J
         obtain⟨g,sP,aJ,b0,bK,gl⟩:=Vz (P:=P) (w:=w) m.base ty yC O.type z i kk Cu ae aR l' sJ _ b4 _ fD ⟨l.toArray⟩ (by rw[dY];exact lQ) (by rw[dY];unfold maxLen;omega) (by rw[dY];omega) hw.size;rw[dY]at b0 bK;have N3:a.eval x= .slice (j ⟨m.b1 b,0,Z⟩) b4 cap:=by rw[ub];simp
         have iW:=yz (aJ:=aJ) ty [yC] x y au N3 sQ b0;obtain⟨aZ,c8,c6,fN,hu⟩:=bW.Vx hw ag z n0 (aJ:=aJ) (g:=g) (cap:=sP) (by rw[oR];exact bK) (by
          rcases gl with⟨bT,bM,_⟩|q
          ·left;simp at bT;exact⟨bT.symm,bM⟩
          ·exact .inr q) (es.take b4++jL l) (by rw[oR];exact N2.append (VA l)) (by simp;omega)
         exact⟨aZ,aJ,_,.inl iW,c8,c6,fN,hu⟩
      ·cases U
     ·cases U
    ·cases U
   ·cases U
 ·cases U
end
open Go Go.RowKit
section
variable{P:cu}{m aZ:dq}{h E:ad}{w aJ:cd}{t:List I}{a:Act}{O:bb}
theorem alV(gf:pw P)(hw:bW P m h w)(aO:dF P m h t a.tmps){v:I}(he:jC P t O=j v):dJ P m h a w O v h:=by
 unfold jC at he;split at he
 ·rename_i x au;injection he with F;subst F;exact U' hw aO x (.inl au)
 ·rename_i x au;injection he with F;subst F;exact U' hw aO x (.inr au)
 ·rename_i c x y au;split at he
  ·rename_i b ag;injection he with F;subst F;exact akZ hw aO c x y au ag
  ·cases he
 ·rename_i ty parts au;obtain⟨z,aR,he⟩:=dt.1 he;split at he
  ·rename_i pl i6;split at he
   ·rename_i mc;obtain⟨cs,nX,F⟩:=dl.1 he;subst F;exact Vp gf hw aO ty parts au aR (.inl ⟨pl,i6,by simpa using mc,nX⟩)
   ·cases he
  ·obtain⟨q,aE,he⟩:=dt.1 he;split at he
   ·cases he
   ·rename_i E3;obtain⟨cs,nX,F⟩:=dl.1 he;subst F;exact Vp gf hw aO ty parts au aR (.inr ⟨q.1,q.2,aE,E3,nX⟩)
 ·rename_i x au;split at he<;>first|(cases he;done)|skip
  all_goals
   rename_i an;injection he with F;subst F;exact ak0 hw aO x au an rfl
 ·rename_i op ty x y sM au;have an:=g2 aO x;have bq:=g2 aO y;split at he
  ·rename_i ex w4;rw[ex]at an;rw[w4]at bq;obtain⟨u1,ma⟩:∃u,a.eval x=u:=⟨_,rfl⟩;obtain⟨u2,kL⟩:∃u,a.eval y=u:=⟨_,rfl⟩;rw[ma]at an;rw[kL]at bq;cases an;cases bq;have key:∀c,y= .const c->hs P ty= .iface->∀b,(op= .eql/\b=Q)\/(op= .neq/\b=R)->(e9 a.eval O).run P w= .ok (.value (.bool b)) w:=by
    intro c alW ab b iW;subst alW;have a1:=ab;unfold hs at a1;split at a1<;>simp at a1;rename_i ms oS;have heq:(Op.equal ty .nilIface .nilIface).run P w= .ok Q w:=by
     have am:∀d,(Op.equalIn (d+1) ty .nilIface .nilIface).run P w= .ok Q w:=λd=>by simp[Op.equalIn,fY oS]
     exact am 9999
    have a7:(eqGuard op ty x (.const c) .nilIface .nilIface).run P w= .ok () w:=by rcases iW with⟨rfl,_⟩|⟨rfl,_⟩<;>cases x<;>rfl
    rcases iW with⟨rfl,rfl⟩|⟨rfl,rfl⟩
    ·have av:binOp .eql ty .nilIface .nilIface=(do pure (.bool (<-Op.equal ty .nilIface .nilIface)):Sem bH):=rfl;simp only[e9,au,ma,kL,hM,a7,hD,av,heq,kX]
    ·have av:binOp .neq ty .nilIface .nilIface=(do pure (.bool (!(<-Op.equal ty .nilIface .nilIface))):Sem bH):=rfl;simp only[e9,au,ma,kL,hM,a7,hD,av,heq,kX];rfl
   split at he
   ·rename_i c ab;injection he with F;subst F;exact dJ.pure hw (key _ rfl ab Q (.inl ⟨rfl,rfl⟩)) (.bool _)
   ·rename_i c ab;injection he with F;subst F;exact dJ.pure hw (key _ rfl ab R (.inr ⟨rfl,rfl⟩)) (.bool _)
   ·cases he
  ·rename_i xs dR ex w4;obtain⟨aV,VB,he⟩:=dt.1 he;split at he
   ·obtain⟨b,ag,F⟩:=dl.1 he;subst F;exact Vk hw aO _ ty sM x y au ex w4 VB ag (.inl ⟨rfl,rfl⟩)
   ·obtain⟨b,ag,F⟩:=dl.1 he;subst F;exact Vk hw aO _ ty sM x y au ex w4 VB ag (.inr ⟨rfl,rfl⟩)
   ·cases he
  ·rename_i aAq aAr;have aj:=he;clear he;obtain⟨u1,ma⟩:∃u,a.eval x=u:=⟨_,rfl⟩;obtain⟨u2,kL⟩:∃u,a.eval y=u:=⟨_,rfl⟩;rw[ma]at an;rw[kL]at bq;generalize bA t x=ex at*;generalize bA t y=w4 at*;unfold dC at aj;split at aj
   ·rename_i k dZ dn c1;cases an;cases bq;obtain⟨u,b0,bK⟩:=ald (P:=P) (m:=m) (h:=h) (w:=w) op ty k dn dZ c1 (hs P ty) aj;exact dJ.pure hw (IM op ty sM x y au ma kL rfl b0) bK
   ·rename_i dZ c1;cases an;cases bq;obtain⟨u,b0,bK⟩:=ale (P:=P) (m:=m) (h:=h) (w:=w) op ty dZ c1 (hs P ty) aj;exact dJ.pure hw (IM op ty sM x y au ma kL rfl b0) bK
   ·split at aj
    ·obtain⟨b,ag,aj⟩:=dl.1 aj;subst aj;obtain⟨av,ax,bs⟩:=ST (w:=w) ty ag an bq;exact dJ.pure hw (IM _ ty sM x y au ma kL av ax) (.bool _)
    ·obtain⟨b,ag,aj⟩:=dl.1 aj;subst aj;obtain⟨av,ax,bs⟩:=ST (w:=w) ty ag an bq;exact dJ.pure hw (IM _ ty sM x y au ma kL av bs) (.bool _)
    ·cases aj
 ·rename_i op ty x au;have bE:=he;exact ak1 hw aO op ty x au bE
 ·rename_i src dst x au;split at he
  ·cases he
  ·rename_i aq;have bE:=he;exact ak2 hw aO src dst x au (by cases az:P.underlying src<;>simp_all) bE
 ·rename_i ty x au;split at he
  ·cases he
  ·rename_i hp;have Ah:wR P ty=Q:=by simpa using hp
   split at he
   ·injection he with F;subst F;exact mt hw aO ty x au Ah
   ·split at he
    ·rename_i cs nX;injection he with F;subst F;rw[<-nX];exact mt hw aO ty x au Ah
    ·cases he
 ·rename_i f first captured au
  split at he
  ·rename_i g;injection he with F;subst F;exact ak3 hw aO g first captured au
  ·cases he
 ·rename_i ty x gk ae l8 au;split at he
  ·cases he
  ·rename_i j5;have bE:=he;simp only[qg,Bool.not_eq_true',not_or,Bool.not_eq_true,Bool.not_eq_false]at j5;obtain⟨a6,c2⟩:=j5;cases l8 with
   |some l8=>simp at a6
   |none=>exact alp gf hw aO ty x gk ae au c2 bE
 ·rename_i s x f au;obtain⟨q,aE,he⟩:=dt.1 he;split at he
  ·cases he
  ·rename_i E3;have bE:=he;exact ak6 hw aO s x f au aE E3 bE
 ·rename_i s x f au;obtain⟨q,aE,he⟩:=dt.1 he;split at he
  ·rename_i cs nX;split at he
   ·cases he
   ·rename_i j5;have bE:=he;exact ak7 hw aO s x f au aE (λh=>j5 (.inl h)) (by intro aq;exact j5 (.inr (by simp[aq]))) nX bE
  ·cases he
 ·rename_i ty x bR au;have bE:=he;exact ak8 gf hw aO ty x bR au bE
 ·rename_i ty x bR au;have bE:=he;exact ak' hw aO ty x bR au bE
 ·rename_i x EX aS ok au;split at he
  ·rename_i q bg an;split at he
   ·rename_i al;obtain⟨a6,c2⟩:=al;subst c2;injection he with F;subst F;exact ak5 hw aO x EX q ok au an a6
   ·cases he
  ·cases he
 ·rename_i x i au;split at he
  ·rename_i bl an;have bE:=he;exact ak4 hw aO x i au an bE
  ·cases he
 ·rename_i args argTypes au;have N4:∀(l:List fM),args.toList=l->args=l.toArray:=λl ai=>by rw[<-ai]
  have N5:∀(l:List aU),argTypes.toList=l->argTypes=l.toArray:=λl ai=>by rw[<-ai]
  split at he
  ·rename_i x ty qc aN rG;obtain rfl:=N4 _ aN;obtain rfl:=N5 _ rG;split at he
   ·rename_i bn;obtain⟨n,aq,F⟩:=dl.1 he;subst F;exact alb hw aO x ty qc au bn aq
   ·cases he
  ·cases he
 ·rename_i args argTypes au;split at he
  ·rename_i x y aN;obtain rfl:args=[x,y].toArray:=by rw[<-aN]
   exact Vh hw aO R x y _ au rfl rfl he
  ·cases he
 ·rename_i args argTypes au;split at he
  ·rename_i x y aN;obtain rfl:args=[x,y].toArray:=by rw[<-aN]
   exact Vh hw aO Q x y _ au rfl rfl he
  ·cases he
 ·cases he
theorem VC(gf:pw P)(hw:bW P m h w)(aO:dF P m h t a.tmps)(ba:aU->Bool){v:I}(he:fi P ba t h O=j (v,E)):dJ P m h a w O v E:=by
 unfold fi at he;split at he
 ·rename_i e au;obtain⟨z,aR,he⟩:=dl.1 he;injection he with F J;subst F;subst J;split
  ·exact akQ gf hw e au aR
  ·exact akP gf hw e au aR
 ·rename_i e x au;split at he
  ·rename_i al;injection he with he;injection he with F J;subst F;subst J;split
   ·exact akS hw aO e x au al.1 al.2
   ·exact akR hw aO e x au al.1 al.2
  ·cases he
 ·rename_i ty len parts au;obtain⟨e,gJ,he⟩:=dt.1 he;obtain⟨z,aR,he⟩:=dt.1 he;split at he
  ·rename_i al;obtain⟨es,kk,he⟩:=dl.1 he;have:=alu gf hw aO ty len parts au gJ aR kk al;split at he
   ·injection he with F J;subst F;subst J;exact this.1
   ·split at he
    ·injection he with F J;subst F;subst J;exact this.2.2
    ·injection he with F J;subst F;subst J;exact this.2.1
  ·cases he
 ·rename_i ty x au;split at he
  ·cases he
  ·rename_i aq;obtain⟨u,bE,he⟩:=dl.1 he;injection he with F J;subst F;subst J;obtain⟨d,a1⟩:=w0.1 (by cases kL:P.underlying ty<;>simp_all:(P.underlying ty).isSome=Q);obtain⟨i,ae⟩:=Vb a1;exact akT hw aO ty x au a1 (by rw[ae];simp) bE
 ·rename_i ty x y au;split at he
  ·cases he
  ·rename_i aq;obtain⟨J,bJ,he⟩:=dl.1 he;injection he with av ax;subst av;subst ax;obtain⟨i,ae,_⟩:=qQ aq;exact akU hw aO ty x y au (by rw[ae];simp) bJ
 ·rename_i ty l c au;split at he
  ·rename_i c8 n c6 gC ai al;obtain⟨e,gJ,he⟩:=dt.1 he;obtain⟨z,aR,he⟩:=dt.1 he;split at he
   ·rename_i j5;obtain⟨a6,c2,c3⟩:=j5;have sR:bA t c= .int c6 n:=by rw[al,<-c2]
    injection he with he;injection he with F J;subst F;subst J;exact alw gf hw aO ty l c au gJ aR ai sR a6 c3
   ·cases he
  ·cases he
 ·rename_i args argTypes au;have N4:∀(l:List fM),args.toList=l->args=l.toArray:=λl ai=>by rw[<-ai]
  have N5:∀(l:List aU),argTypes.toList=l->argTypes=l.toArray:=λl ai=>by rw[<-ai]
  split at he
  ·rename_i x y ty tM aN rG;obtain rfl:=N4 _ aN;obtain rfl:=N5 _ rG;split at he
   ·rename_i yA;subst yA;obtain⟨e,gJ,he⟩:=dt.1 he;split at he
    ·rename_i aR;exact alJ gf hw aO ty x y au gJ aR (ba ty) he
    ·cases he
   ·split at he
    ·rename_i bJ;obtain⟨e,gJ,he⟩:=dt.1 he;split at he
     ·rename_i g7;exact alU hw aO ty tM x y au gJ bJ g7 (ba ty) he
     ·cases he
    ·cases he
  ·cases he
 ·obtain⟨u,bE,he⟩:=dl.1 he;injection he with F J;subst F;subst J;exact alV gf hw aO bE
end
open Go Go.RowKit
def AC(P:cu)(g:cH)(args:List I)(h:ad)(r:(I⊕I)×ad):Prop:=∀(m:dq) (w:cd) (bl:List bH),bW P m h w->dV P m h args bl->Calls P g bl.toArray w λe aJ=>∃aZ,Ext m h aZ r.2/\bW P aZ r.2 aJ/\Below m.base w aJ/\
   match r.1 with
   |.inl v=>∃u,e= .returned u/\bF P aZ r.2 v u
   |.inr v=>∃u,e= .panicked [{v:=u,recovered:=R}]/\bF P aZ r.2 v u
structure ky(P:cu)(T:gZ):Prop where
 ty:pw P
 name:∀(g:Nat) (fn:Func),P.funcs[g]? =j fn->T.use g=Q->(fn.name== "runtime.NumGoroutine")=R
 ext:∀g ah,T.ext g=j ah->∃fn,P.funcs[g]? =j fn/\(fn.body.isNone=R/\(fn.name== "runtime.NumGoroutine")=R)/\∀args h r,ah args h=j r->AC P g args h r
 ch:∀(g:Nat) (fn:Func) (c:ef),P.funcs[g]? =j fn->fn.body=j c->T.use g=Q->ht (T.ch g) (T.eu g) c=Q
 mixed:P.follows .mixedOrders=Q
 VD:∀g e,e<2000000->T.eu g (1000000+e)=Q->(kg P e).isSome=Q
 VE:∀g ty,T.eu g (1000000+(ty+2000000))=Q->T.ba g ty=R/\T.ba g (ty+1000000)=Q
def eA(P:cu)(S:Nat->Bool)(m:dq)(h:ad)(w:cd)(b:eO)(cs:List eO)(pz:Machine)(r:h4×List I×ad):Prop:=∃aZ aJ,Ext m h aZ r.2.2/\bW P aZ r.2.2 aJ/\Below m.base w aJ/\
   match r.1 with
   |.ret=>∃(dZ:Act) (todo:List Item),dF P aZ r.2.2 r.2.1 dZ.tmps/\dZ.defers=b.defers/\Steps P pz (ew {b.at dZ todo with mode:=.returning} cs aJ)
   |.panic v=>∃(dZ:Act) (todo:List Item) (u:bH),(∃rB,dF P aZ r.2.2 rB dZ.tmps/\∀d,S d=Q->rB.getD d .aD=r.2.1.getD d .aD)/\dZ.defers=b.defers/\bF P aZ r.2.2 v u/\Steps P pz (ew {b.at dZ todo with mode:=.panicking [{v:=u,recovered:=R}]} cs aJ)
   |.halt K=>∃(dZ:Act),dF P aZ r.2.2 r.2.1 dZ.tmps/\dZ.defers=b.defers/\Steps P pz (ew (b.at dZ K) cs aJ)
section
variable{P:cu}{m m1 aZ:dq}{h F E:ad}{w cg aJ:cd}{t:List I}{a:Act}{O:bb}{b:eO}{cs:List eO}{pz E4:Machine}{r:h4×List I×ad}
theorem eA.steps{S:Nat->Bool}(az:Steps P pz E4)(au:eA P S m h w b cs E4 r):eA P S m h w b cs pz r:=by
 obtain⟨aZ,aJ,F,J,af,aB⟩:=au;refine⟨aZ,aJ,F,J,af,?_⟩;split at aB
 ·rename_i aj;obtain⟨dZ,todo,c8,c6,fN⟩:=aB;exact⟨dZ,todo,c8,c6,az.trans fN⟩
 ·rename_i v aj;obtain⟨dZ,todo,u,hh,c8,c6,fN⟩:=aB;exact⟨dZ,todo,u,hh,c8,c6,az.trans fN⟩
 ·rename_i K aj;obtain⟨dZ,c8,c6,fN⟩:=aB;exact⟨dZ,c8,c6,az.trans fN⟩
theorem eA.after{S:Nat->Bool}(an:Ext m h m1 F)(ag:Below m.base w cg)(au:eA P S m1 F cg b cs pz r):eA P S m h w b cs pz r:=by obtain⟨aZ,aJ,c8,c6,fN,hu⟩:=au;exact⟨aZ,aJ,an.trans c8,c6,ag.trans (by rw[<-an.base];exact fN),hu⟩
theorem dF.clear(aO:dF P m h t a.tmps)(n:Nat):dF P m h (cz n t) a.tmps:=by
 refine⟨by rw[aO.1,cz];simp;omega,λi ae=>?_⟩;unfold cz at ae ⊢;by_cases gt:i<(t.take n).length
 ·rw[List.getElem_append_left gt,List.getElem_take];exact aO.2 i _
 ·rw[List.getElem_append_right (by omega)];simp only[List.getElem_replicate];exact .aD _
theorem N6{all:Array bb}{i:Nat}{k:List Item}(au:all[i]? =j O)(j7:Region.wanted O (yielded all a.tmps)=Q)(aj:(e9 a.eval O).run P w= .ok (.value u) aJ\/((e9 a.eval O).run P w= .ok .skip aJ/\u=fy)):Steps P (ew (b.at a (.inRegion all (i::rest)::k)) cs w) (ew (b.at (a.put O.dst u) (.inRegion all rest::k)) cs aJ):=by
 have a7:=stepG_op (P:=P) (b:=b) (k:=k) (cs:=cs) (w:=w) (rest:=rest) au j7;have pA:∀v,(b.at a (.inRegion all (i::rest)::k)).finish v=b.at (a.put O.dst v) (.inRegion all rest::k):=by intro v;rw[Frame.finish_at,au];rfl
 refine .one (step_lone_go ?_);rcases aj with aj|⟨aj,rfl⟩
 ·rw[a7,<-pA];simp[stepG.apply,aj]
 ·rw[a7,<-pA];simp[stepG.apply,aj]
theorem N7{all:Array bb}{i:Nat}{k:List Item}(au:all[i]? =j O)(j7:Region.wanted O (yielded all a.tmps)=R):Steps P (ew (b.at a (.inRegion all (i::rest)::k)) cs w) (ew (b.at (a.put O.dst fy) (.inRegion all rest::k)) cs w):=by have az:=step_op_skip (P:=P) (b:=b) (a:=a) (k:=k) (cs:=cs) (w:=w) (ops:=all) (i:=i) (rest:=rest) (by simp[au];simpa using j7);simp only[au,da]at az;exact .one az
theorem E5{all:Array bb}{i:Nat}{k:List Item}{f:cH}{args:Array bH}{cn:Ending->cd->Prop}(au:all[i]? =j O)(j7:Region.wanted O (yielded all a.tmps)=Q)(aj:(e9 a.eval O).run P w= .ok (.enter f args) w)(al:Calls P f args w cn)(pi:∀aJ,¬cn .outgrown aJ):∃e aJ,cn e aJ/\((∃v,e= .returned v/\Steps P (ew (b.at a (.inRegion all (i::rest)::k)) cs w) (ew (b.at (a.put O.dst v) (.inRegion all rest::k)) cs aJ))\/(∃fe,e= .panicked fe/\∃todo,Steps P (ew (b.at a (.inRegion all (i::rest)::k)) cs w) (ew {b.at a todo with mode:=.panicking fe} cs aJ))):=by
 have a7:=stepG_op (P:=P) (b:=b) (k:=k) (cs:=cs) (w:=w) (rest:=rest) au j7;have pA:∀v,(b.at a (.inRegion all (i::rest)::k)).finish v=b.at (a.put O.dst v) (.inRegion all rest::k):=by intro v;rw[Frame.finish_at,au];rfl
 obtain⟨e,alX,a8,iR,VF,_,VG⟩:=al (b.at a (.inRegion all (i::rest)::k)::cs);have VH:step P (ew (b.at a (.inRegion all (i::rest)::k)) cs w)= .next (ew (jO P f args .normal) (b.at a (.inRegion all (i::rest)::k)::cs) w):=step_lone_go (by rw[a7];simp[stepG.apply,aj,Frame.at]);refine⟨e,alX,iR,?_⟩;cases e with
 |returned v=>left;refine⟨v,rfl,.head VH (Steps.trans VF (.one ?_))⟩;rw[<-pA];exact step_leave_returned VG
 |panicked chain=>right;refine⟨chain,rfl,.inRegion all (i::rest)::k,.head VH (Steps.trans VF (.one ?_))⟩;rw[<-Frame.raise_at];exact step_leave_panicked VG
 |outgrown=>exact absurd iR (pi _)
theorem yD(aO:dF P m h t a.tmps)(all:Array bb)(O:bb){x:Bool}(hw:h3 all t O=j x):Region.wanted O (yielded all a.tmps)=x:=by
 unfold h3 at hw;unfold Region.wanted;split at hw
 ·rename_i a7;rw[a7];injection hw
 ·rename_i D want a7;rw[a7];simp only;split at hw
  ·rename_i d a1;have bt:t.getD d .aD≠.aD->d<t.length:=by
    intro ag;rcases oI d t.length with F|F
    ·exact F
    ·rw[dm,lN F]at ag;exact absurd rfl ag
   have U:=aO.get d;split at hw
   ·rename_i aG ag;injection hw with hw;rw[ag]at U;have N8:d<a.tmps.size:=by rw[aO.1];exact bt (by rw[ag];simp)
    have Ai:a.tmps.getD d fy= .bool aG:=by revert U;generalize a.tmps.getD d fy=q;intro U;cases U;rfl
    have av:a.tmps[d]? =j (.bool aG):=by rw[<-Ai];simp[Array.getD,N8]
    simp only[yielded,a1,da,av];rw[<-hw];cases want<;>cases aG<;>rfl
   ·rename_i bl ag;injection hw with hw;rw[ag]at U;have N8:d<a.tmps.size:=by rw[aO.1];exact bt (by rw[ag];simp)
    obtain⟨us,Ai⟩:∃us,a.tmps.getD d fy= .tuple us:=by revert U;generalize a.tmps.getD d fy=q;intro U;cases U;exact⟨_,rfl⟩
    have av:a.tmps[d]? =j (.tuple us):=by rw[<-Ai];simp[Array.getD,N8]
    simp only[yielded,a1,da,av];rw[<-hw];cases want<;>rfl
   ·cases hw
  ·cases hw
theorem VI(aO:dF P m h t a.tmps){v:I}(hp:mZ t O=j v):∃u,bF P m h v u/\(e9 a.eval O).run P w= .halt (.panic u) w:=by
 unfold mZ at hp;split at hp
 ·rename_i x au;split at hp
  ·rename_i q bg w8;injection hp with hp;subst hp;have U:=g2 aO x;rw[w8]at U;obtain⟨u,bE⟩:∃u,a.eval x=u:=⟨_,rfl⟩;rw[bE]at U;cases U with
   |iface _ _ fE F=>refine⟨_,.iface q bg fE F,?_⟩;unfold e9;rw[au];simp only[bE,Instr.panic];rfl
  ·cases hp
 ·cases hp
theorem VJ{all:Array bb}{i:Nat}{k:List Item}(au:all[i]? =j O)(j7:Region.wanted O (yielded all a.tmps)=Q)(aj:(e9 a.eval O).run P w= .halt (.panic u) w):Steps P (ew (b.at a (.inRegion all (i::rest)::k)) cs w) (ew {b.at a (.inRegion all (i::rest)::k)with mode:=.panicking [{v:=u,recovered:=R}]} cs w):=by have a7:=stepG_op (P:=P) (b:=b) (k:=k) (cs:=cs) (w:=w) (rest:=rest) au j7;refine .one (step_lone_go ?_);rw[a7,<-Frame.raise_at];simp[stepG.apply,aj]
theorem IZ(aO:dF P m h t a.tmps){g:cH}{args:List I}(al:fr t O=j (g,args)){fn:Func}(bn:P.funcs[g]? =j fn)(aq:(fn.name== "runtime.NumGoroutine")=R)(ag:fn.body.isNone=R):∃bl:List bH,dV P m h args bl/\(e9 a.eval O).run P w= .ok (.enter g bl.toArray) w:=by
 unfold fr at al;split at al
 ·rename_i CC CD VK au;split at al
  ·rename_i fJ first captured w8
   injection al with al;injection al with F J;subst F;subst J;have U:=g2 aO CC;rw[w8]at U;obtain⟨u,bE⟩:∃u,a.eval CC=u:=⟨_,rfl⟩;rw[bE]at U;cases U with
   |fn _ l c b8 gy av ax bs cq=>
     refine⟨b8++CD.toList.map a.eval++gy,dV.append (dV.append ⟨av,bs⟩ (dV.map λx _=>g2 aO x)) ⟨ax,cq⟩,?_⟩;have eX:(b8.toArray++CD.map a.eval)++gy.toArray=(b8++CD.toList.map a.eval++gy).toArray:=by apply Array.ext';simp
     simp only[e9,au,bE,resolve,Deferred.ofValue,hM,kX,hD,invoke,callFunc,run_program,bn,aq,ag,nx,if_false,eX]
  ·cases al
 ·cases al
theorem w9(hw:bW P m h w)(aO:dF P m h t a.tmps){fn:Func}{v:I}(U:nV fn t h P=j v):∃u,(results fn a.tmps).run P w= .ok u w/\bF P m h v u:=by
 unfold nV at U;obtain⟨bl,e1,rfl⟩:=dl.1 U;have key:∀(rs:List ResultVar) (bl:List I),p7 P t h rs=j bl->∃us:List bH,(rs.mapM λ(x:ResultVar)=>(match x with
   |.tmp t=>pure (a.tmps.getD t fy)
   |.cell c t=>do loadVar t (<-asAddr (a.tmps.getD c fy)):Sem bH)).run P w= .ok us w/\dV P m h bl us:=by
  intro rs;induction rs with
  |nil=>intro bl e1;simp[p7]at e1;subst e1;exact⟨[],by simp,dV.nil⟩
  |cons x rs aW=>
    intro bl e1;cases x with
    |tmp i=>simp only[p7]at e1;obtain⟨l,ai,rfl⟩:=dl.1 e1;obtain⟨us,F,J⟩:=aW l ai;exact⟨_,by simp only[List.mapM_cons,hM,kX,hD,F],dV.cons (aO.get i) J⟩
    |cell i ty=>
      simp only[p7]at e1;split at e1
      ·cases e1
      ·rename_i aq;obtain⟨v,U,e1⟩:=dt.1 e1;obtain⟨l,ai,rfl⟩:=dl.1 e1;obtain⟨us,F,J⟩:=aW l ai;have an:=aO.get i;obtain⟨d,a1⟩:=w0.1 (by cases kL:P.underlying ty<;>simp_all:(P.underlying ty).isSome=Q);obtain⟨i0,gw⟩:=Vb a1;have N9:∃u,(do loadVar ty (<-asAddr (a.tmps.getD i fy)):Sem bH).run P w= .ok u w/\bF P m h v u:=by
        revert an U;generalize a.tmps.getD i fy=II;generalize t.getD i .aD=ex;intro U an;obtain⟨U8,vx,cP,ai,_⟩:=an.ND;rw[<-ai]at U;cases vx with
        |cF t b _ _=>exact absurd rfl (cP t b)
        |ptr b i off ag=>
          simp only[cO]at U;rcases aj:h.row b i with _|e
          ·simp[aj]at U
          ·simp only[aj,da]at U;obtain⟨ah,cW⟩:=U7 hw aj;obtain⟨u,F,J⟩:=IH (w:=w) ty a1 (by rw[gw];simp) (m.b1 b) (i*P.cellsOf (m.fI b)) off e ah cW U;exact⟨u,by simp[asAddr,F],J⟩
        |ip e off g e6 ah ev jg=>simp only[cO]at U;obtain⟨u,F,J⟩:=IH (w:=w) (h:=h) (m:=m) ty a1 (by rw[gw];simp) g e6 off e ah (λD aa=>⟨hw.dI _ _ _ (ev D aa),jg D aa⟩) U;exact⟨u,by simp[asAddr,F],J⟩
        |_=>simp[cO]at U
       obtain⟨u,ma,kL⟩:=N9;exact⟨_,by simp only[List.mapM_cons,hM,hD,ma,F,kX],dV.cons kL J⟩
 obtain⟨us,F,J⟩:=key _ _ e1;unfold results;rw[Array.mapM_eq_mapM_toList];have jM:(do
   let bl <-(List.toArray<$>(fn.results.toList.mapM λ(x:ResultVar)=>(match x with
    |.tmp t=>pure (a.tmps.getD t fy)
    |.cell c t=>do loadVar t (<-asAddr (a.tmps.getD c fy)):Sem bH)))
   pure (if h:bl.size=1 then bl[0]else .tuple bl):Sem bH).run P w= .ok (if h:us.toArray.size=1 then us.toArray[0]else .tuple us.toArray) w:=by
  simp[F, -h9]
 refine⟨_,jM,?_⟩;by_cases ai:us.length=1
 ·obtain⟨u,rfl⟩:=List.length_eq_one_iff.1 ai;have N':bl.length=1:=J.1.symm;obtain⟨v,rfl⟩:=List.length_eq_one_iff.1 N';have:=J.2 0 (by simp) (by simp);simpa[iY]using this
 ·have N':bl.length≠1:=by rw[<-J.1];exact ai
  have av:iY bl= .bx bl:=by
   unfold iY;split
   ·simp at N'
   ·rfl
  rw[av,dif_neg (by simpa using ai)];exact .bx _ _ J.1 J.2
end
open Go Go.RowKit
section
variable{P:cu}{t fA:List I}{h E:ad}{O:bb}{all:Array bb}{M:Array Nat}
theorem alY{x:fM}(an:∀d,x= .tmp d->t.getD d .aD=fA.getD d .aD):bA t x=bA fA x:=by
 cases x with
 |tmp d=>exact an d rfl
 |_=>rfl
theorem I0(ai:∀d∈O.looksAt all,t.getD d .aD=fA.getD d .aD):∀x∈O.op.operands,bA t x=bA fA x:=by intro x an;refine alY λd a1=>ai d ?_;subst a1;exact List.mem_append_left _ (List.mem_filterMap.2 ⟨.tmp d,by simpa using an,rfl⟩)
theorem I1(ai:∀d∈O.looksAt all,t.getD d .aD=fA.getD d .aD):h3 all t O=h3 all fA O:=by
 unfold h3;split
 ·rfl
 ·rename_i D want a7;split
  ·rename_i d a1;rw[ai d (List.mem_append_right _ (by simp[a7,a1]))]
  ·rfl
theorem Oa(ai:∀d∈O.looksAt all,t.getD d .aD=fA.getD d .aD):fr t O=fr fA O:=by
 have fz:=I0 ai;unfold fr;split
 ·rename_i CC CD VK au;rw[au]at fz;have F:bA t CC=bA fA CC:=fz _ (by simp[hW,Call.operands]);have J:CD.toList.map (bA t)=CD.toList.map (bA fA):=List.map_congr_left λx an=>fz _ (by simp[hW,Call.operands];exact .inr (by simpa using an));rw[F,J]
 ·rfl
theorem alZ(ai:∀d∈O.looksAt all,t.getD d .aD=fA.getD d .aD):mZ t O=mZ fA O:=by
 have fz:=I0 ai;unfold mZ;split
 ·rename_i x au;rw[fz x (by simp[au,hW])]
 ·rfl
theorem VL(eP:List (Nat×fM))(hp:∀x∈eP.map (·.2),bA t x=bA fA x):(eP.map λq=>(q.1,bA t q.2))=eP.map λq=>(q.1,bA fA q.2):=List.map_congr_left λp hm=>by rw[hp p.2 (lR.2 ⟨p,hm,rfl⟩)]
theorem VM(xs:Array fM)(hp:∀x∈xs,bA t x=bA fA x):xs.toList.map (bA t)=xs.toList.map (bA fA):=List.map_congr_left λx an=>hp x (by simpa using an)
theorem al0(fz:∀x∈O.op.operands,bA t x=bA fA x):jC P t O=jC P fA O:=by
 unfold jC;split
 ·rename_i x au;rw[fz x (by simp[au,hW])]
 ·rename_i x au;rw[fz x (by simp[au,hW])]
 ·rename_i c x y au;rw[fz c (by simp[au,hW]),fz x (by simp[au,hW]),fz y (by simp[au,hW])]
 ·rename_i ty parts au;rw[VL parts.toList λx an=>fz x (by rw[au];simp only[hW];simpa using an)]
 ·rename_i x au;rw[fz x (by simp[au,hW])]
 ·rename_i op ty x y sM au;rw[fz x (by simp[au,hW]),fz y (by simp[au,hW])]
 ·rename_i op ty x au;rw[fz x (by simp[au,hW])]
 ·rename_i src dst x au;rw[fz x (by simp[au,hW])]
 ·rename_i ty x au;rw[fz x (by simp[au,hW])]
 ·rename_i f first captured au
  rw[VM first λx an=>fz x (by simp[au,hW,an]),VM captured λx an=>fz x (by simp[au,hW,an])]
 ·rename_i ty x gk ae l8 au;have F:bA t x=bA fA x:=fz x (by simp[au,hW]);have J:gk.map (bA t)=gk.map (bA fA):=by
   cases gk with
   |none=>rfl
   |some l=>simp only[g3];rw[fz l (by simp[au,hW])]
  have af:ae.map (bA t)=ae.map (bA fA):=by
   cases ae with
   |none=>rfl
   |some l=>simp only[g3];rw[fz l (by simp[au,hW])]
  rw[F,J,af]
 ·rename_i s x f au;rw[fz x (by simp[au,hW])]
 ·rename_i s x f au;rw[fz x (by simp[au,hW])]
 ·rename_i ty x bR au;rw[fz x (by simp[au,hW]),fz bR (by simp[au,hW])]
 ·rename_i ty x bR au;rw[fz x (by simp[au,hW]),fz bR (by simp[au,hW])]
 ·rename_i x EX aS ok au;rw[fz x (by simp[au,hW])]
 ·rename_i x i au;rw[fz x (by simp[au,hW])]
 ·rename_i args argTypes au;have e7:∀x∈args.toList,bA t x=bA fA x:=λx an=>fz x (by rw[au];simp[hW,Call.operands];simpa using an);split
  ·rename_i x ty qc aN rG;rw[e7 x (by rw[aN];simp)]
  ·rfl
 ·rename_i args argTypes au;have e7:∀x∈args.toList,bA t x=bA fA x:=λx an=>fz x (by rw[au];simp[hW,Call.operands];simpa using an);split
  ·rename_i x y aN;rw[e7 x (by rw[aN];simp),e7 y (by rw[aN];simp)]
  ·rfl
 ·rename_i args argTypes au;have e7:∀x∈args.toList,bA t x=bA fA x:=λx an=>fz x (by rw[au];simp[hW,Call.operands];simpa using an);split
  ·rename_i x y aN;rw[e7 x (by rw[aN];simp),e7 y (by rw[aN];simp)]
  ·rfl
 ·rfl
theorem VN(ba:aU->Bool)(ai:∀d∈O.looksAt all,t.getD d .aD=fA.getD d .aD):fi P ba t h O=fi P ba fA h O:=by
 have fz:=I0 ai;have hp:=al0 (P:=P) fz;clear ai;unfold fi;split
 ·rfl
 ·rename_i e x au;rw[fz x (by simp[au,hW])]
 ·rename_i ty len parts au;rw[VL parts.toList λx an=>fz x (by rw[au];simp only[hW];simpa using an)]
 ·rename_i ty x au;rw[fz x (by simp[au,hW])]
 ·rename_i ty x y au;rw[fz x (by simp[au,hW]),fz y (by simp[au,hW])]
 ·rename_i ty x y au;rw[fz x (by simp[au,hW]),fz y (by simp[au,hW])]
 ·rename_i args argTypes au;have e7:∀x∈args.toList,bA t x=bA fA x:=λx an=>fz x (by rw[au];simp[hW,Call.operands];simpa using an);split
  ·rename_i x y ty tM aN rG;rw[e7 x (by rw[aN];simp),e7 y (by rw[aN];simp)]
  ·rfl
 ·rw[hp]
theorem VO(ba:aU->Bool)(az:m0 O=Q)(aq:sC O=R)(h:ad):fi P ba t h O=(jC P t O).map λv=>(v,h):=by
 unfold fi;split
 all_goals first
  |rfl
  |(rename_i au;simp[m0,au]at az;done)
  |(rename_i au;simp[sC,au]at aq;done)
theorem LE(ba:aU->Bool)(az:m0 O=Q){v:I}(he:fi P ba t h O=j (v,E)):E=h:=by
 by_cases aq:sC O=Q
 ·unfold sC at aq;split at aq
  ·rename_i ty a au;unfold fi at he;rw[au]at he;simp only at he;split at he
   ·cases he
   ·obtain⟨u,_,he⟩:=dl.1 he;injection he with F J;exact J.symm
  ·cases aq
 ·rw[VO ba az (by simpa using aq)]at he;obtain⟨u,_,he⟩:=dl.1 he;injection he with F J;exact J.symm
theorem al1(ba:aU->Bool)(az:m0 O=Q)(aq:sC O=R){v:I}(he:fi P ba t h O=j (v,h))(J:ad):fi P ba t J O=j (v,J):=by rw[VO ba az aq]at he ⊢;obtain⟨u,bE,he⟩:=dl.1 he;injection he with F _;rw[bE,<-F];rfl
def nA(ba:aU->Bool)(O:bb):Bool:=m0 O||(match O.op with|.buildSlice ty _ _=> !ba ty&&ba (ty+1000000)|_=>R)
theorem Ob{ba:aU->Bool}(aE:nA ba O=Q):m0 O=Q\/∃ty len parts,O.op= .buildSlice ty len parts/\ba ty=R/\ba (ty+1000000)=Q:=by
 unfold nA at aE;rw[qg]at aE;refine aE.imp id λh=>?_;split at h
 ·rename_i ty len parts au;rw[h8,Bool.not_eq_true']at h;exact⟨ty,len,parts,au,h.1,h.2⟩
 ·cases h
theorem VP{cI:aU->Bool}(h:m0 O=Q):sD cI O=Q:=by unfold sD;rw[h];rfl
theorem Oc{cI ba:aU->Bool}(E6:∀ty,cI (ty+2000000)=Q->ba ty=R/\ba (ty+1000000)=Q)(aE:sD cI O=Q):nA ba O=Q:=by
 unfold sD at aE;unfold nA;rw[qg]at aE ⊢;refine aE.imp id λh=>?_;split at h
 ·rename_i ty len parts au;rw[au];obtain⟨a,b⟩:=E6 _ h;simp[a,b]
 ·cases h
theorem VQ{ba:aU->Bool}{ty:aU}{len:Nat}{parts:Array (Nat×fM)}(au:O.op= .buildSlice ty len parts)(F:ba ty=R)(J:ba (ty+1000000)=Q)(h:ad):fi P ba t h O=((jK P ty).bind λe=>(kg P e).bind λz=>if len*c' P e<=16777216 then (ps (c' P e) (ar len z) (parts.toList.map λq=>(q.1,bA t q.2))).map λes=>.bN Z e es else Z).map λv=>(v,h):=by
 unfold fi;rw[au];simp only[F,J,if_true,nx,if_false];cases jK P ty with
 |none=>rfl
 |some e=>
   simp only[da];cases kg P e with
   |none=>rfl
   |some z=>
     simp only[da];split
     ·rw[Option.map_map];rfl
     ·rfl
theorem al2(ba:aU->Bool)(az:nA ba O=Q){v:I}(he:fi P ba t h O=j (v,E)):E=h:=by
 rcases Ob az with az|⟨ty,len,parts,au,F,J⟩
 ·exact LE ba az he
 ·rw[VQ au F J]at he;obtain⟨u,_,he⟩:=dl.1 he;injection he with F J;exact J.symm
theorem al3(ba:aU->Bool)(az:nA ba O=Q)(aq:sC O=R){v:I}(he:fi P ba t h O=j (v,h))(J:ad):fi P ba t J O=j (v,J):=by
 rcases Ob az with az|⟨ty,len,parts,au,af,aB⟩
 ·exact al1 ba az aq he J
 ·rw[VQ au af aB]at he ⊢;obtain⟨u,bE,he⟩:=dl.1 he;injection he with F _;rw[bE,<-F];rfl
end
open Go Go.RowKit
def Aj(P:cu)(T:gZ)(f:cH)(t:List I)(h:ad)(O:bb)(v:I)(E:ad):Prop:=(fr t O=Z/\fi P (T.ba f) t h O=j (v,E))\/∃g args fn,fr t O=j (g,args)/\P.funcs[g]? =j fn/\(fn.body.isNone=R/\(fn.name== "runtime.NumGoroutine")=R)/\AC P g args h (.inl v,E)
def w'(P:cu)(T:gZ)(f:cH)(all:Array bb)(q:bb×List bb)(t:List I)(h:ad)(cM:List I)(E:ad):Prop:=(h3 all t q.1=j R/\cM=eU t q.1.dst (.bx [])/\E=h)\/(h3 all t q.1=j Q/\∃v,Aj P T f t h q.1 v E/\cM=eU t q.1.dst v/\pt P all cM E q.2)
def yE(P:cu)(all:Array bb)(O:bb)(t:List I)(h:ad)(v:I)(E:ad):Prop:=h3 all t O=j Q/\((mZ t O=j v/\E=h)\/∃g args fn,fr t O=j (g,args)/\P.funcs[g]? =j fn/\(fn.body.isNone=R/\(fn.name== "runtime.NumGoroutine")=R)/\AC P g args h (.inr v,E))
inductive n7(P:cu)(T:gZ)(f:cH)(all:Array bb):List (bb×List bb)->List I->ad->Option I->List I->ad->Prop
 |nil (t:List I) (h:ad):n7 P T f all [] t h Z t h
 |step (q:bb×List bb) (l:List (bb×List bb)) (t:List I) (h:ad) (t1:List I) (F:ad) (e:Option I) (cM:List I) (E:ad):
   w' P T f all q t h t1 F->n7 P T f all l t1 F e cM E->n7 P T f all (q::l) t h e cM E
 |stop (q:bb×List bb) (l:List (bb×List bb)) (t:List I) (h:ad) (v:I) (E:ad):yE P all q.1 t h v E->n7 P T f all (q::l) t h (j v) t E
theorem n7.trace{P:cu}{T:gZ}{f:cH}{all:Array bb}{l:List (bb×List bb)}{t:List I}{h:ad}{e:Option I}{cM:List I}{E:ad}(hp:n7 P T f all l t h e cM E):∃(N:Nat) (bX:Nat->List I) (az:Nat->ad),N<=l.length/\bX 0=t/\az 0=h/\bX N=cM/\(∀i q,i<N->l[i]? =j q->w' P T f all q (bX i) (az i) (bX (i+1)) (az (i+1)))/\(match e with|none=>N=l.length/\az N=E|some v=>∃q,l[N]? =j q/\yE P all q.1 (bX N) (az N) v E):=by
 induction hp with
 |nil t h=>exact⟨0,λ_=>t,λ_=>h,bS _,rfl,rfl,rfl,λi q ae=>by omega,rfl,rfl⟩
 |step q l t h t1 F e cM E bJ _ aW=>
   obtain⟨N,bX,az,n8,J,af,aB,bw,cc⟩:=aW;refine⟨N+1,fun|0=>t|i+1=>bX i,fun|0=>h|i+1=>az i,by simpa using n8,rfl,rfl,aB,λi hi ae aE=>?_,?_⟩
   ·cases i with
    |zero=>simp only[qT,hg]at aE;subst aE;show w' P T f all q t h (bX 0) (az 0);rw[J,af];exact bJ
    |succ i=>simp only[List.getElem?_cons_succ]at aE;exact bw i hi (by omega) aE
   ·cases e with
    |none=>exact⟨by simp[cc.1],cc.2⟩
    |some v=>obtain⟨hi,aE,E7⟩:=cc;exact⟨hi,by simpa using aE,E7⟩
 |stop q l t h v E bJ=>exact⟨0,λ_=>t,λ_=>h,hK _,rfl,rfl,rfl,λi q ae=>by omega,q,rfl,bJ⟩
section
variable(all:Array bb)(pl:List (Nat×List Nat))
def e2(i:Nat):bb:=all.getD i default
def de(k:Nat):Nat:=(pl.getD k default).1
def sS(k:Nat):List Nat:=(pl.getD k default).2
def cS(k:Nat):bb:=e2 all (de pl k)
def uc(all:Array bb)(dp:Nat->Nat->Prop)(i D:Nat):Prop:=ln (mA all) i D=Q\/dp i D
structure sT(cI:aU->Bool)(dp:Nat->Nat->Prop):Prop where
 cover:∀i,i<all.size->∃k,k<pl.length/\de pl k=i
 lt:∀k,k<pl.length->de pl k<all.size
 self:∀k d,k<pl.length->(cS all pl k).dst=j d->d ∉ (cS all pl k).looksAt all
 Ak:∀D,D<all.size->∀e∈(e2 all D).after,kv .any e=Q->e.on<D
 mask:∀D i,D<all.size->i<all.size->ln (mA all) i D=Q->∃e∈(e2 all D).after,kv .any e=Q/\(e.on=i\/ln (mA all) i e.on=Q)
 ne:∀i D,i<D->D<pl.length->de pl i≠de pl D
 still:∀i D,i<D->D<pl.length->sD cI (cS all pl i)=Q\/tN cI (cS all pl D)=Q\/uc all dp (de pl i) (de pl D)
 load:∀i D,i<D->D<pl.length->sD cI (cS all pl D)=Q\/sC (cS all pl i)=R\/uc all dp (de pl i) (de pl D)\/de pl i∈sS pl D
 dst:∀i D d,i<D->D<pl.length->(cS all pl D).dst=j d->d ∉ (cS all pl i).looksAt all/\(cS all pl i).dst≠j d
 data:∀i D d,i<D->D<pl.length->(cS all pl i).dst=j d->d∈(cS all pl D).looksAt all->uc all dp (de pl i) (de pl D)
structure vE(cI:aU->Bool)(dp:Nat->Nat->Prop):Prop where
 size:pl.length<=all.size
 cover:∀i,i<pl.length->∃k,k<pl.length/\de pl k=i
 lt:∀k,k<pl.length->de pl k<pl.length
 self:∀k d,k<pl.length->(cS all pl k).dst=j d->d ∉ (cS all pl k).looksAt all
 Ak:∀D,D<all.size->∀e∈(e2 all D).after,kv .any e=Q->e.on<D
 mask:∀D i,D<all.size->i<all.size->ln (mA all) i D=Q->∃e∈(e2 all D).after,kv .any e=Q/\(e.on=i\/ln (mA all) i e.on=Q)
 ne:∀i D,i<D->D<pl.length->de pl i≠de pl D
 still:∀i D,i<D->D<pl.length->sD cI (cS all pl i)=Q\/tN cI (cS all pl D)=Q\/uc all dp (de pl i) (de pl D)
 load:∀i D,i<D->D<pl.length->sD cI (cS all pl D)=Q\/sC (cS all pl i)=R\/uc all dp (de pl i) (de pl D)\/de pl i∈sS pl D
 dst:∀i D d,i<D->D<pl.length->(cS all pl D).dst=j d->d ∉ (cS all pl i).looksAt all/\(cS all pl i).dst≠j d
 data:∀i D d,i<D->D<pl.length->(cS all pl i).dst=j d->d∈(cS all pl D).looksAt all->uc all dp (de pl i) (de pl D)
end
theorem Od(cI:aU->Bool)(all:Array bb)(M:Array Nat):∀(pl:List (Nat×List Nat)),EO cI all M pl=Q->∀i D,i<D->D<pl.length->Iy cI all M (pl.getD i default) (pl.getD D default)=Q
 |[],_,i,D,_,aa=>by simp at aa
 |x::r,hp,i,D,gR,aa=>by
   simp only[EO,h8,iC]at hp;obtain⟨D,rfl⟩:∃rI,D=rI+1:=⟨D - 1,by omega⟩;have di:D<r.length:=by simpa using aa
   cases i with
   |zero=>have:r[D]∈r:=hf di;have:=hp.1 _ this;simpa[dm,di]using this
   |succ i=>have:=Od cI all M r hp.2 i D (by omega) di;simpa[dm]using this
theorem al4{n:Nat}{cI:aU->Bool}{all:Array bb}{pl:List (Nat×List Nat)}(aq:n<=all.size)(hp:Iz n cI all pl=Q):pl.length=n/\vE all pl cI λ_ _=>False:=by
 unfold Iz at hp;simp only[h8]at hp;obtain⟨⟨⟨⟨⟨⟨am,F⟩,J⟩,xa⟩,af⟩,aB⟩,bw⟩:=hp;have am:pl.length=n:=by simpa using am
 rw[iC]at F J xa af;have ud:∀k,k<pl.length->pl.getD k default∈pl:=λk ab=>by simp only[dm,gd ab,ns];exact hf ab
 have lS:∀i D,i<D->D<pl.length->_:=λi D gR aa=>Od cI all (mA all) pl bw i D gR aa;unfold Iy at lS;simp only[h8,bne_iff_ne,ne_eq]at lS;refine⟨am,by omega,λi ae=>?_,λk ab=>?_,λk d ab a1 gt=>?_,λD aa e he ag=>?_,λD i aa ae oU=>?_,λi D gR aa=>?_,λi D gR aa=>?_,λi D gR aa=>?_,λi D d gR aa a1=>?_,λi D d gR aa a1 gt=>?_⟩
 ·have:=F i (j8.2 (by omega));rw[List.any_eq_true]at this;obtain⟨q,aE,h⟩:=this;obtain⟨k,ab,rfl⟩:=List.getElem_of_mem aE;exact⟨k,ab,by simpa[de,dm,ab]using h⟩
 ·have:=J _ (ud k ab);have:=of_decide_eq_true this;rw[am];exact this
 ·have:=xa _ (ud k ab);unfold cS e2 de at a1 gt;rw[a1]at this;simp only[h9,List.getD_eq_getElem?_getD]at gt this;simp[rJ,gt]at this
 ·have:=af D (j8.2 aa);rw[Array.all_eq_true']at this;have:=this e he;simpa[ag]using this
 ·unfold Cp at aB;rw[iC]at aB;have:=aB D (j8.2 aa);rw[iC]at this;have:=this i (j8.2 ae);rw[oU]at this;simp only[Bool.not_true,Bool.false_or]at this;rw[Option.any_eq_true]at this;obtain⟨O,au,cc⟩:=this;rw[Array.any_eq_true']at cc;obtain⟨e,he,cQ⟩:=cc;simp only[h8,decide_eq_true_eq,qg,beq_iff_eq]at cQ;refine⟨e,?_,cQ.1.1,cQ.2⟩;have:e2 all D=O:=by simp[e2,h9,au]
  rw[this];exact he
 ·exact(lS i D gR aa).1.1.1.1.1.1
 ·have:=(lS i D gR aa).1.1.1.2;have:(sD cI (cS all pl i)=Q\/tN cI (cS all pl D)=Q)\/ln (mA all) (de pl i) (de pl D)=Q:=by simpa[cS,e2,de]using this
  exact this.elim (λh=>h.imp id .inl) λh=>.inr (.inr (.inl h))
 ·have:=(lS i D gR aa).1.1.2;simp only[qg,Bool.not_eq_true',rJ,decide_eq_true_eq]at this;unfold cS e2 de sS;rcases this with((h|h)|h)|h
  ·exact .inl h
  ·exact .inr (.inl h)
  ·exact .inr (.inr (.inl (.inl h)))
  ·exact .inr (.inr (.inr h))
 ·have:=(lS i D gR aa).1.2;unfold cS e2 de at a1 ⊢;rw[a1]at this;simpa[rJ]using this
 ·have:=(lS i D gR aa).2;unfold cS e2 de at a1 gt;rw[a1]at this;simp only[h9,List.getD_eq_getElem?_getD]at gt this;exact .inl (by simpa[rJ,gt,de]using this)
open Go Go.RowKit
theorem VR{l m:List Nat}(h:l.Nodup)(az:∀x∈l,x∈m):l.length<=m.length:=by
 induction l generalizing m with
 |nil=>simp
 |cons x l aW=>
   have an:=az x (by simp);rw[List.nodup_cons]at h;have J:∀y∈l,y∈m.erase x:=λy bq=>by have xb:=az y (by simp[bq]);refine(List.mem_erase_of_ne ?_).2 xb;rintro rfl;exact h.1 bq
   have:=aW h.2 J;rw[List.length_erase_of_mem an]at this;have:0<m.length:=List.length_pos_of_mem an;simp only[dw];omega
theorem sT.len{cI:aU->Bool}{dp:Nat->Nat->Prop}{all:Array bb}{pl:List (Nat×List Nat)}(pp:sT all pl cI dp):pl.length=all.size:=by
 have ep:((iO pl.length).map (de pl)).Nodup:=by rw[List.Nodup,List.pairwise_map];refine List.Pairwise.imp_of_mem ?_ List.pairwise_lt_range;intro a b _ ag vF;exact pp.ne a b vF (j8.1 ag)
 have F:=VR ep (m:=iO all.size) λx an=>by obtain⟨k,ab,rfl⟩:=lR.1 an;exact j8.2 (pp.lt k (j8.1 ab))
 have J:=VR (l:=iO all.size) List.nodup_range (m:=(iO pl.length).map (de pl)) λx an=>by obtain⟨k,ab,e⟩:=pp.cover x (j8.1 an);exact lR.2 ⟨k,j8.2 ab,e⟩
 simp at F J;omega
theorem sT.toQ{cI:aU->Bool}{dp:Nat->Nat->Prop}{all:Array bb}{pl:List (Nat×List Nat)}(pp:sT all pl cI dp):vE all pl cI dp:=by have ai:=pp.len;exact⟨by omega,λi ae=>pp.cover i (by omega),λk ab=>by have:=pp.lt k ab;omega,pp.self,pp.Ak,pp.mask,pp.ne,pp.still,pp.load,pp.dst,pp.data⟩
theorem al5{cI:aU->Bool}{all:Array bb}{pl:List (Nat×List Nat)}(hp:Nr cI all pl=Q):sT all pl cI λ_ _=>False:=by
 unfold Nr at hp;simp only[h8]at hp;obtain⟨⟨⟨⟨F,J⟩,af⟩,aB⟩,bw⟩:=hp;rw[iC]at F J af;have ud:∀k,k<pl.length->pl.getD k default∈pl:=λk ab=>by simp only[dm,gd ab,ns];exact hf ab
 have lS:∀i D,i<D->D<pl.length->_:=λi D gR aa=>Od cI all (mA all) pl bw i D gR aa;unfold Iy at lS;simp only[h8,bne_iff_ne,ne_eq]at lS;refine⟨λi ae=>?_,λk ab=>?_,λk d ab a1 gt=>?_,λD aa e he ag=>?_,λD i aa ae oU=>?_,λi D gR aa=>?_,λi D gR aa=>?_,λi D gR aa=>?_,λi D d gR aa a1=>?_,λi D d gR aa a1 gt=>?_⟩
 ·have:=F i (j8.2 ae);rw[List.any_eq_true]at this;obtain⟨q,aE,h⟩:=this;obtain⟨k,ab,rfl⟩:=List.getElem_of_mem aE;exact⟨k,ab,by simpa[de,dm,ab]using h⟩
 ·have:=J _ (ud k ab);simp only[h8,decide_eq_true_eq]at this;exact this.1
 ·have:=J _ (ud k ab);simp only[h8,decide_eq_true_eq]at this;have:=this.2;unfold cS e2 de at a1 gt;rw[a1]at this;simp only[h9,List.getD_eq_getElem?_getD]at gt this;simp[rJ,gt]at this
 ·have:=af D (j8.2 aa);rw[Array.all_eq_true']at this;have:=this e he;simpa[ag]using this
 ·unfold Cp at aB;rw[iC]at aB;have:=aB D (j8.2 aa);rw[iC]at this;have:=this i (j8.2 ae);rw[oU]at this;simp only[Bool.not_true,Bool.false_or]at this;rw[Option.any_eq_true]at this;obtain⟨O,au,cc⟩:=this;rw[Array.any_eq_true']at cc;obtain⟨e,he,cQ⟩:=cc;simp only[h8,decide_eq_true_eq,qg,beq_iff_eq]at cQ;refine⟨e,?_,cQ.1.1,cQ.2⟩;have:e2 all D=O:=by simp[e2,h9,au]
  rw[this];exact he
 ·exact(lS i D gR aa).1.1.1.1.1.1
 ·have:=(lS i D gR aa).1.1.1.2;have:(sD cI (cS all pl i)=Q\/tN cI (cS all pl D)=Q)\/ln (mA all) (de pl i) (de pl D)=Q:=by simpa[cS,e2,de]using this
  exact this.elim (λh=>h.imp id .inl) λh=>.inr (.inr (.inl h))
 ·have:=(lS i D gR aa).1.1.2;simp only[qg,Bool.not_eq_true',rJ,decide_eq_true_eq]at this;unfold cS e2 de sS;rcases this with((h|h)|h)|h
  ·exact .inl h
  ·exact .inr (.inl h)
  ·exact .inr (.inr (.inl (.inl h)))
  ·exact .inr (.inr (.inr h))
 ·have:=(lS i D gR aa).1.2;unfold cS e2 de at a1 ⊢;rw[a1]at this;simpa[rJ]using this
 ·have:=(lS i D gR aa).2;unfold cS e2 de at a1 gt;rw[a1]at this;simp only[h9,List.getD_eq_getElem?_getD]at gt this;exact .inl (by simpa[rJ,gt,de]using this)
open Go Go.RowKit
def xc(fA:List I)(O:bb)(v:I):Prop:=∀d,O.dst=j d->d<fA.length->fA.getD d .aD=v
def yF(P:cu)(T:gZ)(f:cH)(all:Array bb)(fA:List I)(O:bb)(h:ad):Prop:=nA (T.ba f) O=Q/\((h3 all fA O=j R/\xc fA O (.bx []))\/(h3 all fA O=j Q/\∃v,fi P (T.ba f) fA h O=j (v,h)/\xc fA O v))
theorem Oe{t:List I}{d:Option Tmp}{v:I}:(eU t d v).length=t.length:=by cases d<;>simp[eU]
theorem CE{t:List I}{d:Option Tmp}{v:I}{D:Nat}(h:d≠j D):(eU t d v).getD D .aD=t.getD D .aD:=by
 cases d with
 |none=>rfl
 |some d=>have:d≠D:=λe=>h (by rw[e]);simp[eU,dm,List.getElem?_set_ne this]
theorem I2{t:List I}{d:Option Tmp}{v:I}{D:Nat}(h:d=j D)(aa:D<t.length):(eU t d v).getD D .aD=v:=by subst h;simp[eU,dm,aa]
section
variable{P:cu}{T:gZ}{f:cH}{all:Array bb}{pl:List (Nat×List Nat)}{cI:aU->Bool}{dp:Nat->Nat->Prop}{N:Nat}{bX:Nat->List I}{az:Nat->ad}
structure lT(P:cu)(T:gZ)(f:cH)(all:Array bb)(pl:List (Nat×List Nat))(cI:aU->Bool)(dp:Nat->Nat->Prop)(N:Nat)(bX:Nat->List I)(az:Nat->ad):Prop where
 ch:vE all pl cI dp
 le:N<=pl.length
 E6:∀ty,cI (ty+2000000)=Q->T.ba f ty=R/\T.ba f (ty+1000000)=Q
 step:∀k,k<N->w' P T f all (cS all pl k,(sS pl k).map (e2 all)) (bX k) (az k) (bX (k+1)) (az (k+1))
theorem w'.put{q:bb×List bb}{t cM:List I}{h E:ad}(az:w' P T f all q t h cM E):∃v,cM=eU t q.1.dst v:=by
 rcases az with⟨_,F,_⟩|⟨_,v,_,F,_⟩
 ·exact⟨_,F⟩
 ·exact⟨_,F⟩
theorem lT.len(cb:lT P T f all pl cI dp N bX az):∀k,k<=N->(bX k).length=(bX N).length:=by
 have:∀d k,k+d=N->(bX k).length=(bX N).length:=by
  intro d;induction d with
  |zero=>intro k ab;rw[<-ab];rfl
  |succ d aW=>intro k ab;rw[<-aW (k+1) (by omega)];obtain⟨v,U⟩:=(cb.step k (by omega)).put;rw[U,Oe]
 exact λk ab=>this (N - k) k (by omega)
theorem lT.fs(cb:lT P T f all pl cI dp N bX az)(d:Nat):∀c8 n,c8+n<=N->(∀D,c8<=D->D<c8+n->(cS all pl D).dst≠j d)->(bX (c8+n)).getD d .aD=(bX c8).getD d .aD:=by
 intro c8 n;induction n with
 |zero=>intro _ _;rfl
 |succ n aW=>intro hle pi;rw[<-aW (by omega) (λD F J=>pi D F (by omega))];obtain⟨v,U⟩:=(cb.step (c8+n) (by omega)).put;rw[<-p0,U];exact CE (pi (c8+n) (by omega) (by omega))
theorem vE.after(pp:vE all pl cI dp){k d:Nat}(ab:k<pl.length)(a1:d∈(cS all pl k).looksAt all){D:Nat}(F:k<=D)(J:D<pl.length):(cS all pl D).dst≠j d:=by
 intro he;rcases oI k D with h|h
 ·exact(pp.dst k D d h J he).1 a1
 ·obtain rfl:k=D:=by omega
  exact pp.self k d ab he a1
theorem lT.look(cb:lT P T f all pl cI dp N bX az){k:Nat}(ab:k<=N)(Al:k<pl.length){i:Nat}(Vg:k<=i)(ae:i<=N):∀d∈(cS all pl k).looksAt all,(bX i).getD d .aD=(bX N).getD d .aD:=by intro d a1;have:=cb.fs d i (N - i) (by omega) (λD F J=>cb.ch.after Al a1 (by omega) (by have:=cb.le;omega));rw[show i+(N - i)=N by omega]at this;exact this.symm
theorem lT.res(cb:lT P T f all pl cI dp N bX az){k:Nat}(ab:k<N){v:I}(U:bX (k+1)=eU (bX k) (cS all pl k).dst v):xc (bX N) (cS all pl k) v:=by intro d a1 bt;have ai:=cb.le;have:=cb.fs d (k+1) (N - (k+1)) (by omega) (λD F J he=>(cb.ch.dst k D d (by omega) (by omega) he).2 a1);rw[show k+1+(N - (k+1))=N by omega]at this;rw[this,U];exact I2 a1 (by rw[cb.len k (by omega)];exact bt)
theorem lT.at(cb:lT P T f all pl cI dp N bX az){k:Nat}(ab:k<N):(h3 all (bX N) (cS all pl k)=j R/\xc (bX N) (cS all pl k) (.bx [])/\az (k+1)=az k)\/(h3 all (bX N) (cS all pl k)=j Q/\∃v,Aj P T f (bX N) (az k) (cS all pl k) v (az (k+1))/\xc (bX N) (cS all pl k) v/\pt P all (bX (k+1)) (az (k+1)) ((sS pl k).map (e2 all))):=by
 have ai:=cb.le;have rK:=cb.look (k:=k) (by omega) (by omega) (bS k) (by omega);rcases cb.step k ab with⟨F,J,af⟩|⟨F,v,J,af,aB⟩
 ·exact .inl ⟨by rw[<-I1 rK];exact F,cb.res ab J,af⟩
 ·refine .inr ⟨by rw[<-I1 rK];exact F,v,?_,cb.res ab af,aB⟩;rcases J with⟨a6,c2⟩|⟨g,args,fn,a6,c2⟩
  ·exact .inl ⟨by rw[<-Oa rK];exact a6,by rw[<-VN (T.ba f) rK];exact c2⟩
  ·exact .inr ⟨g,args,fn,by rw[<-Oa rK];exact a6,c2⟩
theorem al6{t:List I}(az:m0 O=Q):fr t O=Z:=by
 unfold fr;split
 ·rename_i au;simp[m0,au]at az
 ·rfl
theorem VS{ba:aU->Bool}{t:List I}(az:nA ba O=Q):fr t O=Z:=by
 rcases Ob az with az|⟨ty,len,parts,au,_⟩
 ·exact al6 az
 ·simp[fr,au]
theorem Aj.still{t:List I}{h E:ad}{v:I}(au:Aj P T f t h O v E)(az:nA (T.ba f) O=Q):fi P (T.ba f) t h O=j (v,h)/\E=h:=by
 rcases au with⟨_,J⟩|⟨g,args,fn,F,_⟩
 ·have:=al2 (T.ba f) az J;subst this;exact⟨J,rfl⟩
 ·rw[VS az]at F;cases F
theorem lT.same(cb:lT P T f all pl cI dp N bX az){k:Nat}(ab:k<N)(bJ:nA (T.ba f) (cS all pl k)=Q):az (k+1)=az k:=by
 rcases cb.at ab with⟨_,_,h⟩|⟨_,v,h,_⟩
 ·exact h
 ·exact(h.still bJ).2
theorem lT.late(cb:lT P T f all pl cI dp N bX az){k:Nat}(ab:k<N)(bJ:nA (T.ba f) (cS all pl k)=Q):yF P T f all (bX N) (cS all pl k) (az k):=by
 refine⟨bJ,?_⟩;rcases cb.at ab with⟨F,J,_⟩|⟨F,v,J,af,_⟩
 ·exact .inl ⟨F,J⟩
 ·exact .inr ⟨F,v,(J.still bJ).1,af⟩
theorem VT{ba:aU->Bool}{t:List I}{h:ad}{O:bb}:∀{l:List bb},nA ba O=Q->pt P all t h l->O∈l->h3 all t O=j Q->∃ty a d,O.op= .load ty a/\O.dst=j d/\cO (j3 P ty) (c' P ty) h (bA t a)=j (t.getD d .aD)
 |x::l,bJ,al,hm,hw=>by
   unfold pt at al;rcases gW.1 hm with rfl|hm
   ·have:=al.1;rw[hw]at this;simp only at this;split at this
    ·rename_i ty a d F J;exact⟨ty,a,d,F,J,this⟩
    ·rename_i F _;simp[nA,m0,F]at bJ
    ·exact this.elim
   ·exact VT bJ al.2 hm hw
theorem lT.ET(cb:lT P T f all pl cI dp N bX az){i k:Nat}(al7:i<k)(ab:k<N)(hp:¬uc all dp (de pl i) (de pl k))(ai:yF P T f all (bX N) (cS all pl i) (az k)):yF P T f all (bX N) (cS all pl i) (az (k+1)):=by
 have hle:=cb.le;by_cases bJ:nA (T.ba f) (cS all pl k)=Q
 ·rw[cb.same ab bJ];exact ai
 obtain⟨b5,ca⟩:=ai;refine⟨b5,?_⟩;rcases ca with ca|⟨ca,v,dK,kM⟩
 ·exact .inl ca
 refine .inr ⟨ca,?_⟩;rcases cb.ch.load i k al7 (by omega)with h|h|h|h
 ·exact absurd (Oc cb.E6 h) bJ
 ·exact⟨v,al3 (T.ba f) b5 h dK _,kM⟩
 ·exact absurd h hp
 ·rcases cb.at ab with⟨_,_,af⟩|⟨_,bg,_,_,pB⟩
  ·rw[af];exact⟨v,dK,kM⟩
  ·have rK:=cb.look (k:=i) (i:=k+1) (by omega) (by omega) (by omega) (by omega);obtain⟨ty,a,d,av,ax,bs⟩:=VT b5 pB (O:=cS all pl i) (lR.2 ⟨_,h,rfl⟩) (by rw[I1 rK];exact ca);have al8:bA (bX (k+1)) a=bA (bX N) a:=I0 rK a (by simp[av,hW]);have Cx:(bX (k+1)).getD d .aD=(bX N).getD d .aD:=by have:=cb.fs d (k+1) (N - (k+1)) (by omega) (λD F J he=>(cb.ch.dst i D d (by omega) (by omega) he).2 ax);rw[show k+1+(N - (k+1))=N by omega]at this;exact this.symm
   refine⟨(bX N).getD d .aD,?_,λnB m5 _=>?_⟩
   ·unfold fi at dK ⊢;simp only[av]at dK ⊢;split at dK
    ·cases dK
    ·rename_i aq;rw[if_neg aq,<-al8,bs,Cx];rfl
   ·rw[ax]at m5;injection m5 with m5;rw[m5]
end
open Go Go.RowKit
section
variable{P:cu}{T:gZ}{f:cH}{all:Array bb}{pl:List (Nat×List Nat)}{cI:aU->Bool}{dp:Nat->Nat->Prop}{N:Nat}{bX:Nat->List I}{az:Nat->ad}
 {m aZ:dq} {h E:ad} {w aJ:cd} {t fA:List I} {a:Act} {b:eO} {cs:List eO} {K:List Item} {r:h4×List I×ad}
def qU(all:Array bb)(pl:List (Nat×List Nat))(li:Array Bool)(p:Nat)(d:Nat):Prop:=∀k,k<pl.length->(cS all pl k).dst=j d->li.getD (de pl k) R=Q/\k<p
open Classical in
noncomputable def oV(all:Array bb)(pl:List (Nat×List Nat))(li:Array Bool)(p:Nat)(fA:List I):List I:=(iO fA.length).map λd=>if qU all pl li p d then fA.getD d .aD else .aD
theorem mG{li:Array Bool}{p:Nat}:(oV all pl li p fA).length=fA.length:=by simp[oV]
theorem sU{li:Array Bool}{p d:Nat}(aj:qU all pl li p d):(oV all pl li p fA).getD d .aD=fA.getD d .aD:=by
 by_cases a1:d<fA.length
 ·simp[oV,dm,a1,aj]
 ·simp[oV,dm,a1]
theorem CF{li:Array Bool}{p d:Nat}(aj:¬qU all pl li p d):(oV all pl li p fA).getD d .aD= .aD:=by
 by_cases a1:d<fA.length
 ·simp[oV,dm,a1,aj]
 ·simp[oV,dm,a1]
theorem al9{li Of:Array Bool}{p hQ:Nat}(h:∀d,qU all pl li p d↔qU all pl Of hQ d):oV all pl li p fA=oV all pl Of hQ fA:=by
 unfold oV;congr 1;funext d;by_cases aj:qU all pl li p d
 ·rw[if_pos aj,if_pos ((h d).1 aj)]
 ·rw[if_neg aj,if_neg λx=>aj ((h d).2 x)]
theorem dF.of{aZ:dq}{E:ad}{cM:List I}{aS:Array bH}(ai:aS.size=cM.length)(U:∀d,d<cM.length->bF P aZ E (cM.getD d .aD) (aS.getD d fy)):dF P aZ E cM aS:=by refine⟨ai,λi ae=>?_⟩;have:=U i ae;simpa[dm,ae]using this
theorem dF.slot{aZ:dq}{E:ad}{cM:List I}{aS:Array bH}(aO:dF P aZ E cM aS){d:Nat}(a1:d<cM.length):bF P aZ E (cM.getD d .aD) (aS.getD d fy):=by have:=aO.2 d a1;simpa[dm,a1]using this
theorem Act.Og{a:Act}{d:Option Tmp}{D:Nat}(h:d≠j D):(a.put d u).tmps.getD D fy=a.tmps.getD D fy:=by
 cases d with
 |none=>rfl
 |some d=>have:d≠D:=λe=>h (by rw[e]);simp[px,h9,Array.getElem?_setIfInBounds_ne this]
theorem kz{li:Array Bool}{i D:Nat}(ae:i<li.size):(li.setIfInBounds i Q).getD D R=if D=i then Q else li.getD D R:=by
 by_cases aa:D=i
 ·subst aa;simp[h9,ae]
 ·simp[h9,aa,Array.getElem?_setIfInBounds_ne (lo aa)]
theorem al'(pp:vE all pl cI dp){li:Array Bool}{p hQ k:Nat}(ab:k<pl.length)(ama:de pl k<li.size)(ue:p<=hQ)(pi:∀D,p<=D->D<hQ->D≠k->li.getD (de pl D) R=R)(x:Ext m h aZ E)(aO:dF P m h (oV all pl li p fA) a.tmps){v:I}(U:bF P aZ E v u)(kl:xc fA (cS all pl k) v):dF P aZ E (oV all pl (li.setIfInBounds (de pl k) Q) hQ fA) (a.put (cS all pl k).dst u).tmps:=by
 have F:=(aO.ext x).put (a:=a) U (cS all pl k).dst;have hlen:(a.put (cS all pl k).dst u).tmps.size=fA.length:=by rw[F.1,Oe,mG]
 refine dF.of (by rw[hlen,mG]) λd a1=>?_;have m5:d<fA.length:=by rw[mG]at a1;exact a1
 have J:=F.slot (d:=d) (by rw[Oe,mG];exact m5);by_cases aj:qU all pl (li.setIfInBounds (de pl k) Q) hQ d
 ·rw[sU aj];by_cases he:(cS all pl k).dst=j d
  ·rw[I2 he (by rw[mG];exact m5)]at J;rw[kl d he m5];exact J
  ·rw[CE he,sU (λD aa Am=>?_)]at J
   ·exact J
   ·obtain⟨b0,bK⟩:=aj D aa Am;rw[kz ama]at b0;have kA:D≠k:=λe=>he (by rw[<-e];exact Am);have cP:de pl D≠de pl k:=by
     intro e;rcases Nat.lt_trichotomy D k with h|h|h
     ·exact pp.ne D k h ab e
     ·exact kA h
     ·exact pp.ne k D h aa e.symm
    rw[if_neg cP]at b0;refine⟨b0,?_⟩;rcases oI D p with h|h
    ·exact h
    ·rw[pi D h bK kA]at b0;cases b0
 ·rw[CF aj];exact .aD _
theorem Oh(pp:vE all pl cI dp){li:Array Bool}(lp:∀D,D<pl.length->li.getD D R=Q->∀e∈(e2 all D).after,kv .any e=Q->li.getD e.on R=Q):∀D,D<pl.length->(∀e∈(e2 all D).after,kv .any e=Q->li.getD e.on R=Q)->∀i,i<pl.length->ln (mA all) i D=Q->li.getD i R=Q:=by
 intro D;induction D using Nat.strongRecOn with
 |ind D aW=>
   intro aa he i ae hp;obtain⟨e,av,ax,bs⟩:=pp.mask D i (by have:=pp.size;omega) (by have:=pp.size;omega) hp;have bt:=pp.Ak D (by have:=pp.size;omega) e av ax;rcases bs with bs|bs
   ·rw[<-bs];exact he e av ax
   ·exact aW e.on bt (by omega) (lp e.on (by omega) (he e av ax)) i ae bs
theorem vG{i:Nat}(ae:i<all.size):all[i]? =j (e2 all i):=by simp[e2,ae]
theorem Act.CG(a:Act)(x:Option Tmp)(v:bH):(a.put x v).defers=a.defers:=by cases x<;>rfl
theorem amb(pp:vE all pl cI dp){li:Array Bool}{p k:Nat}(ab:k<pl.length)(lU:k<=p)(oU:∀D,D<pl.length->uc all dp (de pl D) (de pl k)->li.getD (de pl D) R=Q):∀d∈(cS all pl k).looksAt all,(oV all pl li p fA).getD d .aD=fA.getD d .aD:=by
 intro d a1;refine sU λD aa Am=>?_;rcases oI D k with h|h
 ·exact⟨oU D aa (pp.data D k d h ab Am a1),by omega⟩
 ·exact absurd Am (pp.after ab a1 h aa)
def dq.fF(m:dq)(ao:Nat->Option Obj):dq:={m with fo:=ao}
theorem bF.fF{ao:Nat->Option Obj}{v:I}{u:bH}(r:bF P m h v u):bF P (m.fF ao) h v u:=by
 induction r with
 |aD v=>exact .aD v
 |bool b=>exact .bool b
 |int k n=>exact .int k n
 |str l=>exact .str l
 |fx=>exact .fx
 |ptr b i off ag=>exact bF.ptr (m:=m.fF ao) b i off ag
 |cF t b ag aO=>exact bF.cF (m:=m.fF ao) t b ag aO
 |ip e off g O ah ae U aW=>exact bF.ip (m:=m.fF ao) e off g O ah ae aW
 |aC=>exact .aC
 |bN id e es g O cap ah ai ae U al aO aW=>exact bF.bN (m:=m.fF ao) id e es g O cap ah ai ae aW al aO
 |mB e a cap=>exact .mB e a cap
 |br b O n e cap ag he jt aq ju=>exact bF.br (m:=m.fF ao) b O n e cap ag he jt aq ju
 |fn g l c b8 gy F J af aB tT yw=>exact .fn g l c b8 gy F J tT yw
 |nu=>exact .nu
 |fC=>exact .fC
 |iface t v bg F aW=>exact .iface t v bg aW
 |agg l b8 F af aW=>exact .agg l b8 F aW
 |bx l b8 F af aW=>exact .bx l b8 F aW
theorem dF.fF{ao:Nat->Option Obj}{rB:Array bH}(r:dF P m h t rB):dF P (m.fF ao) h t rB:=⟨r.1,λi ae=>(r.2 i ae).fF⟩
theorem Ext.fF(x:Ext m h aZ E)(ao:Nat->Option Obj):Ext (m.fF ao) h (aZ.fF ao) E:=⟨x.base,x.n,x.ids,x.b1,x.dI,x.kY,λ_ _ h=>h⟩
theorem bF.by{ao:Nat->Option Obj}(x:Ext (m.fF ao) h (aZ.fF ao) E){v:I}(r:bF P m h v u):bF P aZ E v u:=((r.fF (ao:=ao)).ext x).fF (ao:=aZ.fo)
theorem bW.fF(hw:bW P m h w){ao:Nat->Option Obj}(fZ:∀g x,ao g=j x->m.fo g=j x):bW P (m.fF ao) h w where
 size:=hw.size
 lt:=hw.lt
 live:=λb es ag=>by obtain⟨cs,F,J,af,aB,bw⟩:=hw.live b es ag;exact⟨cs,F,J,af,aB,λi ae D aa=>by obtain⟨v,a,b⟩:=bw i ae D aa;exact⟨v,a,b.fF⟩⟩
 inj:=hw.inj
 dI:=hw.dI
 sep:=hw.sep
 oP:=hw.oP
 nw:=hw.nw
 l9:=hw.l9
 nY:=hw.nY
 dg:=hw.dg
 fo:=λg x an=>hw.fo g x (fZ g x an)
theorem bW.aD(hw:bW P m h w)(O:Obj):bW P (m.fF λg=>if g=w.heap.size then j O else m.fo g) h (w.alloc O):=by
 have ft:=hw.new ((ci.refl _ w).alloc O);refine{ft with live:=λb es ag=>?_,fo:=λg x an=>?_}
 ·obtain⟨cs,F,J,af,aB,bw⟩:=ft.live b es ag;exact⟨cs,F,J,af,aB,λi ae D aa=>by obtain⟨v,a,b⟩:=bw i ae D aa;exact⟨v,a,b.fF⟩⟩
 ·have an:(if g=w.heap.size then j O else m.fo g)=j x:=an;by_cases e:g=w.heap.size
  ·rw[if_pos e]at an;injection an with an;subst an;subst e;refine⟨hw.size,(by show(w.heap.push O)[w.heap.size]? =j O;simp),λb es ag e=>?_,λk ab e=>?_,λe6=>?_⟩
   ·have:=hw.below ag;have e:m.b1 b=w.heap.size:=e;omega
   ·have:=(hw.qO ab).2;have e:m.iB k=w.heap.size:=e;omega
   ·show m.dI w.heap.size e6=Z;rcases ae:m.dI w.heap.size e6 with _|v
    ·rfl
    ·have:=hw.p9 ae;omega
  ·rw[if_neg e]at an;exact ft.fo g x an
theorem bW.amc(hw:bW P m h w){z:Nat}{e:aU}{lq:List I}{u:Array bH}(aR:m.fo z=j (.cells u e))(bE:u.size=lq.length)(ai:lq.length=P.cellsOf e)(aj:dV P m h lq u.toList):∃aZ,(∀ao,Ext (m.fF ao) h (aZ.fF ao) (h.push [lq]))/\bW P aZ (h.push [lq]) w/\aZ.b1 h.n=z/\aZ.fI h.n=e/\aZ.fo=λg=>if g=z then Z else m.fo g:=by
 obtain⟨cJ,z2,z3,z4,z5⟩:=hw.fo z _ aR;refine⟨{m with b1:=λb=>if b=h.n then z else m.b1 b,fI:=λb=>if b=h.n then e else m.fI b,nv:=λb=>if b=h.n then u.size else m.nv b,fo:=λg=>if g=z then Z else m.fo g},?_,?_,by simp,by simp,rfl⟩
 ·exact λao=>⟨rfl,by simp[ad.push],by simp[ad.push],λb ag=>by simp[dq.fF,show b≠h.n by omega],λ_ _ _ h=>h,λk ab=>⟨rfl,bS _,λ_=>⟨rfl,rfl⟩⟩,λ_ _ h=>h⟩
 ·have an:∀ao,Ext (m.fF ao) h (dq.fF {m with b1:=λb=>if b=h.n then z else m.b1 b,fI:=λb=>if b=h.n then e else m.fI b,nv:=λb=>if b=h.n then u.size else m.nv b,fo:=λg=>if g=z then Z else m.fo g} ao) (h.push [lq]):=
   λao=>⟨rfl,by simp[ad.push],by simp[ad.push],λb ag=>by simp[dq.fF,show b≠h.n by omega],λ_ _ _ h=>h,λk ab=>⟨rfl,bS _,λ_=>⟨rfl,rfl⟩⟩,λ_ _ h=>h⟩
  have fu:∀b x,(h.push [lq]).cell b=j x->b≠h.n->h.cell b=j x:=by intro b x ag cP;simpa[ad.push,cP]using ag
  have new:∀b x,(h.push [lq]).cell b=j x->b=h.n->x=[lq]:=by intro b x ag he;subst he;simp[ad.push]at ag;exact ag.symm
  refine⟨hw.size,λb x ag=>?_,λb x ag=>?_,λb c1 x hV ag i1 he=>?_,hw.dI,λb x ag O=>?_,hw.oP,hw.nw,λk ab b x ag=>?_,hw.nY,hw.dg,λg x aa=>?_⟩
  ·by_cases hE:b=h.n
   ·subst hE;exact⟨by simp[ad.push],by simpa using cJ⟩
   ·have:=hw.lt b x (fu b x ag hE);exact⟨by simp[ad.push];omega,by simpa[hE]using this.2⟩
  ·by_cases hE:b=h.n
   ·subst hE;have:=new _ _ ag rfl;subst this;refine⟨u,by simpa[iZ]using z2,by simp,by simpa using ai,by simp;omega,λi ae D aa=>?_⟩;have gw:i=0:=by simpa using ae
    subst gw;have di:D<lq.length:=by simpa using aa
    refine⟨u[D]'(by omega),by simp,?_⟩;have:=aj.2 D di (by simp;omega);exact bF.by (an λ_=>Z) (by simpa using this)
   ·obtain⟨gA,F,J,af,aB,bw⟩:=hw.live b x (fu b x ag hE);refine⟨gA,by simpa[hE]using F,by simpa[hE]using J,by simpa[hE]using af,by simpa[hE]using aB,λi ae D aa=>?_⟩;obtain⟨v,cc,cQ⟩:=bw i ae D aa;exact⟨v,by simpa[hE]using cc,bF.by (an λ_=>Z) cQ⟩
  ·by_cases F:b=h.n<;>by_cases J:c1=h.n
   ·omega
   ·simp[F,J]at he;exact absurd he.symm (z3 _ _ (fu _ _ i1 J))
   ·simp[F,J]at he;exact absurd he (z3 _ _ (fu _ _ ag F))
   ·simp[F,J]at he;exact hw.inj b c1 x hV (fu _ _ ag F) (fu _ _ i1 J) he
  ·by_cases F:b=h.n
   ·simp only[F,if_true];exact z5 O
   ·simp only[F,if_false];exact hw.sep b x (fu _ _ ag F) O
  ·by_cases F:b=h.n
   ·simp only[F,if_true];exact λe=>z4 k ab e.symm
   ·simp only[F,if_false];exact hw.l9 k ab b x (fu _ _ ag F)
  ·have aa:(if g=z then Z else m.fo g)=j x:=aa;by_cases av:g=z
   ·rw[if_pos av]at aa;cases aa
   ·rw[if_neg av]at aa;obtain⟨aP,a2,a3,a4,a5⟩:=hw.fo g x aa;refine⟨aP,a2,λb y ag=>?_,a4,a5⟩;by_cases F:b=h.n
    ·simp only[F,if_true];exact λe=>av e.symm
    ·simp only[F,if_false];exact a3 b y (fu _ _ ag F)
def amd(P:cu)(all:Array bb)(pl:List (Nat×List Nat))(aF:Nat->Option Obj)(a:Act)(m:dq)(z k:Nat):Prop:=∃e d lq u,(cS all pl k).op= .alloc e/\(cS all pl k).guard=Z/\(cS all pl k).dst=j d/\kg P e=j lq/\u.size=lq.length/\lq.length=P.cellsOf e/\(∀m h,dV P m h lq u.toList)/\aF z=Z/\m.fo z=j (.cells u e)/\(d<a.tmps.size->a.tmps.getD d fy= .pointer (j ⟨z,0,Z⟩))
theorem Oi{cI:aU->Bool}(aq:tN cI O=Q):∃e d,O.op= .alloc e/\O.guard=Z/\O.dst=j d/\cI e=Q/\e<2000000:=by
 unfold tN at aq;split at aq
 ·rename_i e d F J af;rw[h8,decide_eq_true_eq]at aq;exact⟨e,d,F,J,af,aq⟩
 ·cases aq
theorem ame{cI:aU->Bool}{ba:aU->Bool}(aq:tN cI O=Q):nA ba O=R:=by obtain⟨e,d,F,_⟩:=Oi aq;simp[nA,m0,F]
theorem amf(gf:pw P)(O:bb)(e:aU)(au:O.op= .alloc e)(aR:kg P e=j z)(a:Act)(w:cd):∃u:Array bH,(e9 a.eval O).run P w= .ok (.value (.pointer (j ⟨w.heap.size,0,Z⟩))) (w.alloc (.cells u e))/\u.size=z.length/\z.length=P.cellsOf e/\∀m h,dV P m h z u.toList:=by obtain⟨i,v,ae,U,ai,az,aj,jM⟩:=yx (m:=⟨0,λ_=>0,λ_=>0,λ_=>0,λ_ _=>Z,λ_=>0,λ_=>0,λ_=>0,λ_=>Z⟩) (h:=⟨0,λ_=>Z,0,λ_=>0⟩) (w:=w) gf aR;refine⟨v.cells,by simp[e9,au,Instr.alloc,jM,newVar,newRow],by omega,ai,λm h=>?_⟩;obtain⟨i2,v2,hN,hO,_,_,qb,_⟩:=yx (m:=m) (h:=h) (w:=w) gf aR;rw[ae]at hN;injection hN with hN;subst hN;rw[U]at hO;injection hO with hO;rw[hO];exact qb
inductive An(n:Nat)(all:Array bb)(dp:Nat->Nat->Prop):Array Bool->List Nat->Prop
 |nil (li:Array Bool):(∀i,i<n->li.getD i R=Q)->An n all dp li []
 |cons (li:Array Bool) (i:Nat) (L:List Nat):i<n->li.getD i R=R->(∀e∈(e2 all i).after,kv .any e=Q->li.getD e.on R=Q)->(∀D,dp D i->li.getD D R=Q)->
   An n all dp (li.setIfInBounds i Q) L->An n all dp li (i::L)
abbrev ji(all:Array bb)(dp:Nat->Nat->Prop):Array Bool->List Nat->Prop:=An all.size all dp
theorem I3(vH:∀D,D<all.size->∀e∈(e2 all D).after,kv .any e=Q->e.on<D):∀(fuel u:Nat) (li:Array Bool),li.size=all.size->li.toList.countP (λx=> !x)<=fuel->ji all (λ_ _=>False) li (Region.linearise.go .any all fuel u li []):=by
 intro fuel;induction fuel with
 |zero=>
   intro u li dY bn;simp only[Region.linearise.go,List.reverse_nil];refine .nil _ λi ae=>?_;have:=List.countP_eq_zero.1 (Nat.le_zero.1 bn) (li[i]'(by omega)) (by simp);have h':i<li.size:=by omega
   simpa[h9,h']using this
 |succ fuel aW=>
   intro u li dY bn;simp only[Region.linearise.go];change ji all _ li (match(Region.ready .any all li)[u % (Region.ready .any all li).length]? with
    |some i=>Region.linearise.go .any all fuel (u / (Region.ready .any all li).length) (li.setIfInBounds i Q) [i]
    |none=>[].reverse)
   cases ae:(Region.ready .any all li)[u % (Region.ready .any all li).length]? with
   |none=>
     have Ao:Region.ready .any all li=[]:=by
      cases aj:Region.ready .any all li with
      |nil=>rfl
      |cons x xs=>rw[aj]at ae;have bt:u % (x::xs).length<(x::xs).length:=Nat.mod_lt _ (by simp);simp at ae;simp at bt;omega
     simp only[List.reverse_nil];refine .nil _ ?_;intro i;induction i using Nat.strongRecOn with
     |ind i amg=>
       intro ev;rcases an:li.getD i R with _|_
       ·have gt:i∈Region.ready .any all li:=by
         rw[mem_ready];have h':i<li.size:=by omega
         exact⟨by simpa[h9,h']using an,e2 all i,vG ev,λe he ag=>amg e.on (vH i ev e he ag) (by have:=vH i ev e he ag;omega)⟩
        rw[Ao]at gt;cases gt
       ·rfl
   |some i=>
     simp only[];rw[linearise_go_acc,List.reverse_singleton,List.singleton_append];have gt:=qV ae;rw[mem_ready]at gt;obtain⟨Ag,O,au,E8⟩:=gt;have ev:i<all.size:=(Array.getElem?_eq_some_iff.1 au).1;have qe:e2 all i=O:=by simp[e2,h9,au]
     have h':i<li.size:=by omega
     have E9:li.getD i R=R:=by simpa[h9,h']using Ag
     refine .cons _ _ _ ev E9 (by rw[qe];exact E8) (λ_ h=>h.elim) (aW _ _ (by simpa using dY) ?_);have aR:(li.toList)[i]'(by simpa using h')=R:=by simpa[h9,h']using E9
     have:=List.countP_set (p:=λx=> !x) (l:=li.toList) (i:=i) (a:=Q) (by simpa using h');simp only[aR,Bool.not_false,Bool.not_true,if_true,nx,if_false,Nat.add_zero]at this;simp only[Array.toList_setIfInBounds];omega
structure yG(P:cu)(T:gZ)(f:cH)(all:Array bb)(pl:List (Nat×List Nat))(cI:aU->Bool)(dp:Nat->Nat->Prop)(N:Nat)(bX:Nat->List I)(az:Nat->ad)(b:eO)(aF:Nat->Option Obj)(li:Array Bool)(p:Nat)(md:Nat->Nat)(m:dq)(a:Act)(w:cd):Prop where
 le:p<=N
 eE:li.size=all.size
 m6:∀D,D<pl.length->li.getD D R=Q->∀e∈(e2 all D).after,kv .any e=Q->li.getD e.on R=Q
 I4:∀D,D<pl.length->li.getD D R=Q->∀i,dp i D->li.getD i R=Q
 b5:∀k,k<pl.length->li.getD (de pl k) R=Q->k<p\/tN cI (cS all pl k)=Q
 ca:∀k,k<p->li.getD (de pl k) R=R->yF P T f all (bX N) (cS all pl k) (az p)
 dK:∀k,p<=k->k<pl.length->li.getD (de pl k) R=Q->amd P all pl aF a m (md k) k
 inj:∀k dn,p<=k->p<=dn->k<pl.length->dn<pl.length->li.getD (de pl k) R=Q->li.getD (de pl dn) R=Q->md k=md dn->k=dn
 w:bW P m (az p) w
 t:dF P m (az p) (oV all pl li p (bX N)) a.tmps
 d:a.defers=b.defers
 D:∀g x,aF g=j x->m.fo g=j x
theorem yG.pre{aF:Nat->Option Obj}{li:Array Bool}{p:Nat}{md:Nat->Nat}(cb:lT P T f all pl cI dp N bX az)(cA:yG P T f all pl cI dp N bX az b aF li p md m a w){i D:Nat}(ae:i<pl.length)(aa:D<pl.length)(ai:li.getD (de pl D) R=Q)(hp:uc all dp (de pl i) (de pl D)):li.getD (de pl i) R=Q:=hp.elim (Oh cb.ch cA.m6 _ (cb.ch.lt D aa) (cA.m6 _ (cb.ch.lt D aa) ai) _ (cb.ch.lt i ae)) (cA.I4 _ (cb.ch.lt D aa) ai _)
theorem yG.VU{aF:Nat->Option Obj}{li:Array Bool}{p:Nat}{md:Nat->Nat}(cb:lT P T f all pl cI dp N bX az)(cA:yG P T f all pl cI dp N bX az b aF li p md m a w):∀n,p+n<=N->(∀D,p<=D->D<p+n->li.getD (de pl D) R=R->nA (T.ba f) (cS all pl D)=Q)->∃m1,Ext (m.fF aF) (az p) (m1.fF aF) (az (p+n))/\yG P T f all pl cI dp N bX az b aF li (p+n) md m1 a w:=by
 intro n;induction n with
 |zero=>exact λ_ _=>⟨m,Ext.refl _ _,cA⟩
 |succ n aW=>
   intro hle bJ;obtain⟨m1,bY,iE⟩:=aW (by omega) λD F J=>bJ D F (by omega);have VV:=cb.le;have aE:p+n<N:=by omega
   rcases an:li.getD (de pl (p+n)) R with _|_
   ·have l':=bJ (p+n) (by omega) (by omega) an;have I5:=cb.same aE l';rw[<-p0,I5];refine⟨m1,bY,⟨by omega,iE.eE,iE.m6,iE.I4,λk ab ai=>(iE.b5 k ab ai).imp (λh=>by omega) id,λk ab aq=>?_,λk ab=>iE.dK k (by omega),λk dn ab oT=>iE.inj k dn (by omega) (by omega),by rw[I5];exact iE.w,?_,iE.d,iE.D⟩⟩
    ·rw[I5];rcases oI k (p+n)with h|h
     ·exact iE.ca k h aq
     ·obtain rfl:k=p+n:=by omega
      exact cb.late aE l'
    ·rw[I5,al9 (Of:=li) (hQ:=p+n) λd=>⟨λaj k ab a1=>?_,λaj k ab a1=>⟨(aj k ab a1).1,by have:=(aj k ab a1).2;omega⟩⟩]
     ·exact iE.t
     ·obtain⟨b0,bK⟩:=aj k ab a1;refine⟨b0,?_⟩;have:k≠p+n:=λe=>by rw[e,an]at b0;cases b0
      omega
   ·obtain⟨e,d,lq,u,bO,bC,dj,eQ,jj,rL,pC,Oj,amh,ami⟩:=iE.dK (p+n) (bS _) (by omega) an;rcases cb.at aE with⟨aP,_⟩|⟨_,v,a2,a3,_⟩
    ·simp[h3,bC]at aP
    rcases a2 with⟨_,a2⟩|⟨g,args,fn,a6,_⟩
    ·unfold fi at a2;rw[bO]at a2;simp only[eQ,g3,hg,iQ]at a2;obtain⟨v1,v2⟩:=a2;obtain⟨cR,fv,fT,km,hF,n9⟩:=iE.w.amc amh jj rL (pC m1 _);rw[v2]at fv fT;have n1:(az (p+n)).n<(az (p+n+1)).n:=by rw[<-v2];simp[ad.push]
     rw[<-p0];refine⟨cR,bY.trans (fv aF),⟨by omega,iE.eE,iE.m6,iE.I4,λk ab ai=>(iE.b5 k ab ai).imp (λh=>by omega) id,λk ab aq=>?_,λk ab Al ai=>?_,λk dn ab oT=>iE.inj k dn (by omega) (by omega),fT,?_,iE.d,λg x a7=>?_⟩⟩
     ·have aAs:k≠p+n:=λe=>by rw[e,an]at aq;cases aq
      exact cb.ET (by omega) aE (λhp=>by have:=iE.pre cb (by omega) (by omega) an hp;rw[aq]at this;cases this) (iE.ca k (by omega) aq)
     ·obtain⟨ej,nB,E',fE,dU,g8,ia,k1,oW,gK,gg,Ap,vI,Fa⟩:=iE.dK k (by omega) Al ai;refine⟨ej,nB,E',fE,dU,g8,ia,k1,oW,gK,gg,Ap,?_,Fa⟩;rw[n9];simp only;rw[if_neg λe=>by have:=iE.inj k (p+n) (by omega) (bS _) Al (by omega) ai an e;omega];exact vI
     ·refine dF.of (by rw[iE.t.1,mG,mG]) λq sO=>?_;have Aq:q<(bX N).length:=by rw[mG]at sO;exact sO
      by_cases aj:qU all pl li (p+n+1) q
      ·rw[sU aj];by_cases I6:q=d
       ·subst I6;rw[a3 q dj Aq,ami (by rw[iE.t.1,mG];exact Aq),<-v1];split
        ·have:=bF.cF (P:=P) (m:=cR) (h:=az (p+n+1)) e (az (p+n)).n n1 hF;rwa [km]at this
        ·have:=bF.ptr (P:=P) (m:=cR) (h:=az (p+n+1)) (az (p+n)).n 0 0 n1;rw[km]at this;simpa using this
       ·have Ok:qU all pl li (p+n) q:=λk ab a1=>by
         obtain⟨b0,bK⟩:=aj k ab a1;refine⟨b0,?_⟩;have:k≠p+n:=λe=>by rw[e,dj]at a1;injection a1 with a1;exact I6 a1.symm
         omega
        have:=iE.t.slot (d:=q) (by rw[mG];exact Aq);rw[sU Ok]at this;exact bF.by (fv aF) this
      ·rw[CF aj];exact .aD _
     ·rw[n9];simp only;rw[if_neg λe=>by rw[e,Oj]at a7;cases a7];exact iE.D g x a7
    ·simp[fr,bO]at a6
theorem VW{t:List I}{h E:ad}{v:I}(aq:tN cI O=Q)(az:yE P all O t h v E):False:=by
 obtain⟨e,d,F,_⟩:=Oi aq;obtain⟨_,⟨J,_⟩|⟨g,args,fn,J,_⟩⟩:=az
 ·simp[mZ,F]at J
 ·simp[fr,F]at J
theorem VX{S:Nat->Bool}{aF:Nat->Option Obj}{Y:List Nat}(cG:∀d,S d=Q->∀k,k<pl.length->(cS all pl k).dst≠j d)(cC:ky P T)(Ol:∀e,e<2000000->cI e=Q->(kg P e).isSome=Q)(cb:lT P T f all pl cI dp N bX az)(mc:N=pl.length\/∃v E,N<pl.length/\yE P all (cS all pl N) (bX N) (az N) v E/\r=(.panic v,bX N,E))(Om:N=pl.length->∀m1 cg aP,bW P m1 (az N) cg->dF P m1 (az N) (bX N) aP.tmps->aP.defers=b.defers->eA P S m1 (az N) cg b cs (ew (b.at aP (.inRegion all Y::K)) cs cg) r):∀(L:List Nat) (li:Array Bool) (p:Nat) (md:Nat->Nat) (m:dq) (a:Act) (w:cd),An pl.length all dp li L->yG P T f all pl cI dp N bX az b aF li p md m a w->eA P S (m.fF aF) (az p) w b cs (ew (b.at a (.inRegion all (L++Y)::K)) cs w) r:=by
 have pp:=cb.ch;have hle:=cb.le;intro L;induction L with
 |nil=>
   intro li p md m a w On cA;have Oo:∀i,i<pl.length->li.getD i R=Q:=by
    cases On with
    |nil _ h=>exact h
   have eV:N=pl.length:=by
    rcases mc with h|⟨v,E,af,aB,_⟩
    ·exact h
    ·rcases cA.b5 N af (Oo _ (pp.lt N af))with h|h
     ·have:=cA.le;omega
     ·exact(VW h aB).elim
   have hp:=cA.le;obtain⟨m1,bY,iE⟩:=cA.VU cb (N - p) (by omega) λD F J aq=>by rw[Oo _ (pp.lt D (by omega))]at aq;cases aq
   rw[show p+(N - p)=N by omega]at bY iE;have ju:oV all pl li N (bX N)=bX N:=by apply List.ext_getElem (by rw[mG]);intro d af aB;have:=sU (all:=all) (pl:=pl) (li:=li) (p:=N) (fA:=bX N) (d:=d) (λk ab _=>⟨Oo _ (pp.lt k ab),by omega⟩);simpa[dm,af,aB]using this
   have aO:=iE.t;rw[ju]at aO;exact eA.after bY (kZ _ _) (Om eV _ w a (iE.w.fF iE.D) aO.fF iE.d)
 |cons i L aW=>
   intro li p md m a w On cA;show eA P S (m.fF aF) (az p) w b cs (ew (b.at a (.inRegion all (i::(L++Y))::K)) cs w) r;cases On with
   |cons _ _ _ ev E9 E8 fz IN=>
   obtain⟨O,qe⟩:∃O,e2 all i=O:=⟨_,rfl⟩;have au:all[i]? =j O:=by rw[<-qe];exact vG (eF ev pp.size)
   rw[qe]at E8;obtain⟨k,ab,rfl⟩:=pp.cover i ev;have qW:cS all pl k=O:=qe;have h':de pl k<li.size:=by rw[cA.eE];exact eF ev pp.size
   have oU:=Oh pp cA.m6 (de pl k) ev (by rw[qe];exact E8);have I7:∀D,D<pl.length->uc all dp (de pl D) (de pl k)->li.getD (de pl D) R=Q:=λD aa h=>h.elim (oU _ (pp.lt D aa)) (fz _);have cP:∀D,D<pl.length->D≠k->de pl D≠de pl k:=by
    intro D aa kA e;rcases oI D k with h|h
    ·exact pp.ne D k h ab e
    ·exact pp.ne k D (by omega) aa e.symm
   have VY:∀D,D<pl.length->(li.setIfInBounds (de pl k) Q).getD D R=Q->∀e∈(e2 all D).after,kv .any e=Q->(li.setIfInBounds (de pl k) Q).getD e.on R=Q:=by
    intro D aa dW e he ag;rw[kz h']at dW;by_cases uf:D=de pl k
    ·subst uf;exact getD_set_true (E8 e (by rw[<-qe];exact he) ag)
    ·rw[if_neg uf]at dW;exact getD_set_true (cA.m6 D aa dW e he ag)
   have VZ:∀D,D<pl.length->(li.setIfInBounds (de pl k) Q).getD D R=Q->∀i,dp i D->(li.setIfInBounds (de pl k) Q).getD i R=Q:=by
    intro D aa dW i he;rw[kz h']at dW;by_cases uf:D=de pl k
    ·subst uf;exact getD_set_true (fz i he)
    ·rw[if_neg uf]at dW;exact getD_set_true (cA.I4 D aa dW i he)
   by_cases w6:tN cI (cS all pl k)=Q
   ·
    obtain⟨e,d,bO,bC,dj,eQ,jj⟩:=Oi w6;have lU:p<=k:=by
     rcases oI k p with h|h
     ·have:=(cA.ca k h E9).1;rw[ame w6]at this;cases this
     ·exact h
    obtain⟨lq,aR⟩:=w0.1 (Ol e jj eQ);obtain⟨u,u1,u2,u3,u4⟩:=amf cC.ty (cS all pl k) e bO aR a w;have j7:Region.wanted O (yielded all a.tmps)=Q:=by have:=yD cA.t all (cS all pl k) (x:=Q) (by simp[h3,bC]);rwa [qW]at this
    rw[qW]at u1;refine eA.steps (N6 au j7 (.inl u1)) ?_;refine eA.after (cg:=w.alloc (.cells u e)) (m1:=(m.fF λg=>if g=w.heap.size then j (.cells u e)else m.fo g).fF aF) (F:=az p) (Ext.refl (m.fF aF) _) ((kZ _ _).alloc cA.w.size (.cells u e)) ?_;have V0:∀g x,aF g=j x->g≠w.heap.size:=λg x a7 e=>by have:=cA.w.tU (cA.D g x a7);omega
    have Cx:∀D nB,D<pl.length->D≠k->(cS all pl D).dst=j nB->nB≠d:=by
     intro D nB aa kA a1 e;subst e;rcases oI D k with h|h
     ·exact(pp.dst D k nB h ab dj).2 a1
     ·exact(pp.dst k D nB (by omega) aa a1).2 dj
    rw[<-qW,dj];refine aW _ p (λD=>if D=k then w.heap.size else md D) _ _ _ IN ⟨cA.le,by simpa using cA.eE,VY,VZ,λD aa ai=>?_,λD aa ai=>?_,λD aa dW ai=>?_,λD rI aa di dW CH ai jh he=>?_,cA.w.aD _,?_,by rw[Act.CG];exact cA.d,λg x a7=>?_⟩
    ·by_cases kA:D=k
     ·subst kA;exact .inr w6
     ·rw[kz h',if_neg (cP D aa kA)]at ai;exact cA.b5 D aa ai
    ·have kA:D≠k:=by omega
     rw[kz h',if_neg (cP D (by have:=cA.le;omega) kA)]at ai;exact cA.ca D aa ai
    ·by_cases kA:D=k
     ·subst kA;refine⟨e,d,lq,u,bO,bC,dj,aR,u2,u3,u4,?_,?_,λa1=>?_⟩
      ·rw[if_pos rfl];rcases an:aF w.heap.size with _|x
       ·rfl
       ·exact absurd rfl (V0 _ x an)
      ·simp[dq.fF]
      ·simp[px]at a1;simp[px,h9,a1]
     ·rw[kz h',if_neg (cP D dW kA)]at ai;obtain⟨ej,nB,E',fE,dU,g8,ia,k1,oW,gK,gg,Ap,vI,Fa⟩:=cA.dK D aa dW ai;have bt:=cA.w.tU vI;refine⟨ej,nB,E',fE,dU,g8,ia,k1,oW,gK,gg,by rw[if_neg kA];exact Ap,?_,λa1=>?_⟩
      ·rw[if_neg kA];show(if md D=w.heap.size then _ else m.fo (md D))=_;rw[if_neg (by omega)];exact vI
      ·rw[if_neg kA,Act.Og λe=>Cx D nB dW kA ia (by injection e with e;exact e.symm)];exact Fa (by simpa[px]using a1)
    ·have CI:∀q,p<=q->q<pl.length->q≠k->(li.setIfInBounds (de pl k) Q).getD (de pl q) R=Q->md q<w.heap.size:=λq F J af aB=>by rw[kz h',if_neg (cP q J af)]at aB;obtain⟨_,_,_,_,_,_,_,_,_,_,_,_,vI,_⟩:=cA.dK q F J aB;exact cA.w.tU vI
     by_cases F:D=k<;>by_cases J:rI=k
     ·omega
     ·simp only[F,J,if_true,if_false]at he;have:=CI rI di CH J jh;omega
     ·simp only[F,J,if_true,if_false]at he;have:=CI D aa dW F ai;omega
     ·simp only[F,J,if_false]at he;rw[kz h',if_neg (cP D dW F)]at ai;rw[kz h',if_neg (cP rI CH J)]at jh;exact cA.inj D rI aa di dW CH ai jh he
    ·refine dF.of (by simp[px];rw[cA.t.1,mG,mG]) λq aE=>?_;have Aq:q<(bX N).length:=by rw[mG]at aE;exact aE
     by_cases aj:qU all pl (li.setIfInBounds (de pl k) Q) p q
     ·rw[sU aj];have I6:q≠d:=λe=>by have:=(aj k ab (by rw[dj,e])).2;omega
      have Ok:qU all pl li p q:=λD aa a1=>by
       obtain⟨b0,bK⟩:=aj D aa a1;have kA:D≠k:=by omega
       rw[kz h',if_neg (cP D aa kA)]at b0;exact⟨b0,bK⟩
      have:=cA.t.slot (d:=q) (by rw[mG];exact Aq);rw[sU Ok]at this;rw[Act.Og λe=>I6 (by injection e with e;exact e.symm)];exact this.fF
     ·rw[CF aj];exact .aD _
    ·show(if g=w.heap.size then _ else m.fo g)=_;rw[if_neg (V0 g x a7)];exact cA.D g x a7
   ·
    have aAt:k<=N:=by
     rcases mc with h|⟨v,E,af,aB,bw⟩
     ·omega
     ·rcases oI N k with bt|tP
      ·have Ar:nA (T.ba f) (cS all pl N)≠Q:=by
        intro bJ;obtain⟨_,⟨al,_⟩|⟨g,args,fn,al,_⟩⟩:=aB
        ·unfold mZ at al;split at al
         ·rename_i x tW;simp[nA,m0,tW]at bJ
         ·cases al
        ·rw[VS bJ]at al;cases al
       rcases cA.b5 N af (I7 N af (((pp.still N k bt ab).resolve_left λh=>Ar (Oc cb.E6 h)).resolve_left w6))with h|h
       ·have:=cA.le;omega
       ·exact(VW h aB).elim
      ·exact tP
    have main:∀(p:Nat) (m:dq),yG P T f all pl cI dp N bX az b aF li p md m a w->k<=p->eA P S (m.fF aF) (az p) w b cs (ew (b.at a (.inRegion all (de pl k::(L++Y))::K)) cs w) r:=by
     intro p m cA lU;have hw:=cA.w;have aO:=cA.t;have a1:=cA.d;have hp:=cA.le;have rK:=amb (fA:=bX N) pp ab lU I7;have pA:∀(hQ:Nat) (aZ:dq) (aJ:cd) (v:I) (fE:bH),k<hQ->p<=hQ->hQ<=N->(∀D,p<=D->D<hQ->D=k)->Ext m (az p) aZ (az hQ)->bW P aZ (az hQ) aJ->Below m.base w aJ->bF P aZ (az hQ) v fE->xc (bX N) (cS all pl k) v->(∀D,D<hQ->D≠k->li.getD (de pl D) R=R->yF P T f all (bX N) (cS all pl D) (az hQ))->Steps P (ew (b.at a (.inRegion all (de pl k::(L++Y))::K)) cs w) (ew (b.at (a.put O.dst fE) (.inRegion all (L++Y)::K)) cs aJ)->eA P S (m.fF aF) (az p) w b cs (ew (b.at a (.inRegion all (de pl k::(L++Y))::K)) cs w) r:=by
      intro hQ aZ aJ v fE aAu ue amj pi an kn n3 U kl amk bJ;refine eA.steps bJ (eA.after (an.fF aF) n3 ?_);refine aW _ hQ md aZ _ aJ IN ⟨amj,by simpa using cA.eE,VY,VZ,λD aa dW=>?_,λD aa dW=>?_,λD aa dW ai=>?_,λD rI aa di dW CH ai jh=>?_,kn,?_,by rw[Act.CG];exact a1,λg x a7=>an.fo g x (cA.D g x a7)⟩
      ·by_cases kA:D=k
       ·exact .inl (by omega)
       ·rw[kz h',if_neg (cP D aa kA)]at dW;exact(cA.b5 D aa dW).imp (λh=>by omega) id
      ·rw[kz h']at dW;by_cases kA:D=k
       ·subst kA;simp at dW
       ·rw[if_neg (cP D (by omega) kA)]at dW;exact amk D aa kA dW
      ·have kA:D≠k:=by omega
       rw[kz h',if_neg (cP D dW kA)]at ai;obtain⟨ej,nB,E',fE,dU,g8,ia,k1,oW,gK,gg,Ap,vI,Fa⟩:=cA.dK D (by omega) dW ai;refine⟨ej,nB,E',fE,dU,g8,ia,k1,oW,gK,gg,Ap,an.fo _ _ vI,λm5=>?_⟩;have aml:O.dst≠j nB:=λe=>by rw[<-qW]at e;exact(pp.dst k D nB (by omega) dW ia).2 e
       rw[Act.Og aml];refine Fa ?_;cases V1:O.dst with
       |none=>rw[V1]at m5;exact m5
       |some x=>rw[V1]at m5;simpa[px]using m5
      ·have F:D≠k:=by omega
       have J:rI≠k:=by omega
       rw[kz h',if_neg (cP D dW F)]at ai;rw[kz h',if_neg (cP rI CH J)]at jh;exact cA.inj D rI (by omega) (by omega) dW CH ai jh
      ·rw[<-qW];exact al' pp ab h' ue (λD F J af=>absurd (pi D F J) af) an aO U kl
     have Fb:∀{x:Bool},h3 all (bX N) (cS all pl k)=j x->Region.wanted O (yielded all a.tmps)=x:=λj7=>by have:=yD aO all (cS all pl k) (by rw[I1 rK];exact j7);rwa [qW]at this
     have V2:∀{E:ad} {v:I},h3 all (bX N) (cS all pl k)=j Q->fi P (T.ba f) (bX N) (az p) (cS all pl k)=j (v,E)->∀(hQ:Nat),az hQ=E->k<hQ->p<=hQ->hQ<=N->(∀D,p<=D->D<hQ->D=k)->xc (bX N) (cS all pl k) v->(∀D,D<hQ->D≠k->li.getD (de pl D) R=R->yF P T f all (bX N) (cS all pl D) (az hQ))->eA P S (m.fF aF) (az p) w b cs (ew (b.at a (.inRegion all (de pl k::(L++Y))::K)) cs w) r:=by intro E v j7 w8 hQ Ah bT bM du mH eB n';subst Ah;have Oq:=w8;rw[<-VN (T.ba f) rK]at Oq;rw[qW]at Oq;obtain⟨aZ,aJ,fE,d1,d2,d3,d4,d5⟩:=VC cC.ty hw aO (T.ba f) Oq;exact pA hQ aZ aJ v fE bT bM du mH d2 d3 d5 d4 eB n' (N6 au (Fb j7) d1)
     have V3:∀(hQ:Nat),az hQ=az p->h3 all (bX N) (cS all pl k)=j R->k<hQ->p<=hQ->hQ<=N->(∀D,p<=D->D<hQ->D=k)->xc (bX N) (cS all pl k) (.bx [])->(∀D,D<hQ->D≠k->li.getD (de pl D) R=R->yF P T f all (bX N) (cS all pl D) (az hQ))->eA P S (m.fF aF) (az p) w b cs (ew (b.at a (.inRegion all (de pl k::(L++Y))::K)) cs w) r:=by intro hQ Ah j7 bT bM du mH eB n';exact pA hQ m w (.bx []) fy bT bM du mH (by rw[Ah];exact Ext.refl _ _) (by rw[Ah];exact hw) (kZ _ _) bF.NF eB n' (N7 au (Fb j7))
     rcases oI k p with I8|I8
     ·obtain⟨_,ca⟩:=cA.ca k I8 E9;rcases ca with⟨ca,dK⟩|⟨ca,v,dK,kM⟩
      ·exact V3 p rfl ca I8 (bS _) hp (λD F J=>by omega) dK (λD aa _ aq=>cA.ca D aa aq)
      ·exact V2 ca dK p rfl I8 (bS _) hp (λD F J=>by omega) kM (λD aa _ aq=>cA.ca D aa aq)
     ·obtain rfl:p=k:=by omega
      have I9:∀{g args fn x E},fr (bX N) (cS all pl p)=j (g,args)->P.funcs[g]? =j fn->(fn.body.isNone=R/\(fn.name== "runtime.NumGoroutine")=R)->AC P g args (az p) (x,E)->h3 all (bX N) (cS all pl p)=j Q->∃bl:List bH,dV P m (az p) args bl/\(e9 a.eval O).run P w= .ok (.enter g bl.toArray) w:=by intro g args fn x E a6 c2 c3 c4 c5;have sV:=a6;rw[<-Oa rK,qW]at sV;exact IZ aO sV c2 c3.2 c3.1
      rcases oI p N with CJ|CJ
      ·have bt:∀D,D<p+1->D≠p->li.getD (de pl D) R=R->yF P T f all (bX N) (cS all pl D) (az (p+1)):=by intro D aa kA aq;refine cb.ET (by omega) CJ ?_ (cA.ca D (by omega) aq);intro an;have:=I7 D (by omega) an;rw[aq]at this;cases this
       have Ot:∀D,p<=D->D<p+1->D=p:=λD F J=>by omega
       rcases cb.at CJ with⟨aP,a2,a3⟩|⟨aP,v,a2,a3,a4⟩
       ·exact V3 (p+1) a3 aP (by omega) (by omega) CJ Ot a2 bt
       ·rcases a2 with⟨_,a2⟩|⟨g,args,fn,a6,c2,c3,c4⟩
        ·exact V2 aP a2 (p+1) rfl (by omega) (by omega) CJ Ot a3 bt
        ·obtain⟨bl,v1,v2⟩:=I9 a6 c2 c3 c4 aP;have hX:=c4 m w bl hw v1;obtain⟨e,aJ,iR,bJ⟩:=E5 (b:=b) (cs:=cs) (k:=K) (rest:=L++Y) au (Fb aP) v2 hX (by rintro aJ ⟨aZ,_,_,_,fE,h,_⟩;cases h);obtain⟨aZ,bY,db,e3,fE,f',fP⟩:=iR;subst f';rcases bJ with⟨bg,af,aB⟩|⟨fe,af,_⟩
         ·injection af with af;subst af;exact pA (p+1) aZ aJ v fE (by omega) (by omega) CJ Ot bY db e3 fP a3 bt aB
         ·cases af
      ·obtain rfl:p=N:=by omega
       have V4:∀d,S d=Q->(oV all pl li p (bX p)).getD d .aD=(bX p).getD d .aD:=λd a1=>sU λD aa Am=>absurd Am (cG d a1 D aa);rcases mc with h|⟨v,E,af,⟨aB,⟨a6,c2⟩|⟨g,args,fn,a6,c2,c3,c4⟩⟩,bw⟩
       ·omega
       ·rw[<-alZ rK,qW]at a6;obtain⟨fE,bY,db⟩:=VI (w:=w) aO a6;rw[bw,c2];exact⟨m.fF aF,w,Ext.refl _ _,hw.fF cA.D,kZ _ _,a,_,fE,⟨_,aO.fF,V4⟩,a1,bY.fF,VJ au (Fb aB) db⟩
       ·obtain⟨bl,v1,v2⟩:=I9 a6 c2 c3 c4 aB;have hX:=c4 m w bl hw v1;obtain⟨e,aJ,iR,bJ⟩:=E5 (b:=b) (cs:=cs) (k:=K) (rest:=L++Y) au (Fb aB) v2 hX (by rintro aJ ⟨aZ,_,_,_,fE,h,_⟩;cases h);obtain⟨aZ,bY,db,e3,fE,f',fP⟩:=iR;subst f';rcases bJ with⟨bg,cc,_⟩|⟨fe,cc,todo,cQ⟩
        ·cases cc
        ·injection cc with cc;subst cc;rw[bw];exact⟨aZ.fF aF,aJ,bY.fF aF,db.fF λg x a7=>bY.fo g x (cA.D g x a7),e3,a,todo,fE,⟨_,(aO.ext bY).fF,V4⟩,a1,fP.fF,cQ⟩
    rcases oI k p with h|h
    ·exact main p m cA (by omega)
    ·obtain⟨m1,bY,iE⟩:=cA.VU cb (k - p) (by omega) λD F J aq=>by
      rcases pp.still D k (by omega) ab with h|h|h
      ·exact Oc cb.E6 h
      ·exact absurd h w6
      ·rw[I7 D (by omega) h]at aq;cases aq
     rw[show p+(k - p)=k by omega]at bY iE;exact eA.after bY (kZ _ _) (main k m1 iE (bS _))
theorem V5{S:Nat->Bool}{aF:Nat->Option Obj}(hlen:pl.length=all.size)(cG:∀d,S d=Q->∀k,k<pl.length->(cS all pl k).dst≠j d)(cC:ky P T)(Ol:∀e,e<2000000->cI e=Q->(kg P e).isSome=Q)(cb:lT P T f all pl cI dp N bX az)(mc:N=pl.length\/∃v E,N<pl.length/\yE P all (cS all pl N) (bX N) (az N) v E/\r=(.panic v,bX N,E))(Om:N=pl.length->∀m1 cg aP,bW P m1 (az N) cg->dF P m1 (az N) (bX N) aP.tmps->aP.defers=b.defers->eA P S m1 (az N) cg b cs (ew (b.at aP K) cs cg) r):∀(L:List Nat) (li:Array Bool) (p:Nat) (md:Nat->Nat) (m:dq) (a:Act) (w:cd),ji all dp li L->yG P T f all pl cI dp N bX az b aF li p md m a w->eA P S (m.fF aF) (az p) w b cs (ew (b.at a (.inRegion all L::K)) cs w) r:=by intro L li p md m a w df cA;have:=VX (Y:=[]) cG cC Ol cb mc (λeV m1 cg aP bT bM du=>eA.steps (.one step_region_end) (Om eV m1 cg aP bT bM du)) L li p md m a w (by rw[hlen];exact df) cA;rwa [me]at this
end
open Go Go.RowKit
theorem xd(e cs:List I)(off D:Nat)(hle:off+cs.length<=e.length):(dO e off cs)[D]? =if off<=D/\D<off+cs.length then cs[D - off]? else e[D]? :=by
 unfold dO;have F:(e.take off).length=off:=by simp;omega
 by_cases aa:D<off
 ·rw[if_neg (by omega),jA,ph (by omega),t' aa]
 ·rw[jA,rx (by omega),F];by_cases p':D<off+cs.length
  ·rw[if_pos (by omega),ph (by omega)]
  ·rw[if_neg (by omega),rx (by omega),List.getElem?_drop];congr 1;omega
theorem As(e cs:List I)(off:Nat)(hle:off+cs.length<=e.length):(dO e off cs).length=e.length:=by unfold dO;simp;omega
theorem amm{agg:Bool}{n oX:Nat}{e:List I}{x:I}(F:x.cells.all I.one=Q)(J:x.cells.length=n)(aq:n≠0)(hle:off+n<=e.length)(bq:dR.all I.one=Q)(VV:oX+dR.length<=e.length)(ai:gX agg n (dO (dO e off x.cells) oX dR) off=j x):∀D,D<n->(dO (dO e off x.cells) oX dR)[off+D]? =x.cells[D]? :=by
 have b5:=As e x.cells off (by omega);have ca:=As (dO e off x.cells) dR oX (by omega);unfold gX at ai;split at ai
 ·rename_i tV;rw[if_pos (by omega)]at ai;injection ai with ai;intro D aa;have al:=congrArg I.cells ai;generalize dO (dO e off x.cells) oX dR=cn at al ⊢;rw[<-al];simp only[I.cells];rw[t' aa,List.getElem?_drop]
 ·intro D aa;have E2:x.one=Q:=by
   have g:(dO (dO e off x.cells) oX dR)[off]? =j x:=ai;rw[xd _ _ _ _ (by omega)]at g;split at g
   ·exact iC.1 bq x (qV g)
   ·rw[xd _ _ _ _ (by omega),if_pos (by omega),Nat.sub_self]at g;exact iC.1 F x (qV g)
  have al:x.cells=[x]:=by cases x<;>first|rfl|(simp[I.one]at E2)
  rw[al]at J;have qf:D=0:=by simp at J;omega
  subst qf;rw[Nat.add_zero,ai,al];rfl
theorem amn{n oX:Nat}{e xs:List I}(J:xs.length=n)(hle:off+n<=e.length)(VV:oX+dR.length<=e.length)(ai:∀D,D<n->(dO (dO e off xs) oX dR)[off+D]? =xs[D]?):dO (dO e oX dR) off xs=dO (dO e off xs) oX dR:=by
 have b5:=As e xs off (by omega);have ca:=As e dR oX (by omega);refine List.ext_getElem? λD=>?_;by_cases aa:off<=D/\D<off+xs.length
 ·have:=ai (D - off) (by omega);rw[show off+(D - off)=D by omega]at this;rw[this,xd _ _ _ _ (by omega),if_pos aa]
 ·rw[xd _ _ _ _ (by omega),if_neg aa,xd _ _ _ _ (by omega),xd _ _ _ _ (by omega)];split
  ·rfl
  ·rw[xd _ _ _ _ (by omega),if_neg aa]
theorem V6{n:Nat}{h:ad}{a x:I}{F:ad}(az:eN n h a x=j F):∃b i off es e,(∀agg k h,cO agg k h a=cO agg k h (.ptr b i off))/\(∀k h y,eN k h a y=eN k h (.ptr b i off) y)/\h.cell b=j es/\es[i]? =j e/\x.cells.all I.one=Q/\x.cells.length=n/\off+n<=e.length/\F=h.set b (j (es.set i (dO e off x.cells))):=by
 have key:∀b i off,eN n h (.ptr b i off) x=j F->∃es e,h.cell b=j es/\es[i]? =j e/\x.cells.all I.one=Q/\x.cells.length=n/\off+n<=e.length/\F=h.set b (j (es.set i (dO e off x.cells))):=by
  intro b i off az;unfold eN at az;simp only[dt]at az;obtain⟨es,J,e,af,aB⟩:=az;split at aB
  ·rename_i al;injection aB with aB;exact⟨es,e,J,af,al.1,al.2.1,al.2.2,aB.symm⟩
  ·cases aB
 cases a with
 |ptr b i off=>obtain⟨es,e,q⟩:=key b i off az;exact⟨b,i,off,es,e,λ_ _ _=>rfl,λ_ _ _=>rfl,q⟩
 |cF t b=>obtain⟨es,e,q⟩:=key b 0 0 az;exact⟨b,0,0,es,e,λ_ _ _=>rfl,λ_ _ _=>rfl,q⟩
 |_=>cases az
theorem lV{n:Nat}{h:ad}{b i:Nat}{x:I}{e:List I}(F:h.cell b=j es)(J:es[i]? =j e)(af:x.cells.all I.one=Q)(aB:x.cells.length=n)(bw:off+n<=e.length):eN n h (.ptr b i off) x=j (h.set b (j (es.set i (dO e off x.cells)))):=by unfold eN;simp only[F,da,J];rw[if_pos ⟨af,aB,bw⟩]
theorem ad.I'{h:ad}{b:Nat}{es:Option (List (List I))}:(h.set b es).cell b=es:=by simp[ad.set]
theorem ad.V7{h:ad}{b D:Nat}{es:Option (List (List I))}(aa:D≠b):(h.set b es).cell D=h.cell D:=by simp[ad.set,aa]
theorem ad.Ja{h:ad}{b:Nat}{x y:Option (List (List I))}:(h.set b x).set b y=h.set b y:=by simp only[ad.set,ad.mk.injEq,and_true,true_and];funext k;split<;>simp_all
theorem ad.amo{h:ad}{a b:Nat}(cP:a≠b)(x y:Option (List (List I))):(h.set a x).set b y=(h.set b y).set a x:=by
 simp only[ad.set,ad.mk.injEq,and_true,true_and];funext k;by_cases F:k=a
 ·subst F;simp[cP]
 ·simp[F]
theorem amp{n b4:Nat}{h F J:ad}{a x dZ y:I}{agg:Bool}(aq:n≠0)(aY:eN n h a x=j F)(bf:eN b4 F dZ y=j J)(ai:cO agg n J a=j x):∃n8,eN b4 h dZ y=j n8/\eN n n8 a x=j J:=by
 obtain⟨b,i,off,es,e,amq,amr,a6,c2,c3,c4,c5,rfl⟩:=V6 aY;obtain⟨c1,h6,oX,gz,ej,_,Ou,d1,d2,d3,d4,d5,rfl⟩:=V6 bf;rw[amq]at ai;simp only[amr,Ou];have ae:i<es.length:=(fR.1 c2).1;by_cases ag:c1=b
 ·subst ag;rw[ad.I']at d1;injection d1 with d1;subst d1;by_cases Jb:h6=i
  ·subst Jb;rw[List.getElem?_set_self ae]at d2;injection d2 with d2;subst d2;have b5:=As e x.cells off (by omega);have N9:gX agg n (dO (dO e off x.cells) oX y.cells) off=j x:=by have:cO agg n _ (.ptr c1 h6 off)=j x:=ai;simp only[cO,ad.row,ad.I',da]at this;rw[List.set_set,List.getElem?_set_self ae]at this;exact this
   have yu:=amm c3 c4 aq c5 d3 (by omega) N9;have ams:=amn c4 c5 (by omega) yu;refine⟨_,lV a6 c2 d3 d4 (by omega),?_⟩;rw[lV (es:=es.set h6 (dO e oX y.cells)) (e:=dO e oX y.cells) ad.I' (List.getElem?_set_self ae) c3 c4 (by rw[As _ _ _ (by omega)];exact c5)];rw[ad.Ja,ad.Ja,List.set_set,List.set_set,ams]
  ·rw[List.getElem?_set_ne (lo Jb)]at d2;refine⟨_,lV a6 d2 d3 d4 d5,?_⟩;rw[lV (es:=es.set h6 (dO ej oX y.cells)) (e:=e) ad.I' (by rw[List.getElem?_set_ne Jb];exact c2) c3 c4 c5];rw[ad.Ja,ad.Ja,List.set_comm _ _ Jb]
 ·rw[ad.V7 ag]at d1;refine⟨_,lV d1 d2 d3 d4 d5,?_⟩;rw[lV (es:=es) (e:=e) (by rw[ad.V7 (lo ag)];exact a6) c2 c3 c4 c5];rw[ad.amo ag]
section
variable{P:cu}{T:gZ}{f:cH}{n aI:Nat}{aT:List Nat}{h E:ad}{t V cv:List I}{all:Array bb}{pl:List (Nat×List Nat)}{dp:Nat->Nat->Prop}
abbrev mf(all:Array bb):Array Bool:=Array.replicate all.size R
theorem Ov(cC:ky P T)(pp:sT all pl (λ_=>R) dp)(lU:ys (T.eu f) all=Q){e:Option I}{cM:List I}(hp:n7 P T f all (iq Q all pl) t h e cM E){b:eO}{K:List Item}{r:h4×List I×ad}(gJ:e=Z->∀(m1:dq) (cg:cd) (aP:Act),bW P m1 E cg->dF P m1 E cM aP.tmps->aP.defers=b.defers->eA P (T.eu f) m1 E cg b cs (ew (b.at aP K) cs cg) r)(oa:∀v,e=j v->r=(.panic v,cM,E)){L:List Nat}(df:ji all dp (mf all) L){m:dq}{w:cd}{a:Act}(hw:bW P m h w)(aO:dF P m h t a.tmps)(a1:a.defers=b.defers):eA P (T.eu f) m h w b cs (ew (b.at a (.inRegion all L::K)) cs w) r:=by
 have cG:∀d,T.eu f d=Q->∀k,k<pl.length->(cS all pl k).dst≠j d:=λd a1 k ab e=>by have bt:=pp.lt k ab;have hm:=iC.1 lU (cS all pl k) (Array.mem_toList_iff.2 (Array.mem_of_getElem? (vG bt)));rw[e]at hm;simp[a1]at hm
 obtain⟨N,bX,az,F,J,af,aB,bw,cc⟩:=hp.trace;have hlen:(iq Q all pl).length=pl.length:=by simp[iq]
 have rM:∀i,i<pl.length->(iq Q all pl)[i]? =j (cS all pl i,(sS pl i).map (e2 all)):=by
  intro i ae;simp only[iq,if_true,List.getElem?_map,gd ae,g3,hg];have av:pl.getD i default=pl[i]:=by simp[dm,ae]
  simp only[cS,e2,de,sS,av];rfl
 have cb:lT P T f all pl (λ_=>R) dp N bX az:=⟨pp.toQ,by omega,(λ_ h=>by cases h),λi ae=>bw i _ ae (rM i (by omega))⟩;subst J;subst af;subst aB;have w5:m=m.fF m.fo:=rfl;rw[w5];refine V5 (S:=T.eu f) (aF:=m.fo) pp.len cG (r:=r) (K:=K) (b:=b) (cs:=cs) cC (λe _ he=>by cases he) cb ?_ ?_ _ (mf all) 0 (λ_=>0) m a _ df ⟨hK _,by simp,λD aa dW=>?_,λD aa dW=>?_,λD aa dW=>?_,λD aa=>by omega,λD _ aa dW=>?_,λD rI _ _ aa di dW=>?_,hw,?_,a1,λ_ _ h=>h⟩
 ·cases e with
  |none=>exact .inl (by omega)
  |some v=>
    obtain⟨q,aE,bJ⟩:=cc;have eV:N<pl.length:=by have:=(fR.1 aE).1;omega
    rw[rM N eV]at aE;injection aE with aE;subst aE;exact .inr ⟨v,E,eV,bJ,oa v rfl⟩
 ·intro eV m1 cg aP bT bM du;cases e with
  |none=>obtain⟨_,cc⟩:=cc;subst cc;exact gJ rfl m1 cg aP bT bM du
  |some v=>obtain⟨q,aE,bJ⟩:=cc;have:=(fR.1 aE).1;omega
 ·rw[pp.len]at aa;simp[h9,aa]at dW
 ·rw[pp.len]at aa;simp[h9,aa]at dW
 ·have:=pp.lt D aa;simp[h9,this]at dW
 ·have:=pp.lt D aa;simp[h9,this]at dW
 ·have:=pp.lt D aa;simp[h9,this]at dW
 ·have ai:=cb.len 0 (hK _);refine dF.of (by rw[mG,<-ai];exact aO.1) λd yH=>?_;have Fc:d<(bX 0).length:=by rw[mG]at yH;omega
  by_cases ug:qU all pl (mf all) 0 d
  ·rw[sU ug];have bs:=cb.fs d 0 N (by omega) (λD _ aa he=>by
    have dW:D<pl.length:=by omega
    have:=(ug D dW he).2;omega)
   rw[gH]at bs;rw[bs];exact aO.slot Fc
  ·rw[CF ug];exact .aD _
theorem V8(cC:ky P T){Y:List Nat}(pp:vE all pl (EP (T.eu f)) λ_ _=>False)(lU:ys (T.eu f) all=Q){e:Option I}{cM:List I}(hp:n7 P T f all (iq Q all pl) t h e cM E){b:eO}{K:List Item}{r:h4×List I×ad}(gJ:e=Z->∀(m1:dq) (cg:cd) (aP:Act),bW P m1 E cg->dF P m1 E cM aP.tmps->aP.defers=b.defers->eA P (T.eu f) m1 E cg b cs (ew (b.at aP (.inRegion all Y::K)) cs cg) r)(oa:∀v,e=j v->r=(.panic v,cM,E)){L:List Nat}(df:An pl.length all (λ_ _=>False) (mf all) L){m:dq}{w:cd}{a:Act}(hw:bW P m h w)(aO:dF P m h t a.tmps)(a1:a.defers=b.defers):eA P (T.eu f) m h w b cs (ew (b.at a (.inRegion all (L++Y)::K)) cs w) r:=by
 have cG:∀d,T.eu f d=Q->∀k,k<pl.length->(cS all pl k).dst≠j d:=λd a1 k ab e=>by have bt:=eF (pp.lt k ab) pp.size;have hm:=iC.1 lU (cS all pl k) (Array.mem_toList_iff.2 (Array.mem_of_getElem? (vG bt)));rw[e]at hm;simp[a1]at hm
 obtain⟨N,bX,az,F,J,af,aB,bw,cc⟩:=hp.trace;have hlen:(iq Q all pl).length=pl.length:=by simp[iq]
 have rM:∀i,i<pl.length->(iq Q all pl)[i]? =j (cS all pl i,(sS pl i).map (e2 all)):=by
  intro i ae;simp only[iq,if_true,List.getElem?_map,gd ae,g3,hg];have av:pl.getD i default=pl[i]:=by simp[dm,ae]
  simp only[cS,e2,de,sS,av];rfl
 have cb:lT P T f all pl (EP (T.eu f)) (λ_ _=>False) N bX az:=⟨pp,by omega,(λty h=>cC.VE f ty h),λi ae=>bw i _ ae (rM i (by omega))⟩;subst J;subst af;subst aB;have w5:m=m.fF m.fo:=rfl;rw[w5];refine VX (Y:=Y) (S:=T.eu f) (aF:=m.fo) cG (r:=r) (K:=K) (b:=b) (cs:=cs) cC (λe F he=>cC.VD f e F he) cb ?_ ?_ _ (mf all) 0 (λ_=>0) m a _ df ⟨hK _,by simp,λD aa dW=>?_,λD aa dW=>?_,λD aa dW=>?_,λD aa=>by omega,λD _ aa dW=>?_,λD rI _ _ aa di dW=>?_,hw,?_,a1,λ_ _ h=>h⟩
 ·cases e with
  |none=>exact .inl (by omega)
  |some v=>
    obtain⟨q,aE,bJ⟩:=cc;have eV:N<pl.length:=by have:=(fR.1 aE).1;omega
    rw[rM N eV]at aE;injection aE with aE;subst aE;exact .inr ⟨v,E,eV,bJ,oa v rfl⟩
 ·intro eV m1 cg aP bT bM du;cases e with
  |none=>obtain⟨_,cc⟩:=cc;subst cc;exact gJ rfl m1 cg aP bT bM du
  |some v=>obtain⟨q,aE,bJ⟩:=cc;have:=(fR.1 aE).1;omega
 ·have aa:=eF aa pp.size;simp[h9,aa]at dW
 ·have aa:=eF aa pp.size;simp[h9,aa]at dW
 ·have:=eF (pp.lt D aa) pp.size;simp[h9,this]at dW
 ·have:=eF (pp.lt D aa) pp.size;simp[h9,this]at dW
 ·have:=eF (pp.lt D aa) pp.size;simp[h9,this]at dW
 ·have ai:=cb.len 0 (hK _);refine dF.of (by rw[mG,<-ai];exact aO.1) λd yH=>?_;have Fc:d<(bX 0).length:=by rw[mG]at yH;omega
  by_cases ug:qU all pl (mf all) 0 d
  ·rw[sU ug];have bs:=cb.fs d 0 N (by omega) (λD _ aa he=>by
    have dW:D<pl.length:=by omega
    have:=(ug D dW he).2;omega)
   rw[gH]at bs;rw[bs];exact aO.slot Fc
  ·rw[CF ug];exact .aD _
theorem V9{P:cu}{T:gZ}{f:cH}{all:Array bb}{e:Option I}{cM:List I}{E:ad}:∀{b5 ca:List (bb×List bb)} {t:List I} {h:ad},n7 P T f all (b5++ca) t h e cM E->(∃t1 F,n7 P T f all b5 t h Z t1 F/\n7 P T f all ca t1 F e cM E)\/∃v,e=j v/\n7 P T f all b5 t h (j v) cM E
 |[],ca,t,h,hp=>.inl ⟨t,h,.nil _ _,hp⟩
 |q::b5,ca,t,h,hp=>by
   have hp:n7 P T f all (q::(b5++ca)) t h e cM E:=hp;cases hp with
   |step _ _ _ _ t1 F _ _ _ az aj=>
     rcases V9 aj with⟨t2,J,a,b⟩|⟨v,a,b⟩
     ·exact .inl ⟨t2,J,.step _ _ _ _ _ _ _ _ _ az a,b⟩
     ·exact .inr ⟨v,a,.step _ _ _ _ _ _ _ _ _ az b⟩
   |stop _ _ _ _ v _ az=>exact .inr ⟨v,rfl,.stop _ _ _ _ _ _ az⟩
theorem amt{cI:aU->Bool}(yI:vE all pl cI λ_ _=>False)(i6:pl.length=y)(bq:y+1=all.size)(oU:∀i,i<y->ln (mA all) i y=Q):∀{li:Array Bool} {L:List Nat},ji all (λ_ _=>False) li L->li.size=all.size->li.getD y R=R->(∀D,D<pl.length->li.getD D R=Q->∀e∈(e2 all D).after,kv .any e=Q->li.getD e.on R=Q)->∃qX,L=qX++[y]/\An pl.length all (λ_ _=>False) li qX:=by
 intro li L au;induction au with
 |nil li h=>intro _ aq;rw[h y (by omega)]at aq;cases aq
 |cons li i L g1 cK et lO p4 aW=>
   intro az aq lp;have h':i<li.size:=by omega
   by_cases ae:i=y
   ·have mc:∀D,D<y->li.getD D R=Q:=λD aa=>by
     obtain⟨e,av,ax,bs⟩:=yI.mask y D (by omega) (by omega) (oU D aa);have bt:=yI.Ak y (by omega) e av ax;have hle:=et e (by rw[ae];exact av) ax;rcases bs with bs|bs
     ·rw[<-bs];exact hle
     ·exact Oh yI lp e.on (by omega) (lp e.on (by omega) hle) D (by omega) bs
    cases p4 with
    |nil _ _=>exact⟨[],by rw[ae];rfl,.nil _ λD aa=>mc D (by omega)⟩
    |cons _ k _ c8 c6=>
      exfalso;rw[kz h']at c6;split at c6
      ·cases c6
      ·rename_i ab;rw[mc k (by omega)]at c6;cases c6
   ·obtain⟨qX,e,O⟩:=aW (by simpa using az) (by rw[kz h',if_neg (λh=>ae h.symm)];exact aq) λD aa dW e he ag=>by
     rw[kz h']at dW;by_cases uf:D=i
     ·subst uf;exact getD_set_true (et e he ag)
     ·rw[if_neg uf]at dW;exact getD_set_true (lp D aa dW e he ag)
    exact⟨i::qX,by rw[e];rfl,.cons _ _ _ (by omega) cK et lO O⟩
abbrev At(dp:Nat->Nat->Prop)(x y:Nat):Nat->Nat->Prop:=λi D=>dp i D\/(i=x/\D=y)
theorem V'{x:Nat}{li:Array Bool}{L:List Nat}(au:ji all dp li L)(az:li.size=all.size)(an:li.getD x R=Q):ji all (At dp x y) li L:=by
 induction au with
 |nil li h=>exact .nil _ h
 |cons li i L F J af aB _ aW=>
   refine .cons _ _ _ F J af (λD aa=>aa.elim (aB D) λe=>by rw[e.1];exact an) (aW (by simpa using az) ?_);rw[kz (by omega)];split
   ·rfl
   ·exact an
theorem xe{x:Nat}(cP:x≠y)(sI:x<all.size){li:Array Bool}{L:List Nat}(au:ji all dp li L)(az:li.size=all.size)(an:li.getD x R=R)(bq:li.getD y R=R):ji all (At dp x y) li L\/ji all (At dp y x) li L:=by
 induction au with
 |nil li h=>have:=h x sI;rw[an]at this;cases this
 |cons li i L F J af aB aj aW=>
   have h':i<li.size:=by omega
   by_cases hG:i=x
   ·subst hG;refine .inl (.cons _ _ _ F J af (λD aa=>aa.elim (aB D) λe=>absurd e.2 cP) (V' aj (by simpa using az) ?_));rw[kz h',if_pos rfl]
   ·by_cases Ow:i=y
    ·subst Ow;refine .inr (.cons _ _ _ F J af (λD aa=>aa.elim (aB D) λe=>absurd e.2.symm cP) (V' aj (by simpa using az) ?_));rw[kz h',if_pos rfl]
    ·rcases aW (by simpa using az) (by rw[kz h',if_neg (lo hG)];exact an) (by rw[kz h',if_neg (lo Ow)];exact bq)with h|h
     ·exact .inl (.cons _ _ _ F J af (λD aa=>aa.elim (aB D) λe=>absurd e.2 Ow) h)
     ·exact .inr (.cons _ _ _ F J af (λD aa=>aa.elim (aB D) λe=>absurd e.2 hG) h)
theorem lr(i:Nat):(mf all).getD i R=R:=by
 simp only[h9,mf];by_cases ae:i<all.size
 ·simp[ae]
 ·simp[ae]
theorem rN{Fe:List (Nat×Nat)}(hp:tO Fe all pl=Q):sT all pl (λ_=>R) λi D=>(i,D)∈Fe:=by
 unfold tO at hp;simp only[h8]at hp;obtain⟨⟨⟨⟨⟨F,J⟩,xa⟩,af⟩,aB⟩,bw⟩:=hp;rw[iC]at F J xa af bw;have ud:∀k,k<pl.length->pl.getD k default∈pl:=λk ab=>by simp only[dm,gd ab,ns];exact hf ab
 have lS:∀i D,i<D->D<pl.length->Ns Fe all (mA all) (pl.getD i default) (pl.getD D default)=Q:=λi D gR aa=>by have:=bw D (j8.2 aa);rw[iC]at this;exact this i (j8.2 gR)
 have oU:∀i D,(ln (mA all) i D||Fe.contains (i,D))=Q->uc all (λi D=>(i,D)∈Fe) i D:=λi D h=>by rw[qg]at h;exact h.imp id λh=>by simpa using h
 unfold Ns at lS;simp only[h8,bne_iff_ne,ne_eq]at lS;refine⟨λi ae=>?_,λk ab=>?_,λk d ab a1 gt=>?_,λD aa e he ag=>?_,λD i aa ae oU=>?_,λi D gR aa=>?_,λi D gR aa=>?_,λi D gR aa=>?_,λi D d gR aa a1=>?_,λi D d gR aa a1 gt=>?_⟩
 ·have:=F i (j8.2 ae);rw[List.any_eq_true]at this;obtain⟨q,aE,h⟩:=this;obtain⟨k,ab,rfl⟩:=List.getElem_of_mem aE;exact⟨k,ab,by simpa[de,dm,ab]using h⟩
 ·have:=J _ (ud k ab);exact of_decide_eq_true this
 ·have:=xa _ (ud k ab);unfold cS e2 de at a1 gt;rw[a1]at this;simp only[h9,List.getD_eq_getElem?_getD]at gt this;simp[rJ,gt]at this
 ·have:=af D (j8.2 aa);rw[Array.all_eq_true']at this;have:=this e he;simpa[ag]using this
 ·unfold Cp at aB;rw[iC]at aB;have:=aB D (j8.2 aa);rw[iC]at this;have:=this i (j8.2 ae);rw[oU]at this;simp only[Bool.not_true,Bool.false_or]at this;rw[Option.any_eq_true]at this;obtain⟨O,au,cc⟩:=this;rw[Array.any_eq_true']at cc;obtain⟨e,he,cQ⟩:=cc;simp only[h8,decide_eq_true_eq,qg,beq_iff_eq]at cQ;refine⟨e,?_,cQ.1.1,cQ.2⟩;have:e2 all D=O:=by simp[e2,h9,au]
  rw[this];exact he
 ·exact(lS i D gR aa).1.1.1.1
 ·have:=(lS i D gR aa).1.1.1.2;rw[qg]at this;exact this.imp VP λh=>.inr (oU _ _ h)
 ·have:=(lS i D gR aa).1.1.2;rw[qg,qg,qg]at this;rcases this with((h|h)|h)|h
  ·exact .inl (VP h)
  ·exact .inr (.inl (by rw[Bool.not_eq_true']at h;exact h))
  ·exact .inr (.inr (.inl (oU _ _ h)))
  ·exact .inr (.inr (.inr (List.contains_iff_mem.1 h)))
 ·have:=(lS i D gR aa).1.2;unfold cS e2 de at a1 ⊢;rw[a1]at this;simpa[rJ]using this
 ·have:=(lS i D gR aa).2;unfold cS e2 de at a1 gt;rw[a1]at this;rw[qg]at this;rcases this with h|h
  ·simp only[h9,List.getD_eq_getElem?_getD]at gt h;simp[rJ,gt]at h
  ·exact oU _ _ h
theorem ji.mono{all:Array bb}{dp Wa:Nat->Nat->Prop}(fz:∀i D,Wa i D->dp i D){li:Array Bool}{L:List Nat}(au:ji all dp li L):ji all Wa li L:=by
 induction au with
 |nil li h=>exact .nil _ h
 |cons li i L F J af aB _ aW=>exact .cons _ _ _ F J af (λD aa=>aB D (fz _ _ aa)) aW
theorem Jc(h:rC O=Q):∃ty a v,O.op= .store ty a v/\O.guard=Z/\O.dst=Z:=by
 unfold rC at h;split at h
 ·rename_i ty a v F J af;exact⟨ty,a,v,F,J,af⟩
 ·cases h
theorem Wb{x:bb}{bU:List bb}{t1:List I}{F:ad}(an:rC x=Q)(az:w' P T f all (x,bU) t h t1 F):∃ty a v,x.op= .store ty a v/\c' P ty≠0/\eN (c' P ty) h (bA t a) (bA t v)=j F/\t1=t/\pt P all t F bU:=by
 obtain⟨ty,a,v,bO,bC,dj⟩:=Jc an;rcases az with⟨aY,_⟩|⟨_,u,bf,bP,cj⟩
 ·simp[h3,bC]at aY
 ·have e:t1=t:=by rw[bP,dj];rfl
  subst e;refine⟨ty,a,v,bO,?_⟩;rcases bf with⟨_,bf⟩|⟨g,args,fn,a6,_⟩
  ·simp only[fi,bO]at bf;split at bf
   ·cases bf
   ·rename_i aR;simp only[dl,iQ]at bf;obtain⟨J,cT,_,rfl⟩:=bf;exact⟨aR,cT,rfl,cj⟩
  ·simp[fr,bO]at a6
theorem Jd{x:bb}{ty:aU}{a v:fM}{F:ad}(an:rC x=Q)(bO:x.op= .store ty a v)(aR:c' P ty≠0)(s:eN (c' P ty) h (bA t a) (bA t v)=j F):w' P T f all (x,[]) t h t F:=by obtain⟨tM,dZ,bg,Ox,bC,dj⟩:=Jc an;refine .inr ⟨by simp[h3,bC],.aD,.inl ⟨by simp[fr,bO],?_⟩,by rw[dj];rfl,trivial⟩;simp only[fi,bO];rw[if_neg aR,s];rfl
theorem Wc{x:bb}{v:I}(an:rC x=Q)(az:yE P all x t h v E):False:=by
 obtain⟨ty,a,u,bO,bC,dj⟩:=Jc an;obtain⟨_,⟨c,_⟩|⟨g,args,fn,c,_⟩⟩:=az
 ·simp[mZ,bO]at c
 ·simp[fr,bO]at c
theorem Wd{x y:bb}(an:rC x=Q)(bq:rC y=Q):∀{pre:List (bb×List bb)} {t:List I} {h:ad} {e:Option I} {cM:List I} {E:ad},n7 P T f all (pre++[(x,[]),(y,[x])]) t h e cM E->n7 P T f all (pre++[(x,[]),(y,[])]) t h e cM E/\n7 P T f all (pre++[(y,[]),(x,[])]) t h e cM E
 |[],t,h,e,cM,E,hp=>by
   cases hp with
   |stop _ _ _ _ _ _ az=>exact(Wc an az).elim
   |step _ _ _ _ t1 F _ _ _ az hp=>
     obtain⟨ty,a,v,bO,cJ,aY,rfl,_⟩:=Wb an az;cases hp with
     |stop _ _ _ _ _ _ az=>exact(Wc bq az).elim
     |step _ _ _ _ t2 J _ _ _ kN hp=>
       obtain⟨tM,dZ,bg,Ox,Ff,bf,rfl,bU⟩:=Wb bq kN;cases hp with
       |nil=>obtain⟨_,_,_,_,cK,et⟩:=Jc an;have pB:=bU.1;simp only[h3,cK,bO,et]at pB;obtain⟨n8,cg,dS⟩:=amp cJ aY bf pB;exact⟨.step _ _ _ _ _ _ _ _ _ (Jd an bO cJ aY) (.step _ _ _ _ _ _ _ _ _ (Jd bq Ox Ff bf) (.nil _ _)),.step _ _ _ _ _ _ _ _ _ (Jd bq Ox Ff cg) (.step _ _ _ _ _ _ _ _ _ (Jd an bO cJ dS) (.nil _ _))⟩
 |q::pre,t,h,e,cM,E,hp=>by
   cases hp with
   |stop _ _ _ _ _ _ az=>exact⟨.stop _ _ _ _ _ _ az,.stop _ _ _ _ _ _ az⟩
   |step _ _ _ _ t1 F _ _ _ az hp=>obtain⟨a,b⟩:=Wd an bq hp;exact⟨.step _ _ _ _ _ _ _ _ _ az a,.step _ _ _ _ _ _ _ _ _ az b⟩
theorem amu{cI:aU->Bool}{pl:List (Nat×List Nat)}(hp:Nu cI all pl=Q):∃r y,pl=r++[(y,[])]/\y+1=all.size/\(∀i,i<y->ln (mA all) i y=Q)/\Iz y cI all r=Q:=by
 unfold Nu at hp;split at hp
 ·rename_i y r e;simp only[h8,beq_iff_eq]at hp;obtain⟨⟨F,J⟩,af⟩:=hp;rw[iC]at J;refine⟨r.reverse,y,?_,F,λi ae=>J i (j8.2 ae),af⟩;have:=congrArg List.reverse e;simpa using this
 ·cases hp
theorem Eq{pl:List (Nat×List Nat)}(hp:Nt all pl=Q):∃r x y,pl=r++[(x,[]),(y,[x])]/\x≠y/\rC (e2 all x)=Q/\rC (e2 all y)=Q/\sT all (r++[(x,[]),(y,[])]) (λ_=>R) (λi D=>(i,D)∈[(x,y)])/\sT all (r++[(y,[]),(x,[])]) (λ_=>R) (λi D=>(i,D)∈[(y,x)]):=by
 unfold Nt at hp;split at hp
 ·rename_i y hV x r aj;simp only[h8,beq_iff_eq,bne_iff_ne,ne_eq]at hp;obtain⟨⟨⟨⟨⟨rfl,J⟩,af⟩,aB⟩,bw⟩,cc⟩:=hp;refine⟨r.reverse,hV,y,?_,J,af,aB,rN bw,rN cc⟩;have:=congrArg List.reverse aj;rw[List.reverse_reverse]at this;rw[this];simp
 ·cases hp
end
section
variable{P:cu}{m aZ:dq}{h E:ad}{w aJ:cd}
theorem aK.refl(h:ad):aK h h:=⟨bS _,bS _,λ_ _=>rfl,λ_ _=>rfl⟩
theorem aK.trans{F J af:ad}(a:aK F J)(b:aK J af):aK F af:=⟨ee a.n b.n,ee a.ids b.ids,λk ab=>(b.cell k (eF ab a.n)).trans (a.cell k ab),λk ab=>(b.hw k (eF ab a.ids)).trans (a.hw k ab)⟩
theorem aK.push(h:ad)(es:List (List I)):aK h (h.push es):=⟨by simp[ad.push],by simp[ad.push],λb ag=>by simp[ad.push,show b≠h.n by omega],λ_ _=>rfl⟩
theorem aK.fresh(h:ad)(n:Nat):aK h (h.fresh n):=⟨by simp[ad.fresh],by simp[ad.fresh],λb ag=>rfl,λk ab=>by simp[ad.fresh,show k≠h.ids by omega]⟩
theorem aK.grow{am h:ad}(g:aK am h){id n:Nat}(ae:am.ids<=id):aK am (h.grow id n):=⟨g.n,g.ids,g.cell,λk ab=>by simpa[ad.grow,show k≠id by omega]using g.hw k ab⟩
theorem aK.set{am h:ad}(g:aK am h){b:Nat}{es:Option (List (List I))}(ag:am.n<=b):aK am (h.set b es):=⟨g.n,g.ids,λk ab=>by simpa[ad.set,show k≠b by omega]using g.cell k ab,g.hw⟩
theorem bF.back(x:Ext m h aZ E)(g:aK h E){v:I}(r:bF P aZ E v u):∀{u0:bH},bF P m h v u0->bF P aZ h v u:=by
 induction r with
 |aD v=>intro _ _;exact .aD v
 |bool b=>intro _ _;exact .bool b
 |int k n=>intro _ _;exact .int k n
 |str l=>intro _ _;exact .str l
 |fx=>intro _ _;exact .fx
 |ptr b i off ag=>
   intro u0 gS;cases gS with
   |ptr _ _ _ n5=>exact .ptr b i off n5
 |cF t b ag aO=>
   intro u0 gS;cases gS with
   |cF _ _ n5 _=>exact .cF t b n5 aO
 |ip e off g O ah ae U aW=>
   intro u0 gS;cases gS with
   |ip _ _ Au amv aL gw Fg=>exact .ip e off g O ah ae (λD aa=>aW D aa (Fg D aa))
 |aC=>intro _ _;exact .aC
 |bN id e es ob O cap ah ai ae U al aO aW=>
   intro u0 gS;cases gS with
   |bN _ _ _ Au amv aAv aL qd gw Fg NB Je=>refine .bN id e es ob O cap ah ai ae (λi ev D aa=>aW i ev D aa (Fg i ev D aa)) al (λk ab=>?_);obtain⟨aP,a2,a3,a4⟩:=aO k ab;obtain⟨dk,dH,g0,k2⟩:=Je k ab;have:=g.hw k dk;exact⟨dk,a2,g0,λej=>a4 (by omega)⟩
   |mB _ _ _=>exact .bN Z e [] ob O cap ah (by simp) (λi ae=>absurd ae (Nat.not_lt_zero _)) (λi ae=>absurd ae (Nat.not_lt_zero _)) al (λk ab=>by cases ab)
 |mB e a cap=>intro _ _;exact .mB e a cap
 |br b O n e cap ag he jt aq ju=>
   intro u0 gS;cases gS with
   |br _ _ _ _ _ n5 _ _ _ _=>exact .br b O n e cap n5 he jt aq ju
 |fn g l c b8 gy F J af aB tT yw=>
   intro u0 gS;cases gS with
   |fn _ _ _ gL c0 aP a2 a3 a4=>exact .fn g l c b8 gy F J (λD aa di=>tT D aa di (a3 D aa (by omega))) (λD aa di=>yw D aa di (a4 D aa (by omega)))
 |nu=>intro _ _;exact .nu
 |fC=>intro _ _;exact .fC
 |iface t v bg F aW=>
   intro u0 gS;cases gS with
   |iface _ _ _ aP=>exact .iface t v bg (aW aP)
 |agg l b8 F af aW=>
   intro u0 gS;cases gS with
   |agg _ gL aP a3=>exact .agg l b8 F (λD aa di=>aW D aa di (a3 D aa (by omega)))
 |bx l b8 F af aW=>
   intro u0 gS;cases gS with
   |bx _ gL aP a3=>exact .bx l b8 F (λD aa di=>aW D aa di (a3 D aa (by omega)))
theorem bW.back(hw:bW P m h w)(x:Ext m h aZ E)(g:aK h E)(kn:bW P aZ E aJ):Ext m h aZ h/\bW P aZ h aJ:=by
 refine⟨⟨x.base,bS _,bS _,x.b1,x.dI,λk ab=>?_,x.fo⟩,?_⟩
 ·obtain⟨aP,a2,a3⟩:=x.kY k ab;exact⟨aP,bS _,λ_=>a3 (g.hw k ab)⟩
 have up:∀b es,h.cell b=j es->E.cell b=j es:=λb es ag=>by rw[g.cell b (hw.lt b es ag).1];exact ag
 refine⟨kn.size,λb es ag=>⟨(hw.lt b es ag).1,(kn.lt b es (up b es ag)).2⟩,λb es ag=>?_,λb c1 es gz ag i1=>kn.inj b c1 es gz (up _ _ ag) (up _ _ i1),kn.dI,λb es ag=>kn.sep b es (up _ _ ag),λk ab=>?_,λk ab=>?_,λk ab b es ag=>?_,λk dn ab oT=>?_,kn.dg,λfJ y aa=>?_⟩
 ·obtain⟨cs,F,J,af,aB,bw⟩:=kn.live b es (up _ _ ag);obtain⟨aAw,_,_,_,_,j4⟩:=hw.live b es ag;refine⟨cs,F,J,af,aB,λi ae D aa=>?_⟩;obtain⟨v,cc,cQ⟩:=bw i ae D aa;obtain⟨v0,_,sW⟩:=j4 i ae D aa;exact⟨v,cc,cQ.back x g sW⟩
 ·have:=kn.oP k (eF ab g.ids);rwa [g.hw k ab]at this
 ·have:=kn.nw k (eF ab g.ids);rwa [g.hw k ab]at this
 ·exact kn.l9 k (eF ab g.ids) b es (up _ _ ag)
 ·exact kn.nY k dn (eF ab g.ids) (eF oT g.ids)
 ·obtain⟨aP,a2,a3,a4,a5⟩:=kn.fo fJ y aa;exact⟨aP,a2,λb es ag=>a3 b es (up _ _ ag),λk ab=>a4 k (eF ab g.ids),a5⟩
theorem Fh:∀{l ca:List I},lP l=j ca->ca.length=l.length/\∀D (aa:D<l.length) (p':D<ca.length),dP l[D]=j ca[D]
 |[],ca,he=>by simp[lP]at he;subst he;exact⟨rfl,λD aa=>by simp at aa⟩
 |v::l,ca,he=>by
   simp only[lP]at he;split at he
   ·rename_i bg b8 F J;injection he with he;subst he;obtain⟨aP,a2⟩:=Fh J;refine⟨by simp[aP],λD aa p'=>?_⟩;cases D with
    |zero=>exact F
    |succ D=>exact a2 D (by simpa using aa) (by simpa using p')
   ·cases he
theorem We:∀{l ca:List (List I)},ki l=j ca->ca.length=l.length/\∀D (aa:D<l.length) (p':D<ca.length),lP l[D]=j ca[D]
 |[],ca,he=>by simp[ki]at he;subst he;exact⟨rfl,λD aa=>by simp at aa⟩
 |v::l,ca,he=>by
   simp only[ki]at he;split at he
   ·rename_i bg b8 F J;injection he with he;subst he;obtain⟨aP,a2⟩:=We J;refine⟨by simp[aP],λD aa p'=>?_⟩;cases D with
    |zero=>exact F
    |succ D=>exact a2 D (by simpa using aa) (by simpa using p')
   ·cases he
theorem bF.po{am:ad}{v:I}(r:bF P m h v u):∀{v2:I},dP v=j v2->bF P m am v2 u:=by
 induction r with
 |aD v=>intro v2 he;simp[dP]at he;subst he;exact .aD v
 |bool b=>intro v2 he;simp[dP]at he;subst he;exact .bool b
 |int k n=>intro v2 he;simp[dP]at he;subst he;exact .int k n
 |str l=>intro v2 he;simp[dP]at he;subst he;exact .str l
 |fx=>intro v2 he;simp[dP]at he;subst he;exact .fx
 |ptr b i off ag=>intro v2 he;simp[dP]at he
 |cF t b ag aO=>intro v2 he;simp[dP]at he
 |ip e off g O ah ae U aW=>intro v2 he;simp[dP]at he
 |aC=>intro v2 he;simp[dP]at he;subst he;exact .aC
 |bN id e es ob O cap ah ai ae U al aO aW=>
   intro v2 he;simp only[dP]at he;obtain⟨Jf,F,rfl⟩:=dl.1 he;obtain⟨aP,a2⟩:=We F;have k0:∀i (ae:i<es.length) (hN:i<Jf.length),Jf[i].length=es[i].length:=λi ae hN=>(Fh (a2 i ae hN)).1;have:Jf.length=es.length:=aP;rw[<-this];refine .bN Z e Jf ob O cap ah (λr aj=>?_) (λi ev D aa=>ae i (by omega) D aa) (λi ev D aa=>?_) (by omega) (λk ab=>by cases ab)
   ·obtain⟨i,hN,rfl⟩:=List.getElem_of_mem aj;rw[k0 i (by omega) hN];exact ai _ (hf _)
   ·have gw:i<es.length:=by omega
    have qf:D<es[i].length:=by rw[<-k0 i gw ev];exact aa
    exact aW i gw D qf ((Fh (a2 i gw ev)).2 D qf aa)
 |mB e a cap=>intro v2 he;simp[dP,ki]at he;subst he;exact .mB e a cap
 |br b O n e cap ag he jt aq ju=>intro v2 he;simp[dP]at he
 |fn g l c b8 gy F J af aB tT yw=>intro v2 he;simp[dP]at he
 |nu=>intro v2 he;simp[dP]at he;subst he;exact .nu
 |fC=>intro v2 he;simp[dP]at he;subst he;exact .fC
 |iface t v bg F aW=>intro v2 he;simp only[dP]at he;obtain⟨v3,F,rfl⟩:=dl.1 he;exact .iface t v3 bg (aW F)
 |agg l b8 F af aW=>intro v2 he;simp only[dP]at he;obtain⟨ca,J,rfl⟩:=dl.1 he;obtain⟨aP,a2⟩:=Fh J;exact .agg ca b8 (by omega) (λD aa di=>aW D (by omega) di (a2 D (by omega) aa))
 |bx l b8 F af aW=>intro v2 he;simp only[dP]at he;obtain⟨ca,J,rfl⟩:=dl.1 he;obtain⟨aP,a2⟩:=Fh J;exact .bx ca b8 (by omega) (λD aa di=>aW D (by omega) di (a2 D (by omega) aa))
theorem AC.forget{g:cH}{args:List I}{p:Bool}{q hi:(I⊕I)×ad}(hX:AC P g args h q)(aE:m2 p h q=j hi):AC P g args h hi:=by
 unfold m2 at aE;split at aE
 ·split at aE
  ·rename_i a7;obtain⟨x,J⟩:=q;intro m w bl hw U;refine(hX m w bl hw U).mono λe aJ ⟨aZ,bY,db,e3,f'⟩=>?_;obtain⟨fv,fT⟩:=hw.back bY a7 db;cases x with
   |inl v=>obtain⟨v2,av,rfl⟩:=dl.1 aE;obtain⟨u,ax,bs⟩:=f';exact⟨aZ,fv,fT,e3,u,ax,bs.po av⟩
   |inr v=>obtain⟨v2,av,rfl⟩:=dl.1 aE;obtain⟨u,ax,bs⟩:=f';exact⟨aZ,fv,fT,e3,u,ax,bs.po av⟩
  ·cases aE
 ·injection aE with aE;subst aE;exact hX
end
open Go Go.RowKit
inductive sX(pl:Nat->List (Nat×List Nat))(S:Nat->Bool):List im->List Item->Prop
 |nil:sX pl S [] []
 |code (c:ef) (k:List im) (K:List Item):ht pl S c=Q->sX pl S k K->sX pl S (.code c::k) (.code c::K)
 |inBlock (id:Nat) (k:List im) (K:List Item):sX pl S k K->sX pl S (.inBlock id::k) (.inBlock id::K)
 |inLoop (c:ef) (k:List im) (K:List Item):ht pl S c=Q->sX pl S k K->sX pl S (.inLoop c::k) (.inLoop c::K)
 |halt (K:List Item) (k:List im):sX pl S (.halt K::k) K
def Fi(P:cu)(T:gZ)(f:cH)(k:List im)(t:List I)(h:ad)(r:h4×List I×ad):Prop:=∀K,sX (T.ch f) (T.eu f) k K->∀(b:eO) (cs:List eO) (m:dq) (w:cd) (a:Act),bW P m h w->dF P m h t a.tmps->a.defers=b.defers->eA P (T.eu f) m h w b cs (ew (b.at a K) cs w) r
def m7(P:cu)(T:gZ)(f:cH):List im->List I->ad->h4×List I×ad->Prop
 |.ops Q all l::k,t,h,r=>∃e cM E,n7 P T f all l t h e cM E/\(match e with|none=>Fi P T f k cM E r|some v=>r=(.panic v,cM,E))
 |.ops R all l::k,t,h,r=>∀bI:List Nat,l=bI.map (λi=>(e2 all i,[]))->(∀i∈bI,i<all.size)->∀K,sX (T.ch f) (T.eu f) k K->∀(b:eO) (cs:List eO) (m:dq) (w:cd) (a:Act),bW P m h w->dF P m h t a.tmps->a.defers=b.defers->eA P (T.eu f) m h w b cs (ew (b.at a (.inRegion all bI::K)) cs w) r
 |k,t,h,r=>Fi P T f k t h r
section
variable{P:cu}{T:gZ}{f:cH}{k:List im}{t:List I}{h E:ad}{r:h4×List I×ad}
theorem m7.dg(hm:m7 P T f k t h r):Fi P T f k t h r:=by
 rcases k with _|⟨x,k⟩
 ·exact hm
 ·cases x with
  |ops d all l=>intro K dD;cases dD
  |_=>exact hm
theorem amw{pl:Nat->List (Nat×List Nat)}{S:Nat->Bool}{id:Nat}:∀{k dn:List im} {K:List Item},sX pl S k K->nU id k=j dn->∃oY,exitTo id K=j oY/\sX pl S dn oY:=by
 intro k dn K ab;induction ab with
 |nil=>intro he;simp[nU]at he
 |code c k K _ _ aW=>intro he;simp only[nU]at he;simpa[exitTo]using aW he
 |inBlock i k K ab aW=>
   intro he;simp only[nU]at he;by_cases ae:i=id
   ·rw[if_pos ae]at he;injection he with he;subst he;exact⟨K,by simp[exitTo,ae],ab⟩
   ·rw[if_neg ae]at he;simpa[exitTo,ae]using aW he
 |inLoop c k K _ _ aW=>intro he;simp only[nU]at he;simpa[exitTo]using aW he
 |halt K k=>intro he;simp[nU]at he
theorem Jg(cC:ky P T){v:I}{m:dq}{w:cd}{a:Act}{b:eO}{K:List Item}{all:Array bb}{i:Nat}(au:all[i]? =j O)(j7:h3 all t O=j Q)(hw:bW P m h w)(aO:dF P m h t a.tmps)(bn:Aj P T f t h O v E):∃aZ aJ u,Ext m h aZ E/\bW P aZ E aJ/\bF P aZ E v u/\Below m.base w aJ/\Steps P (ew (b.at a (.inRegion all (i::rest)::K)) cs w) (ew (b.at (a.put O.dst u) (.inRegion all rest::K)) cs aJ):=by
 have yJ:=yD aO all O j7;rcases bn with⟨_,J⟩|⟨g,args,fn,a6,c2,c3,c4⟩
 ·obtain⟨aZ,aJ,u,d1,d2,d3,d4,d5⟩:=VC cC.ty hw aO (T.ba f) J;exact⟨aZ,aJ,u,d2,d3,d4,d5,N6 au yJ d1⟩
 ·obtain⟨bl,v1,v2⟩:=IZ (w:=w) aO a6 c2 c3.2 c3.1;obtain⟨e,aJ,iR,bJ⟩:=E5 (b:=b) (cs:=cs) (k:=K) (rest:=rest) au yJ v2 (c4 m w bl hw v1) (by rintro aJ ⟨aZ,_,_,_,fE,h,_⟩;cases h);obtain⟨aZ,bY,db,e3,fE,f',fP⟩:=iR;subst f';rcases bJ with⟨bg,af,aB⟩|⟨fe,af,_⟩
  ·injection af with af;subst af;exact⟨aZ,aJ,fE,bY,db,fP,e3,aB⟩
  ·cases af
theorem Wf{S:Nat->Bool}(cC:ky P T){v:I}{m:dq}{w:cd}{a:Act}{b:eO}{K:List Item}{all:Array bb}{i:Nat}(au:all[i]? =j O)(hw:bW P m h w)(aO:dF P m h t a.tmps)(a1:a.defers=b.defers)(bn:yE P all O t h v E):eA P S m h w b cs (ew (b.at a (.inRegion all (i::rest)::K)) cs w) (.panic v,t,E):=by
 obtain⟨j7,⟨a6,c2⟩|⟨g,args,fn,a6,c2,c3,c4⟩⟩:=bn
 ·have yJ:=yD aO all O j7;obtain⟨fE,bY,db⟩:=VI (w:=w) aO a6;subst c2;exact⟨m,w,Ext.refl _ _,hw,kZ _ _,a,_,fE,⟨t,aO,λ_ _=>rfl⟩,a1,bY,VJ au yJ db⟩
 have yJ:=yD aO all O j7;obtain⟨bl,v1,v2⟩:=IZ (w:=w) aO a6 c2 c3.2 c3.1;obtain⟨e,aJ,iR,bJ⟩:=E5 (b:=b) (cs:=cs) (k:=K) (rest:=rest) au yJ v2 (c4 m w bl hw v1) (by rintro aJ ⟨aZ,_,_,_,fE,h,_⟩;cases h);obtain⟨aZ,bY,db,e3,fE,f',fP⟩:=iR;subst f';rcases bJ with⟨bg,af,_⟩|⟨fe,af,todo,aB⟩
 ·cases af
 ·injection af with af;subst af;exact⟨aZ,aJ,bY,db,e3,a,todo,fE,⟨t,aO.ext bY,λ_ _=>rfl⟩,a1,fP,aB⟩
theorem Oy(cC:ky P T){g:cH}{fn:Func}{c:ef}{args:List I}(bn:P.funcs[g]? =j fn)(ag:fn.body=j c)(CK:T.use g=Q)(a7:Fi P T g [.code c] (args++ar (fn.ntmps - args.length) .aD) h r):∀q,Cq P fn r=j q->AC P g args h q:=by
 have key:∀(m:dq) (w:cd) (bl:List bH),bW P m h w->dV P m h args bl->∀cs,∃b:eO,b.fn=g/\b.kind= .normal/\b.defers=[]/\eA P (T.eu g) m h w b cs (ew (jO P g bl.toArray .normal) cs w) r:=by
  intro m w bl hw U cs;refine⟨jO P g bl.toArray .normal,rfl,rfl,rfl,?_⟩;have:=a7 [.code c] (.code c _ _ (cC.ch g fn c bn ag CK) .nil) (jO P g bl.toArray .normal) cs m w {tmps:=(bl++ar (fn.ntmps - bl.length) fy).toArray,defers:=[]} hw ?_ rfl
  ·have e:(jO P g bl.toArray .normal).at {tmps:=(bl++ar (fn.ntmps - bl.length) fy).toArray,defers:=[]} [.code c]=jO P g bl.toArray .normal:=by simp[jO,Frame.at,bn,ag]
   rwa [e]at this
  ·have ai:=U.1;have J:dV P m h (args++ar (fn.ntmps - args.length) .aD) (bl++ar (fn.ntmps - bl.length) fy):=by rw[ai];exact dV.append U ⟨by simp,λD aa di=>by simp only[List.getElem_replicate];exact .aD _⟩
   refine⟨by simpa using J.1,λi ae=>?_⟩;have hN:i<(bl++ar (fn.ntmps - bl.length) fy).length:=by rw[J.1];exact ae
   have:=J.2 i ae hN;simp only[h9,List.getElem?_toArray,gd hN,ns];exact this
 obtain⟨x,cM,E⟩:=r;cases x with
 |ret=>intro q aE;obtain⟨v,U,rfl⟩:=dl.1 aE;intro m w bl hw e1 cs;obtain⟨b,sJ,nZ,yy,aZ,aJ,F,J,af,dZ,todo,aB,bw,cc⟩:=key m w bl hw e1 cs;rw[yy]at bw;obtain⟨u,cQ,g7⟩:=w9 J aB U;exact⟨.returned u,aJ,_,⟨aZ,F,J,af,u,rfl,g7⟩,cc,sJ,rfl,bw,nZ,fn,by simpa[Frame.at,sJ]using bn,cQ⟩
 |halt K=>intro q aE;cases aE
 |panic v=>intro q aE;injection aE with aE;subst aE;intro m w bl hw e1 cs;obtain⟨b,sJ,nZ,yy,aZ,aJ,F,J,af,dZ,todo,u,_,aB,bw,cc⟩:=key m w bl hw e1 cs;rw[yy]at aB;exact⟨.panicked _,aJ,_,⟨aZ,F,J,af,u,rfl,bw⟩,cc,sJ,rfl,aB,fn,by simpa[Frame.at,sJ]using bn⟩
theorem m7.amx{all:Array bb}(hm:m7 P T f k t h r):m7 P T f (.ops dh all []::k) t h r:=by
 cases dh with
 |true=>exact⟨Z,t,h,.nil t h,hm.dg⟩
 |false=>
   intro bI m8 bt K dD b cs m w a hw aO a1;cases bI with
   |cons i bI=>simp at m8
   |nil=>exact eA.steps (.one step_region_end) (hm.dg K dD b cs m w a hw aO a1)
theorem m7.Jh(cC:ky P T){all:Array bb}{q:bb×List bb}{l:List (bb×List bb)}{t1:List I}{F:ad}(az:w' P T f all q t h t1 F)(hm:m7 P T f (.ops dh all l::k) t1 F r):m7 P T f (.ops dh all (q::l)::k) t h r:=by
 cases dh with
 |true=>obtain⟨e,cM,E,J,af⟩:=hm;exact⟨e,cM,E,.step _ _ _ _ _ _ _ _ _ az J,af⟩
 |false=>
   intro bI m8 bt K dD b cs m w a hw aO a1;cases bI with
   |nil=>simp at m8
   |cons i bI=>
     simp only[gP,xf]at m8;obtain⟨rfl,m8⟩:=m8;have au:=vG (all:=all) (bt i (by simp));rcases az with⟨aY,rfl,rfl⟩|⟨aY,v,bf,rfl,_⟩
     ·exact eA.steps (N7 au (yD aO all _ aY)) (hm bI m8 (λD aa=>bt D (by simp[aa])) K dD b cs m w _ hw (aO.put bF.NF _) (by rw[Act.CG];exact a1))
     ·obtain⟨aZ,aJ,u,d1,d2,d3,d4,d5⟩:=Jg (b:=b) (cs:=cs) (K:=K) (rest:=bI) cC au aY hw aO bf;exact eA.steps d5 (eA.after d1 d4 (hm bI m8 (λD aa=>bt D (by simp[aa])) K dD b cs aZ aJ _ d2 ((aO.ext d1).put d3 _) (by rw[Act.CG];exact a1)))
theorem m7.Oz(cC:ky P T){all:Array bb}{q:bb×List bb}{l:List (bb×List bb)}{v:I}(az:yE P all q.1 t h v E):m7 P T f (.ops dh all (q::l)::k) t h (.panic v,t,E):=by
 cases dh with
 |true=>exact⟨j v,t,E,.stop _ _ _ _ _ _ az,rfl⟩
 |false=>
   intro bI m8 bt K dD b cs m w a hw aO a1;cases bI with
   |nil=>simp at m8
   |cons i bI=>simp only[gP,xf]at m8;obtain⟨rfl,m8⟩:=m8;exact Wf cC (vG (bt i (by simp))) hw aO a1 az
theorem amy(cC:ky P T){id:Nat}{all:Array bb}{d:Bool}(hm:m7 P T f (.ops d all (iq d all (T.ch f id))::k) t h r):Fi P T f (.code (.region id all d)::k) t h r:=by
 intro K dD b cs m w a hw aO a1;cases dD with
 |code _ _ K aj dD=>
 cases d with
 |false=>
   refine eA.steps (.one step_region) (hm (iO all.size) ?_ (λi ae=>j8.1 ae) K dD b cs m w a hw aO a1);simp only[iq,nx,if_false];apply List.ext_getElem (by simp);intro i F J;have ae:i<all.size:=by simpa using F
   simp[e2,ae]
 |true=>
   simp only[ht,Bool.not_true,Bool.false_or]at aj;rw[h8]at aj;obtain⟨aj,lU⟩:=aj;rw[qg]at aj;rcases aj with aj|aj
   case inr=>
    obtain⟨gS,y,gI,bq,oU,dU⟩:=amu aj;obtain⟨i6,yI⟩:=al4 (by omega) dU;obtain⟨e,cM,E,hp,he⟩:=hm;rw[gI]at hp;have Fj:iq Q all (gS++[(y,[])])=iq Q all gS++[(e2 all y,[])]:=by simp[iq,e2]
    rw[Fj]at hp;have OA:y<all.size:=by omega
    have Fk:∀{t1:List I} {F:ad},n7 P T f all [(e2 all y,[])] t1 F e cM E->∀(m1:dq) (cg:cd) (aP:Act),bW P m1 F cg->dF P m1 F t1 aP.tmps->aP.defers=b.defers->eA P (T.eu f) m1 F cg b cs (ew (b.at aP (.inRegion all [y]::K)) cs cg) r:=by
     intro t1 F wM m1 cg aP bT bM du;cases wM with
     |step _ _ _ _ t2 J _ _ _ az qb=>
       cases qb;have ir:∀(cR:dq) (dS:cd) (a2:Act),bW P cR E dS->dF P cR E cM a2.tmps->a2.defers=b.defers->eA P (T.eu f) cR E dS b cs (ew (b.at a2 (.inRegion all []::K)) cs dS) r:=λcR dS a2 cJ z2 z3=>eA.steps (.one step_region_end) (he K dD b cs cR dS a2 cJ z2 z3);rcases az with⟨aY,rfl,rfl⟩|⟨aY,v,bf,rfl,_⟩
       ·exact eA.steps (N7 (vG OA) (yD bM all _ aY)) (ir m1 cg _ bT (bM.put bF.NF _) (by rw[Act.CG];exact du))
       ·obtain⟨cR,dS,u,d1,d2,d3,d4,d5⟩:=Jg (b:=b) (cs:=cs) (K:=K) (rest:=[]) cC (vG OA) aY bT bM bf;exact eA.steps d5 (eA.after d1 d4 (ir cR dS _ d2 ((bM.ext d1).put d3 _) (by rw[Act.CG];exact du)))
     |stop _ _ _ _ v _ az=>have he:r=(.panic v,cM,E):=he;rw[he];exact Wf cC (vG OA) bT bM du az
    refine eA.steps (.one step_region_draw) (eA.after (Ext.refl _ _) (kZ _ _).drew ?_);simp only[Region.schedule,cC.mixed,Bool.true_or,if_true,Region.linearise];obtain⟨qX,amz,Wg⟩:=amt yI i6 bq oU (I3 yI.Ak _ _ (mf all) (by simp) (by simp[List.countP_replicate];exact bS _)) (by simp) (lr y) (λD _ dW=>by rw[lr]at dW;cases dW);rw[amz];rcases V9 hp with⟨t1,F,bY,db⟩|⟨v,oc,bY⟩
    ·exact V8 cC yI lU bY (λ_=>Fk db) (λv U=>by cases U) Wg hw.drew aO a1
    ·subst oc;exact V8 cC yI lU bY (λU=>by cases U) (λv2 U=>by injection U with U;rw[<-U];exact he) Wg hw.drew aO a1
   rw[qg]at aj;rcases aj with aj|aj
   case inr=>
    obtain⟨pre,x,y,gI,cP,bR,amA,dU,g8⟩:=Eq aj;obtain⟨e,cM,E,hp,he⟩:=hm;rw[gI]at hp;have an:x<all.size:=by
     obtain⟨bT,bM⟩:pre.length<(pre++[(x,[]),(y,[])]:List (Nat×List Nat)).length/\de (pre++[(x,[]),(y,[])]) pre.length=x:=by simp[de]
     rw[<-bM];exact dU.lt _ bT
    have i6:∀a b:Nat×List Nat,iq Q all (pre++[a,b])=iq Q all pre++[(e2 all a.1,a.2.map (e2 all)),(e2 all b.1,b.2.map (e2 all))]:=by intro a b;simp[iq,e2]
    rw[i6]at hp;obtain⟨aY,bf⟩:=Wd bR amA hp;have gJ:e=Z->∀(m1:dq) (cg:cd) (aP:Act),bW P m1 E cg->dF P m1 E cM aP.tmps->aP.defers=b.defers->eA P (T.eu f) m1 E cg b cs (ew (b.at aP K) cs cg) r:=by intro gI;subst gI;exact λm1 cg aP bT bM du=>he K dD b cs m1 cg aP bT bM du
    have oa:∀v,e=j v->r=(.panic v,cM,E):=by intro v gI;subst gI;exact he
    have mc:∀L,ji all (λ_ _=>False) (mf all) L->eA P (T.eu f) m h w.drew b cs (ew (b.at a (.inRegion all L::K)) cs w.drew) r:=by
     intro L au;rcases xe cP an au (by simp) (lr x) (lr y)with au|au
     ·refine Ov cC dU lU (by rw[i6];exact aY) gJ oa (au.mono λi D aa=>?_) hw.drew aO a1;simp only[vp,iQ]at aa;exact .inr aa
     ·refine Ov cC g8 lU (by rw[i6];exact bf) gJ oa (au.mono λi D aa=>?_) hw.drew aO a1;simp only[vp,iQ]at aa;exact .inr aa
    refine eA.steps (.one step_region_draw) (eA.after (Ext.refl _ _) (kZ _ _).drew ?_);simp only[Region.schedule,cC.mixed,Bool.true_or,if_true,Region.linearise];exact mc _ (I3 dU.Ak _ _ _ (by simp) (by simp[List.countP_replicate]))
   have pp:=al5 aj;have cG:∀d,T.eu f d=Q->∀k,k<(T.ch f id).length->(cS all (T.ch f id) k).dst≠j d:=λd a1 k ab e=>by have bt:=pp.lt k ab;have hm:=iC.1 lU (cS all (T.ch f id) k) (Array.mem_toList_iff.2 (Array.mem_of_getElem? (vG bt)));rw[e]at hm;simp[a1]at hm
   obtain⟨e,cM,E,hp,he⟩:=hm;obtain⟨N,bX,az,F,J,af,aB,bw,cc⟩:=hp.trace;generalize i6:T.ch f id=pl at*;have hlen:(iq Q all pl).length=pl.length:=by simp[iq]
   have rM:∀i,i<pl.length->(iq Q all pl)[i]? =j (cS all pl i,(sS pl i).map (e2 all)):=by
    intro i ae;simp only[iq,if_true,List.getElem?_map,gd ae,g3,hg];have av:pl.getD i default=pl[i]:=by simp[dm,ae]
    simp only[cS,e2,de,sS,av];rfl
   have cb:lT P T f all pl (EP (T.eu f)) (λ_ _=>False) N bX az:=⟨pp.toQ,by omega,(λty h=>cC.VE f ty h),λi ae=>bw i _ ae (rM i (by omega))⟩;subst J;subst af;subst aB;refine eA.steps (.one step_region_draw) (eA.after (Ext.refl _ _) (kZ _ _).drew ?_);simp only[Region.schedule,cC.mixed,Bool.true_or,if_true,Region.linearise];have w5:m=m.fF m.fo:=rfl;rw[w5];refine V5 (S:=T.eu f) (aF:=m.fo) pp.len cG (r:=r) (K:=K) (b:=b) (cs:=cs) cC (λe F he=>cC.VD f e F he) cb ?_ ?_ _ (Array.replicate all.size R) 0 (λ_=>0) m a _ (I3 pp.Ak _ _ _ (by simp) ?_) ⟨hK _,by simp,λD aa dW=>?_,λD aa dW=>?_,λD aa dW=>?_,λD aa=>by omega,λD _ aa dW=>?_,λD rI _ _ aa di dW=>?_,hw.drew,?_,a1,λ_ _ h=>h⟩
   ·cases e with
    |none=>exact .inl (by omega)
    |some v=>
      obtain⟨q,aE,bJ⟩:=cc;have eV:N<pl.length:=by have:=(fR.1 aE).1;omega
      rw[rM N eV]at aE;injection aE with aE;subst aE;exact .inr ⟨v,E,eV,bJ,he⟩
   ·intro eV m1 cg aP bT bM du;cases e with
    |none=>obtain⟨_,cc⟩:=cc;subst cc;exact he K dD b cs m1 cg aP bT bM du
    |some v=>obtain⟨q,aE,bJ⟩:=cc;have:=(fR.1 aE).1;omega
   ·simp[List.countP_replicate]
   ·rw[pp.len]at aa;simp[h9,aa]at dW
   ·rw[pp.len]at aa;simp[h9,aa]at dW
   ·have:=pp.lt D aa;simp[h9,this]at dW
   ·have:=pp.lt D aa;simp[h9,this]at dW
   ·have:=pp.lt D aa;simp[h9,this]at dW
   ·have ai:=cb.len 0 (hK _);refine dF.of (by rw[mG,<-ai];exact aO.1) λd yH=>?_;have Fc:d<(bX 0).length:=by rw[mG]at yH;omega
    by_cases ug:qU all pl (Array.replicate all.size R) 0 d
    ·rw[sU ug];have bs:=cb.fs d 0 N (by omega) (λD _ aa he=>by
      have dW:D<pl.length:=by omega
      have:=(ug D dW he).2;omega)
     rw[gH]at bs;rw[bs];exact aO.slot Fc
    ·rw[CF ug];exact .aD _
end
theorem Ji{P:cu}{T:gZ}(cC:ky P T):∀(f:cH) (k:List im) (t:List I) (h:ad) (r:h4×List I×ad),dA P T f k t h=j r->m7 P T f k t h r:=by
 refine dA.partial_correctness P T (m7 P T) λrun aW f k t h r aj=>?_;split at aj
 ·injection aj with aj;subst aj;intro K dD b cs m w a hw aO a1;cases dD;exact⟨m,w,Ext.refl _ _,hw,kZ _ _,a,[],aO,a1,.one step_end⟩
 ·rename_i id k;intro K dD b cs m w a hw aO a1;cases dD with
  |inBlock _ _ K dD=>exact eA.steps (.one step_inBlock) ((aW _ _ _ _ _ aj).dg K dD b cs m w a hw aO a1)
 ·rename_i amB k;injection aj with aj;subst aj;intro K dD b cs m w a hw aO a1;cases dD;exact⟨m,w,Ext.refl _ _,hw,kZ _ _,a,aO,a1,Steps.refl _ _⟩
 ·rename_i c k;intro K dD b cs m w a hw aO a1;cases dD with
  |inLoop _ _ K al dD=>exact eA.steps (.one step_inLoop) ((aW _ _ _ _ _ aj).dg _ (.code c _ _ al (.inLoop c _ _ al dD)) b cs m w a hw (aO.clear _) a1)
 ·exact(aW _ _ _ _ _ aj).amx
 ·rename_i dh all O bU l k;split at aj
  ·cases aj
  ·rename_i j7;exact m7.Jh cC (.inl ⟨j7,rfl,rfl⟩) (aW _ _ _ _ _ aj)
  ·rename_i j7;split at aj
   ·rename_i v Fj;injection aj with aj;subst aj;exact m7.Oz (q:=(O,bU)) cC ⟨j7,.inl ⟨Fj,rfl⟩⟩
   split at aj
   ·rename_i g args CL;split at aj
    ·rename_i ah cW;obtain⟨⟨x,F⟩,an,aj⟩:=dt.1 aj;obtain⟨fn,lu,hE,hX⟩:=cC.ext g ah cW;cases x with
     |inl v=>
       simp only at aj;split at aj
       ·rename_i pB;exact m7.Jh (q:=(O,bU)) cC (.inr ⟨j7,v,.inr ⟨g,args,fn,CL,lu,hE,hX args h _ an⟩,rfl,pB⟩) (aW _ _ _ _ _ aj)
       ·cases aj
     |inr v=>simp only at aj;injection aj with aj;subst aj;exact m7.Oz cC ⟨j7,.inr ⟨g,args,fn,CL,lu,hE,hX args h _ an⟩⟩
    ·split at aj
     ·cases aj
     ·rename_i fn lu;split at aj
      ·cases aj
      ·rename_i c al;split at aj
       ·cases aj
       ·rename_i bE;have CK:T.use g=Q:=by simpa using bE
        obtain⟨b0,an,aj⟩:=dt.1 aj;obtain⟨bT,Jj,aj⟩:=dt.1 aj;obtain⟨⟨x,F⟩,sx,aj⟩:=dt.1 aj;have hX:=(Oy cC lu al CK (aW _ _ _ _ _ an).dg bT Jj).forget sx;have qW:fn.body.isNone=R/\(fn.name== "runtime.NumGoroutine")=R:=⟨by simp[al],cC.name g fn lu CK⟩;cases x with
        |inl v=>
          simp only at aj;split at aj
          ·rename_i pB;exact m7.Jh (q:=(O,bU)) cC (.inr ⟨j7,v,.inr ⟨g,args,fn,CL,lu,qW,hX⟩,rfl,pB⟩) (aW _ _ _ _ _ aj)
          ·cases aj
        |inr v=>simp only at aj;injection aj with aj;subst aj;exact m7.Oz cC ⟨j7,.inr ⟨g,args,fn,CL,lu,qW,hX⟩⟩
   ·rename_i CL;obtain⟨⟨v,F⟩,an,aj⟩:=dt.1 aj;simp only at aj;split at aj
    ·rename_i pB;exact m7.Jh (q:=(O,bU)) cC (.inr ⟨j7,v,.inl ⟨CL,an⟩,rfl,pB⟩) (aW _ _ _ _ _ aj)
    ·cases aj
 ·rename_i c k;split at aj
  ·intro K dD b cs m w a hw aO a1;cases dD with
   |code _ _ K al dD=>exact eA.steps (.one step_skip) ((aW _ _ _ _ _ aj).dg K dD b cs m w a hw aO a1)
  ·intro K dD b cs m w a hw aO a1;cases dD with
   |code _ _ K al dD=>exact eA.steps (.one step_label) ((aW _ _ _ _ _ aj).dg K dD b cs m w a hw aO a1)
  ·intro K dD b cs m w a hw aO a1;cases dD with
   |code _ _ K al dD=>simp only[ht,h8]at al;exact eA.steps (.one step_seq) ((aW _ _ _ _ _ aj).dg _ (.code _ _ _ al.1 (.code _ _ _ al.2 dD)) b cs m w a hw aO a1)
  ·rename_i c x y;split at aj
   ·rename_i aG w8;intro K dD b cs m w a hw aO a1;cases dD with
    |code _ _ K al dD=>
      simp only[ht,h8]at al;have U:=g2 aO c;rw[w8]at U;have amC:a.eval c= .bool aG:=by revert U;generalize a.eval c=q;intro U;cases U;rfl
      refine eA.steps (.one (step_cond amC)) ?_;cases aG with
      |true=>exact(aW _ _ _ _ _ (by simpa using aj)).dg _ (.code _ _ _ al.1 dD) b cs m w a hw aO a1
      |false=>exact(aW _ _ _ _ _ (by simpa using aj)).dg _ (.code _ _ _ al.2 dD) b cs m w a hw aO a1
   ·cases aj
  ·intro K dD b cs m w a hw aO a1;cases dD with
   |code _ _ K al dD=>exact eA.steps (.one step_block) ((aW _ _ _ _ _ aj).dg _ (.code _ _ _ (by simpa[ht]using al) (.inBlock _ _ _ dD)) b cs m w a hw aO a1)
  ·intro K dD b cs m w a hw aO a1;cases dD with
   |code _ _ K al dD=>have sR:=al;simp only[ht]at sR;exact eA.steps (.one step_loop) ((aW _ _ _ _ _ aj).dg _ (.code _ _ _ sR (.inLoop _ _ _ sR dD)) b cs m w a hw (aO.clear _) a1)
  ·obtain⟨dn,oT,aj⟩:=dt.1 aj;intro K dD b cs m w a hw aO a1;cases dD with
   |code _ _ K al dD=>obtain⟨oY,F,J⟩:=amw dD oT;exact eA.steps (.one (step_exit F)) ((aW _ _ _ _ _ aj).dg oY J b cs m w a hw aO a1)
  ·injection aj with aj;subst aj;intro K dD b cs m w a hw aO a1;cases dD with
   |code _ _ K al dD=>exact⟨m,w,Ext.refl _ _,hw,kZ _ _,a,_,aO,a1,.one step_ret⟩
  ·exact amy cC (aW _ _ _ _ _ aj)
  ·cases aj
theorem Wh{P:cu}{T:gZ}(cC:ky P T){g:cH}{args:List I}{h:ad}{r:(I⊕I)×ad}(aj:aM P T g args h=j r):AC P g args h r:=by
 unfold aM at aj;split at aj
 ·rename_i ah cW;obtain⟨fn,_,_,hX⟩:=cC.ext g ah cW;exact hX args h r aj
 ·split at aj
  ·cases aj
  ·rename_i fn lu;split at aj
   ·cases aj
   ·rename_i c al;split at aj
    ·cases aj
    ·rename_i bE;have CK:T.use g=Q:=by simpa using bE
     obtain⟨b0,an,aj⟩:=dt.1 aj;obtain⟨bT,Jj,aj⟩:=dt.1 aj;exact(Oy cC lu al CK (Ji cC _ _ _ _ _ an).dg bT Jj).forget aj
end Go.Proofs.YtaodiaofbeblbaaGreatDoor
