/- A function that defers one call of its own, which may take back a panic: pieces ahead, the deferred call laid by, the rest; what it comes to is what these come to. -/
import Derived.Test.YtaodiaofbeblbaaGreatDoorMg3
set_option linter.unusedSimpArgs false
set_option linter.unusedVariables false
set_option maxHeartbeats 4000000
set_option maxRecDepth 1000000
open List renaming replicate→ar,length_append→dy,length_cons→dw,getElem?_eq_some_iff→fR,getElem?_eq_getElem→gd,length_singleton→fS,length_nil→ey,getD→dm,length_map→gG,getElem_mem→hf,map_cons→gP,mem_cons→gW,all_eq_true→iC,append_assoc→jA,cons_append→kq,nil_append→j6,length_eq_zero_iff→mF,mem_range→j8,range→iO,getElem?_append_left→ph,append_nil→me,map_nil→kK,mem_map→lR,mem_cons_of_mem→qk,getElem?_append_right→rx,mem_of_getElem?→qV,take_succ_cons→rU,getElem?_take_of_lt→t',map_append→rR,mem_cons_self→uq
open Option renaming some→j,none→Z,bind_eq_some_iff→dt,map_eq_some_iff→dl,bind_some→da,map_some→g3
open Nat renaming reduceAdd→aw,reduceSub→aA,reduceLeDiff→ct,le_refl→bS,lt_of_lt_of_le→eF,le_trans→ee,zero_add→gH,reduceLT→oo,lt_succ_self→q6,le_of_eq→p3
open Go.IntKind renaming i64→o,wrap→hq
open Go.Proofs.Tryz renaming prog→ak
open Bool renaming false→R,true→Q,and_eq_true→h8,false_eq_true→nx,and_true→s3
open Go renaming TypeId→aU,Program→cu,Value→bH,Oper→bb,FuncId→cH,World→cd,Frame→eO,undef→fy,Code→ef,lone→ew,IntKind→kf
open Array renaming getD_eq_getD_getElem?→h9
open Option.some renaming injEq→hg,inj→tR
open Int renaming reduceEq→eZ,natCast_zero→mn,toNat_natCast→rV,cast_ofNat_Int→uI
open Prod.mk renaming injEq→iQ
open Go.Region renaming binds→kv
open Go.Frame renaming enter→jO
open SizeOf renaming sizeOf→mV
open Go.RowKit.Below renaming refl→kZ
open BitVec renaming ofInt→nS
open Ne renaming symm→lo
open List.cons renaming injEq→xf
open Iff renaming rfl→mN
namespace Go.Proofs.YtaodiaofbeblbaaGreatDoor
variable{fn:Func}{args V cv:List I}{J:ad}{x:ay}{rs:List nC}{ao ah:Nat->Prop}{rows es ex:List (List I)}{ea bg:I}{G:be}{cn:ad->Prop}{X Y:b2}{dp:Nat->Nat->Prop}
open Go Go.RowKit
section
variable{P:cu}{T:gZ}{f:cH}{n aI:Nat}{aT:List Nat}{h:ad}
def oi(P:cu)(T:gZ)(f:cH)(n:Nat)(aT:List Nat)(args:List I)(h:ad)(x:h4)(V:List I)(J:ad):Prop:=∀(m:dq) (w:cd) (bl:List bH),bW P m h w->dV P m h args bl->∀cs:List eO,∃(eC:eO) (t2:List I),eC.fn=f/\eC.kind= .normal/\eC.defers=[]/\gb n aT [] t2 V []/\eA P (T.eu f) m h w eC cs (ew (jO P f bl.toArray .normal) cs w) (x,t2,J)
theorem oi.start{c:ef}(bn:P.funcs[f]? =j fn)(ag:fn.body=j c)(aq:fn.ntmps=n)(b6:gb n aT [] (args++ar (n - args.length) .aD) (args++ar (aT.length - args.length) .aD) []):oi P T f n aT args h (.halt [.code c]) (args++ar (aT.length - args.length) .aD) h:=by
 intro m w bl hw e1 cs;have he:=JO bn ag bl .normal;have aO:=JP (P:=P) (h:=h) (k:=n) e1;rw[aq]at he;refine⟨jO P f bl.toArray .normal,_,by simp[jO],by simp[jO],by simp[jO],b6,m,w,Ext.refl _ _,hw,kZ _ _,{tmps:=_,defers:=[]},aO,?_,?_⟩
 ·simp[jO]
 ·conv=>lhs;rw[<-he]
  exact .refl _ _
theorem oi.next(cC:ky P T){c A B:ef}{l:List bj}{af:ad}{x:h4}(p:oi P T f n aT args h (.halt [.code c]) V J)(al:c= .seq A B)(nE:aT.Nodup/\∀D s,aT[D]? =j s->(D<aI↔s<T.aI f))(hR:ga P (T.ba f) (T.ch f) n aT A []=j l)(uv:ht (T.ch f) (T.eu f) A=Q)(aj:bu (aM P T) aI [.bQ l,.halt [.code B]] V [] J=j (x,cv,af)):oi P T f n aT args h x cv af:=by
 intro m w bl hw e1 cs;obtain⟨eC,t2,dk,dH,g0,b6,m1,cg,bY,db,e3,aP,f',fP,ih⟩:=p m w bl hw e1 cs;obtain⟨t3,hp,xu⟩:=wn cC nE hR uv aj b6;have n9:=hp m1 cg aP eC cs db f' fP;have eR:Steps P (ew (jO P f bl.toArray .normal) cs w) (ew (eC.at aP [.code A,.code B]) cs cg):=by
  refine ih.trans ?_
  conv=>lhs;rw[al]
  exact .one step_seq
 exact⟨eC,t3,dk,dH,g0,xu,eA.steps eR (eA.after bY e3 n9)⟩
theorem Ph{t:List I}{h:ad}{v:I}(kl:pE P aT fn.results.toList=j rs)(b6:gb n aT [] t V [])(U:(iS V h rs).map iY=j v):nV fn t h P=j v:=by unfold nV;rw[CU (h:=h) b6 kl];exact U
theorem oi.ret{fn:Func}{rs:List nC}{args V:List I}{J:ad}{v:I}(p:oi P T f n aT args h .ret V J)(bn:P.funcs[f]? =j fn)(kl:pE P aT fn.results.toList=j rs)(U:(iS V J rs).map iY=j v):AC P f args h (.inl v,J):=by intro m w bl hw e1 cs;obtain⟨eC,t2,dk,dH,g0,b6,aZ,aJ,bY,db,e3,dZ,todo,f',fP,ih⟩:=p m w bl hw e1 cs;rw[g0]at fP;obtain⟨u,cQ,g7⟩:=w9 db f' (Ph (h:=J) kl b6 U);exact⟨.returned u,aJ,_,⟨aZ,bY,db,e3,u,rfl,g7⟩,ih,dk,rfl,fP,dH,_,by simp[Frame.at,dk,bn],cQ⟩
theorem Z5{t:List I}{i:Nat}{v:I}(b6:gb n aT [] t V [])(ae:i ∉ aT):gb n aT [] (eU t (j i) v) V []:=by refine⟨by simpa[eU]using b6.len,b6.bV,b6.uh,λD s aa=>?_,λD s aa=>by simp at aa⟩;obtain⟨F,J⟩:=b6.v D s aa;refine⟨F,?_⟩;rw[<-J];have cP:i≠s:=λe=>ae (by rw[e];exact qV aa);simp[eU,dm,cP]
def nF(a:Act)(gj:List Nat):List bH:=gj.map λi=>a.tmps.getD i fy
theorem Z6{m:dq}{t:List I}{a:Act}{gj o6:List Nat}(b6:gb n aT [] t V [])(aO:dF P m J t a.tmps)(al:gj=o6.map λD=>aT.getD D 0)(aa:∀D∈o6,D<aT.length):dV P m J (o6.map λD=>V.getD D .aD) (nF a gj):=by
 subst al;refine⟨by simp[nF],λi F J=>?_⟩;simp only[gG]at F;have bt:=aa _ (hf F);have az:aT[o6[i]]? =j (aT.getD o6[i] 0):=by simp[dm,bt]
 obtain⟨bT,bM⟩:=b6.v _ _ az;have:=Pg aO (i:=aT.getD o6[i] 0) (by rw[b6.len];exact bT);rw[bM]at this;simpa[nF]using this
theorem dV.Z7{m aZ:dq}{h E:ad}{l:List I}{us:List bH}(v:dV P m h l us)(x:Ext m h aZ E):dV P aZ E l us:=⟨v.1,λD F J=>(v.2 D F J).ext x⟩
theorem Pj{P:cu}{t cM:List I}{h:ad}:∀{l:List ResultVar},(∀r∈l,∃i ty,r= .cell i ty/\t.getD i .aD=cM.getD i .aD)->p7 P t h l=p7 P cM h l
 |[],_=>rfl
 |r::l,ai=>by obtain⟨i,ty,rfl,e⟩:=ai r (uq ..);have aW:p7 P t h l=p7 P cM h l:=Pj λq aE=>ai q (qk _ aE);simp only[p7,e,aW]
def s8(dT:cH)(us:List bH):bH:=.func (.func dT) #[] us.toArray
def k7(dT:cH)(us:List bH):Deferred:={target:=.fn (.func dT) us.toArray,args:= #[]}
inductive FL(P:cu)(dT:cH)(JQ:List I)(af aB:ad):h4->Prop
 |ret (m6:∀(m:dq) (w:cd) (eP:List bH),bW P m af w->dV P m af JQ eP->CallsD P dT eP.toArray .returning w λe k8 aJ=>(∃v,e= .returned v)/\k8= .returning/\∃aZ,Ext m af aZ aB/\bW P aZ aB aJ/\Below m.base w aJ):FL P dT JQ af aB .ret
 |panic (v:I) (m6:∀(m:dq) (w:cd) (eP:List bH) (u:bH),bW P m af w->dV P m af JQ eP->bF P m af v u->CallsD P dT eP.toArray (.panicking [{v:=u,recovered:=R}]) w λe k8 aJ=>(∃v,e= .returned v)/\k8= .panicking [{v:=u,recovered:=Q}]/\∃aZ,Ext m af aZ aB/\bW P aZ aB aJ/\Below m.base w aJ):FL P dT JQ af aB (.panic v)
theorem Z8(cC:ky P T){af aB:ad}{lC lD:ef}{dT:cH}{k:Nat}{gj o6:List Nat}{l:List bj}{x:h4}{r:I}(p:oi P T f n aT args h (.halt [.code lC]) V J)(bn:P.funcs[f]? =j fn)(C8:∃k9,P.funcs[(dT:Nat)]? =j k9/\(k9.body.isNone=R/\(k9.name== "runtime.NumGoroutine")=R))(ab:k ∉ aT)(al:gj=o6.map λD=>aT.getD D 0)(aa:∀D∈o6,D<aT.length)(lay:∀(eC:eO) (a:Act) (cs:List eO) (w:cd),a.tmps.size=n->Steps P (ew (eC.at a [.code lC]) cs w) (ew (eC.at {a.put (j k) (s8 dT (nF a gj))with defers:=k7 dT (nF a gj)::a.defers} [.code lD]) cs w))(nE:aT.Nodup/\∀D s,aT[D]? =j s->(D<aI↔s<T.aI f))(hR:ga P (T.ba f) (T.ch f) n aT lD []=j l)(uv:ht (T.ch f) (T.eu f) lD=Q)(aj:bu (aM P T) aI [.bQ l,.halt []] V [] J=j (x,cv,af))(lU:∀r∈fn.results.toList,∃i ty,r= .cell i ty/\T.eu f i=Q)(he:FL P dT (o6.map λD=>V.getD D .aD) af aB x)(kl:pE P aT fn.results.toList=j rs)(U:(iS cv aB rs).map iY=j r):AC P f args h (.inl r,aB):=by
 intro m w bl hw e1 cs;obtain⟨eC,t2,dk,dH,g0,b6,cR,dS,bY,db,e3,a2,f',fP,ih⟩:=p m w bl hw e1 cs;rw[g0]at fP;have dY:a2.tmps.size=n:=by rw[f'.1,b6.len]
 have lay:=lay eC a2 cs dS dY;have FM:=Z6 b6 f' al aa;generalize nF a2 gj=us at lay FM;rw[fP]at lay;have AT:=f'.put (bF.aD (s8 dT us)) (j k);have xu:=Z5 (i:=k) (v:=.aD) b6 ab;obtain⟨t5,hp,vX⟩:=wn cC nE hR uv aj xu;obtain⟨h5,jl,fv,fT,km,hF⟩:=hp cR dS {a2.put (j k) (s8 dT us)with defers:=[k7 dT us]} {eC with defers:=[k7 dT us]} cs db AT rfl;have FN:=dV.Z7 FM fv;have ml:nV fn t5 aB P=j r:=Ph kl vX U;have FO:(invoke (.fn (.func dT) us.toArray) #[]).run P jl= .ok (.enter dT us.toArray) jl:=by
  obtain⟨k9,g1,cK,et⟩:=C8;have Pk:¬k9.name= "runtime.NumGoroutine":=by simpa using et
  have Pl:¬k9.body=Z:=by cases ag:k9.body with|none=>rw[ag]at cK;cases cK|some c=>simp
  simp[go_sem,callFunc,g1,Pl,Pk]
 have JR:∀{m4:dq} {aJ:cd},Below h5.base jl aJ->Below m.base w aJ:=by intro m4 aJ z3;have bT:cR.base=m.base:=bY.base;have bM:h5.base=cR.base:=fv.base;rw[bM,bT]at z3;rw[bT]at km;exact(e3.trans km).trans z3
 cases he with
 |ret m6=>
   obtain⟨a5,todo,cJ,z2,z3⟩:=hF;have pI:Leaves P fn a5.tmps (λe aJ=>∃aZ,Ext m h aZ aB/\bW P aZ aB aJ/\Below m.base w aJ/\∃u,e= .returned u/\bF P aZ aB r u) [k7 dT us] .returning jl:=by refine leaves_cons (f:=dT) (args:=us.toArray) (by simp) FO ?_;refine(m6 h5 jl us fT FN).mono ?_;rintro e k8 aJ ⟨⟨v,rfl⟩,rfl,m4,ep,gC,jS⟩;obtain⟨u,cQ,g7⟩:=w9 gC (cJ.ext ep) ml;exact⟨u,cQ,m4,(bY.trans fv).trans ep,gC,JR (m4:=m4) jS,u,rfl,g7⟩
   obtain⟨e,hk,uw,iR,az,lu,ai⟩:=leaves_steps [k7 dT us] .returning jl {(({eC with defers:=[k7 dT us]}:eO).at a5 todo)with mode:=.returning} cs rfl z2 rfl (by simp[Frame.at,dk,bn]) (by simpa[Frame.at]using dH) pI;exact⟨e,hk,uw,iR,Comes.of_steps (ih.trans (lay.trans z3)) az,lu.trans dk,ai⟩
 |panic v m6=>
   obtain⟨a5,todo,u,⟨rB,z0,cJ⟩,z2,z4,z3⟩:=hF;have Pm:nV fn rB aB P=j r:=by rw[<-ml];unfold nV;rw[Pj λq aE=>by obtain⟨i,ty,e,ae⟩:=lU q aE;exact⟨i,ty,e,cJ i ae⟩]
   have pI:Leaves P fn a5.tmps (λe aJ=>∃aZ,Ext m h aZ aB/\bW P aZ aB aJ/\Below m.base w aJ/\∃u,e= .returned u/\bF P aZ aB r u) [k7 dT us] (.panicking [{v:=u,recovered:=R}]) jl:=by refine leaves_cons (f:=dT) (args:=us.toArray) (by simp) FO ?_;refine(m6 h5 jl us u fT FN z4).mono ?_;rintro e k8 aJ ⟨⟨v,rfl⟩,rfl,m4,ep,gC,jS⟩;obtain⟨u2,cQ,g7⟩:=w9 gC (z0.ext ep) Pm;exact⟨u2,cQ,m4,(bY.trans fv).trans ep,gC,JR (m4:=m4) jS,u2,rfl,g7⟩
   obtain⟨e,hk,uw,iR,az,lu,ai⟩:=leaves_steps [k7 dT us] (.panicking [{v:=u,recovered:=R}]) jl {(({eC with defers:=[k7 dT us]}:eO).at a5 todo)with mode:=.panicking [{v:=u,recovered:=R}]} cs rfl z2 rfl (by simp[Frame.at,dk,bn]) (by simpa[Frame.at]using dH) pI;exact⟨e,hk,uw,iR,Comes.of_steps (ih.trans (lay.trans z3)) az,lu.trans dk,ai⟩
theorem Z9(c:eO)(h:c.mode= .returning)(cs:List eO):recoverD (c::cs)=Z:=by simp[recoverD,h]
theorem Z'{v:bH}(c:eO)(h:c.mode= .panicking [{v:=v,recovered:=R}])(cs:List eO):recoverD (c::cs)=j (v,{c with mode:=.panicking [{v:=v,recovered:=Q}]}::cs):=by simp[recoverD,h]
def Pn(P:cu)(c:ef)(n aY bf:Nat):Prop:=∀(bX:Array bH) (v:bH) (cs gA:List eO) (w:cd),bX.size=n->(recoverD cs=j (v,gA)\/(recoverD cs=Z/\v= .nilIface/\gA=cs))->c.wpS P (λe dZ aoc aJ=>e= .normal/\aoc=gA/\aJ=w/\dZ=(({tmps:=bX,defers:=[]}:Act).put (j aY) v).put (j bf) v) {tmps:=bX,defers:=[]} cs w
theorem JS{k9:Func}{vY:ef}{aY bf:Nat}(cC:ky P T){l:List bj}{gj:List I}{E:ad}{e:I}(bn:P.funcs[f]? =j k9)(ag:k9.body=j vY)(aod:vY= .seq (dc vY) (fj vY))(aq:k9.ntmps=n)(vC:∀(a:Array bH) (w:cd),∃v,(results k9 a).run P w= .ok v w)(Po:Pn P (dc vY) n aY bf)(nE:aT.Nodup/\∀D s,aT[D]? =j s->(D<aI↔s<T.aI f))(hR:ga P (T.ba f) (T.ch f) n aT (fj vY) []=j l)(uv:ht (T.ch f) (T.eu f) (fj vY)=Q)(aj:bu (aM P T) aI [.bQ l,.halt []] V [] h=j (.halt [],cv,E))(b6:gb n aT [] (eU (eU (gj++ar (n - gj.length) .aD) (j aY) e) (j bf) e) V []){m:dq}{w:cd}{eP:List bH}{v:bH}(hw:bW P m h w)(e1:dV P m h gj eP)(lp:gj.length<=n)(FP:bF P m h e v){u:FrameMode}(fE:FrameMode)(EZ:∀c:eO,c.mode=u->∀cs,(recoverD (c::cs)=j (v,{c with mode:=fE}::cs))\/(recoverD (c::cs)=Z/\v= .nilIface/\fE=u)):CallsD P f eP.toArray u w λe k8 aJ=>(∃v,e= .returned v)/\k8=fE/\∃aZ,Ext m h aZ E/\bW P aZ E aJ/\Below m.base w aJ:=by
 intro c cs bE;have he:=JO bn ag eP .deferred;have aO:=JP (P:=P) (h:=h) (k:=n) e1;generalize Pp:jO P f eP.toArray .deferred=b at he;have sH:b.kind= .deferred:=by rw[<-Pp];simp[jO]
 have FQ:b.fn=f:=by rw[<-Pp];simp[jO]
 have ux:b.roundOf=Z:=by rw[<-Pp];simp[jO]
 rw[aq]at he;generalize aN:(eP++ar (n - eP.length) fy).toArray=bX at he aO;have F:Steps P (ew b (c::cs) w) (ew (b.at {tmps:=bX,defers:=[]} [.code (dc vY),.code (fj vY)]) (c::cs) w):=by
  rw[<-he]
  conv=>lhs;rw[aod]
  exact .one step_seq
 have dY:bX.size=n:=by rw[aO.1];simp only[dy,List.length_replicate];omega
 have nX:recoverD (c::cs)=j (v,{c with mode:=fE}::cs)\/(recoverD (c::cs)=Z/\v= .nilIface/\({c with mode:=fE}:eO)::cs=c::cs):=by
  rcases EZ c bE cs with F|⟨F,J,af⟩
  ·exact .inl F
  ·have aB:({c with mode:=fE}:eO)=c:=by rw[af,<-bE]
   exact .inr ⟨F,J,by rw[aB]⟩
 obtain⟨av,aP,OM,cg,⟨rfl,rfl,rfl,rfl⟩,xv⟩:=Po bX v _ _ w dY nX b [.code (fj vY)] sH ux;have C9:=(aO.put (a:={tmps:=bX,defers:=[]}) FP (j aY)).put FP (j bf);obtain⟨cM,hp,aoe⟩:=wn cC nE hR uv aj b6;obtain⟨aZ,aJ,bY,db,e3,dZ,f',fP,ih⟩:=hp m cg _ {b with defers:=[]} ({c with mode:=fE}::cs) hw C9 rfl;have pA:Steps P (ew b (c::cs) cg) (ew {b.at dZ []with mode:=.returning} ({c with mode:=fE}::cs) aJ):=F.trans (xv.trans (ih.trans (.one step_end)));obtain⟨v0,Fg⟩:=vC dZ.tmps aJ;refine⟨.returned v0,fE,aJ,_,⟨⟨_,rfl⟩,rfl,aZ,bY,db,e3⟩,pA,sH,rfl,fP,k9,?_,Fg⟩;show P.funcs[b.fn]? =_;rw[FQ];exact bn
end
def JT:List bj:=[.ops [.i (.v 5) (.box 3 (.v 3)),.i (.v 6) (.box 1 (.v 4)),Pq,.i (.v 8) Pr,.i (.v 9) Pr]]
def yX:List bj:=[.block 0 [.ops [Ps,uy,cU,.g (.l 0) R .l (.load R 1 (.v 6)),.g (.l 1) R .l (.bin (.int o) .gtr (.l 0) (.c (.int o 2000))),vZ,cU,Pt,Pu,vZ,cU,Pt,aaa,vZ,FR],.cond (.v 14) [.ops [v7,JU,Pv,.i .n (.store 1 (.v 9) (.c (.int o 1)))],.ret] [.ops [aX,dv,C',kC,Da,dB,bc,s9,cU,JV,Pu,vZ,cU,JV,.g (.l 1) R .l (.a' (.v 0)),.g (.l 2) R .l xw,.g (.l 3) R .l (.lv (.l 1)),.g (.l 4) R .l (.dG 2 (.l 0)),.g (.l 5) R .l (.fa Z (j (4,5)) (.l 0) (.l 2)),aab,.g (.l 7) R .l yY,.g (.l 8) R .l (.len R (j 222) (.l 0)),.g (.l 9) R .l aac,.i .l (.pick (.l 10) (.c (.bool Q)) (.l 0)),AU],.cond (.v 15) [.ops [v7,JU,Pv,.i .n (.store 1 (.v 9) (.c (.int o 8)))],.ret] []]]]
def JW:List bj:=[.ops [s',Pw,yZ],.ops [Db,.i (.v 16) xx],.cond (.v 16) [.ops [v7,Db,.i .n (.store 3 (.v 7) (.l 1)),Pv,.i .n (.store 1 (.v 9) (.l 0))],.ret] []]
def JX:List bj:=[.ops [aX,Ps,.i .l (.build [.fx,.aC,.int o 0] [(0,1),(1,1),(2,1)] [(0,(.l 1)),(2,(.l 0))]),.i .l (.box 3 (.l 0)),.i (.v 11) (.alloc [.fx]),.i .n (.store 1 (.v 11) (.l 0))]]
def JY:List bj:=[.ops [Px,dv,g4,s',Py,.bU [⟨Z,R,1,.v 11,(.l 4)⟩],.i .l (.build [.int o 0,.int o 0,.int o 0,.int o 0,.int o 0,.aC,.aC,.aC,.bool R,.aC] [(0,1),(1,1),(2,1),(3,3),(6,1),(7,1),(8,1),(9,1)] [(0,(.l 3)),(1,(.l 2)),(3,(.l 0))]),WF,.bU [⟨Z,R,1,.v 11,(.l 6)⟩],Dc,hB,ka]]
def Dd:List bj:=[.block 2 [.ops [Px,.i .l (.call (.c (.fn 138 [] [])) [.l 0]),cU,iu,iv,.i (.v 12) aad,.i .n (.store 3 (.v 12) (.l 1)),AV],.ops [.i (.v 17) (.a' (.v 13))],.cond (.v 17) [.ops [.i .l (.load Q 3 (.v 12)),Ps,Px,b7,kC,bc,aae,.i .l (.call (.c (.fn 53 [] [])) [.l 6]),.bU [⟨Z,R,1,.v 6,(.l 6)⟩,⟨Z,R,1,.v 11,(.l 5)⟩,⟨Z,R,1,.l 3,(.l 2)⟩],JU,.bU [⟨Z,R,1,.v 6,(.l 6)⟩,⟨Z,R,1,.v 11,(.l 5)⟩,⟨Z,R,1,.l 3,(.l 2)⟩],.i .n (.store 1 (.v 8) (.l 1)),.i .n (.store 1 (.v 9) (.c (.int o 0)))],.ret] []]]
def FT:List bj:=[.block 1 [.loop Dd]]
def LT:List bj:=[.ops [jm,.i (.v 8) (.Av .iface Z Q .neq (.l 0) (.c .fC))],.cond (.v 8) [.ops [jm,.i .l (.CO 234 Q (.l 0)),cU,iu,iv,De,mM],.ops [uz,.i (.v 9) v8],.cond (.v 9) [.ops [jm,Df]] [],.ops [v7,.i .l (.load R 1 (.v 0)),JZ,b7,kC,bc,aae,mm,.i .n (.store 3 (.v 2) (.l 7)),.i .n (.store 1 (.v 3) (.l 1)),.i .n (.store 1 (.v 4) (.l 0))]] []]
def Pz:List bj:=[.ops [Dg,xy],.ops [aX,b7,hB,bc,aaf,.i (.v 3) (.bin (.int o) .eql (.l 0) (.c (.int o 20)))],.cond (.v 3) [.ops [Dg,.i (.v 2) (.a' (.c (.int o 11)))],.ret] [],.ops [aX,aX,b7,hB,bc,.i .l (.hv Q 4 [.bool R] 1 1 [(0,(.c (.bool R)))]),.i .l (.app Q 4 (.l 1) (.l 0)),Dc,hB,ka],.ops [aX,b7,hB,bc,aaf,rW,lE,xy],.ret]
theorem aag:cw ak T 113 1 4 [0,2,3,9] Pz [(.v 1),(.v 2)] R:=by refine⟨_,_,Tryz.func113,rfl,rfl,?_,?_,?_,?_,?_⟩<;>kernel_rfl
def aah:List bj:=[uA,.ops [dv,rX,cU,Dh,PA,aai,.g (.l 3) Q .l (.dG 1 (.l 0)),J0,.g (.l 5) Q .l (.len R (j 4) (.l 0)),aaj,PB,iw],.ret]
theorem aof:cw ak T 129 2 3 [0,1,4] aah [(.v 2)] Q:=by refine⟨_,_,Tryz.func129,rfl,rfl,?_,?_,?_,?_,?_⟩<;>kernel_rfl
def PC:List bj:=[rY,.ops [aX,dv,aak,PD],.cond (.v 3) [.ops [.i (.v 2) PE],.ret] [],.ops [aX,b7,hB,bc,dv,.i .l aal,.i .n (.store 1 (.l 0) (.c (.bool Q)))],rY,.ret]
theorem aam:cw ak T 112 2 4 [0,1,4,8] PC [(.v 2)] R:=by refine⟨_,_,Tryz.func112,rfl,rfl,?_,?_,?_,?_,?_⟩<;>kernel_rfl
def aan:List bj:=[uA,.ops [aX,dv,aak,cU,q5,Di,aao,Dj,.g (.l 4) Q .l xw,.g (.l 5) Q .l aal,Dk,aap,aaq,iw],.ret]
theorem aog:cw ak T 176 2 3 [0,1,4] aan [(.v 2)] Q:=by refine⟨_,_,Tryz.func176,rfl,rfl,?_,?_,?_,?_,?_⟩<;>kernel_rfl
def aar:List bj:=[uA,.ops [dv,rX,cU,Dh,PA,aai,.g (.l 3) Q .l (.dG 0 (.l 0)),J0,.g (.l 5) Q .l (.len R (j 213) (.l 0)),aaj,PB,iw],.ret]
theorem aoh:cw ak T 180 2 3 [0,1,4] aar [(.v 2)] Q:=by refine⟨_,_,Tryz.func180,rfl,rfl,?_,?_,?_,?_,?_⟩<;>kernel_rfl
def AW:List bj:=[.ops [.i (.v 2) (.box 6 (.v 1)),ta,tb],.block 0 [.ops [xz,bc,J1,s9,lF],.cond (.v 5) [.ops [ta,PF],.ret] [.ops [o7,bc,.i .l (.bin (.int o) .neq (.l 0) (.c (.int o (-1)))),cU,q5,.g (.l 1) Q .l (.dG 1 (.v 2)),FU,.g (.l 3) Q .l (.call (.c (.fn 129 [] [])) [.l 2,.l 0]),PG,PH,nG],.cond (.v 6) [.ops [ta,.i (.v 4) PE],.ret] [.ops [aX,b7,dB,bc,J2,.i .l (.bin (.int o) .eql (.l 0) (.c (.int o 80))),mM],.cond (.v 7) [.ops [ta,.i (.v 4) (.a' (.c (.int o 11)))],.ret] []]]],.ops [aX,aX,b7,dB,bc,.i .l (.load Q 6 (.v 2)),aas,.bU [⟨Z,R,1,.l 3,(.l 2)⟩],.i .l (.app R 213 (.l 2) (.l 0)),PI,dB,ka],.ops [aX,b7,dB,bc,J2,rW,kD,tb],.ret]
theorem Dl:cw ak T 127 2 8 [0,1,3,4,5,6,11,22] AW [(.v 3),(.v 4)] R:=by refine⟨_,_,Tryz.func127,rfl,rfl,?_,?_,?_,?_,?_⟩<;>kernel_rfl
def PJ:List bj:=[.ops [tb,xA],.ops [dv,PK,Dm],.cond (.v 6) [.ops [tb,.i (.v 5) PL],.ret] [],.ops [aX,eY,g4,dv,.i .l (.build [.int o 0,.int o 0,.int o 0,.int o 0,.int o 0,.int o 0] [(0,1),(1,1),(2,1),(3,1),(4,1),(5,1)] [(0,(.c (.int o (-1)))),(1,(.l 2)),(2,(.l 1)),(3,(.l 0)),(4,(.c (.int o (-1))))]),aat,iu,iv,Dn,lF],.ret]
theorem aau:cw ak T 108 4 7 [0,1,2,3,8,9,12] PJ [(.v 4),(.v 5)] R:=by refine⟨_,_,Tryz.func108,rfl,rfl,?_,?_,?_,?_,?_⟩<;>kernel_rfl
def PM:List bj:=[.ops [xA,.i (.v 6) AX],.ops [dv,uy,cU,Pt,aaa,vZ,cU,JV,Pu,vZ,cU,JV,.g (.l 1) R .l (.bin (.int o) .geq (.l 0) (.c (.int o 6))),.i (.v 7) aav],.cond (.v 7) [.ops [xA,.i (.v 6) PL],.ret] [],.ops [aX,eS,eY,dv,g4,.i .l (.build [.int o 0,.int o 0,.int o 0,.int o 0,.int o 0,.int o 0] [(0,1),(1,1),(2,1),(3,1),(4,1),(5,1)] [(0,(.c (.int o (-1)))),(1,(.l 3)),(2,(.l 2)),(4,(.l 1)),(5,(.l 0))]),.i .l (.call (.c (.fn 127 [] [])) [.l 5,.l 0]),iu,iv,Dp,nG],.ret]
theorem aaw:cw ak T 110 5 8 [0,1,2,3,4,10,11,25] PM [(.v 5),(.v 6)] R:=by refine⟨_,_,Tryz.func110,rfl,rfl,?_,?_,?_,?_,?_⟩<;>kernel_rfl
def PN:List bj:=[.ops [tb,xA],.ops [aX,dv,.i .l aax,Dm],.cond (.v 6) [.ops [tb,.i (.v 5) PE],.ret] [],.ops [aX,dv,eY,g4,.i .l (.build [.int o 0,.int o 0,.int o 0,.int o 0,.int o 0,.int o 0] [(0,1),(1,1),(2,1),(3,1),(4,1),(5,1)] [(0,(.l 2)),(1,(.l 1)),(2,(.l 0)),(4,(.c (.int o (-1))))]),aat,iu,iv,Dn,lF],.ret]
theorem aay:cw ak T 172 4 7 [0,1,2,3,8,9,13] PN [(.v 4),(.v 5)] R:=by refine⟨_,_,Tryz.func172,rfl,rfl,?_,?_,?_,?_,?_⟩<;>kernel_rfl
def J3:List bj:=[.ops [aX,dv,.i (.v 4) aax],.cond (.v 4) [] [.exit 0],.block 1 [.ops [eY,aX,b7,dB,bc,dv,aaz,J4,aas,.i .l (.app R 213 (.l 8) (.l 0)),kD],.ops [aX,b7,dB,bc,dv,aaz,dB,bc,lE]]]
def aaA:List bj:=[FV,J5,.block 0 [.loop J3],uB,.ret]
theorem aoi:cw ak T 175 2 5 [0,1,4,5,8] aaA [(.v 2)] Q:=by refine⟨_,_,Tryz.func175,rfl,rfl,?_,?_,?_,?_,?_⟩<;>kernel_rfl
def FW:List bj:=[.ops [PO],.cond (.v 9) [] [.exit 0],.block 1 [.ops [FX,.i .l (.fa (j 213) Z (.v 6) (.v 8)),J4,aaB,.i (.v 4) Dq,aaC],.ops [PQ,bc,rX,cU,q5,.g (.l 1) Q .l (.dG 1 (.v 5)),FU,.g (.l 3) Q .l (.call (.c (.fn 176 [] [])) [.l 2,.l 0]),PG,.i (.v 10) aaD],.cond (.v 10) [rY,.ret] [],.ops [eS,PR],.cond (.v 11) [.ops [.i (.v 3) (.a' (.c (.int o 15)))]] [],.ops [eY,.i .l (.dG 2 (.v 5)),bc,.i .l (.call (.c (.fn 177 [] [])) [.l 2,.l 0]),kD]],PS]
def aaE:List bj:=[rY,y0,.ops [aX,dv,.i (.v 6) PT,.i (.v 7) (.len R (j 213) (.v 6)),PU],.block 0 [.loop FW],uB,.ret]
theorem aoj:cw ak T 167 2 12 [0,1,4,5,6,7,10,11,12,13,26,28] aaE [(.v 2)] Q:=by refine⟨_,_,Tryz.func167,rfl,rfl,?_,?_,?_,?_,?_⟩<;>kernel_rfl
def aaF:List bj:=[.ops [.i (.v 2) aaG,J6],.ops [aX,dv,.i .l PT,jT],.ops [eS,J2,.i (.v 5) J7],.cond (.v 5) [.ops [.i .l (.build [.int o 0,.int o 0,.int o 0,.int o 0,.int o 0,.int o 0] [(0,1),(1,1),(2,1),(3,1),(4,1),(5,1)] []),aaH,J6],.ret] [],.ops [eS,eS,J2,rW,.i .l (.fa (j 213) Z (.l 3) (.l 0)),J4,aaH,aaI],.ret]
theorem aok:cw ak T 179 2 6 [0,1,4,5,6,12] aaF [(.cell Q 6 2),(.v 3)] Q:=by refine⟨_,_,Tryz.func179,rfl,rfl,?_,?_,?_,?_,?_⟩<;>kernel_rfl
def J8:List bj:=[.ops [aaJ],.cond (.v 8) [] [.exit 0],.block 1 [.ops [.i .l (.fa (j 213) Z (.v 5) (.v 7)),J4,aaK,aaL],.ops [xB,bc,.i (.v 9) aaM],.cond (.v 9) [.ops [eY,xB,bc,J9,aaN,kD]] []],.ops [aaO,mM]]
def aaP:List bj:=[FV,J5,.ops [aX,dv,.i (.v 5) PT,.i (.v 6) (.len R (j 213) (.v 5)),aaQ],.block 0 [.loop J8],uB,.ret]
theorem aol:cw ak T 173 2 10 [0,1,4,5,7,10,11,12,13,18] aaP [(.v 2)] Q:=by refine⟨_,_,Tryz.func173,rfl,rfl,?_,?_,?_,?_,?_⟩<;>kernel_rfl
def aaR:List bj:=[Dr,.ops [.i .l (.build [.aC,.aC] [(0,1),(1,1)] []),J',AY],.ret]
theorem aom:cw ak T 36 0 1 [0] aaR [(.v 0)] R:=by refine⟨_,_,Tryz.func36,rfl,rfl,?_,?_,?_,?_,?_⟩<;>kernel_rfl
def aaS:List bj:=[xC,.ops [aX,rX,cU,q5,.g (.l 1) Q .l (.bin (.int o) .lss (.l 0) (.c (.int o 12))),y1,lE],.ret]
theorem aon:cw ak T 126 1 2 [0,2] aaS [(.v 1)] Q:=by refine⟨_,_,Tryz.func126,rfl,rfl,?_,?_,?_,?_,?_⟩<;>kernel_rfl
open Go.RowKit
theorem aoo(y:BitVec 64):((y&&& 1#64).toInt==1)=y.getLsbD 0:=by
 have h:(y&&& 1#64).toNat=y.toNat % 2:=by rw[BitVec.toNat_and];exact Nat.and_one_is_mod _
 have ag:y.getLsbD 0=decide (y.toNat % 2=1):=by rw[BitVec.getLsbD,Nat.testBit_zero]
 rw[ag,Bool.eq_iff_iff,beq_iff_eq,decide_eq_true_eq,BitVec.toInt_eq_toNat_cond,h];split<;>omega
theorem aaT(x:BitVec 64){k:Nat}(ab:k<64):gO x.toInt k=x.getLsbD k:=by
 unfold gO;have e:x.toInt / 2 ^ k=(x.sshiftRight k).toInt:=by rw[BitVec.toInt_sshiftRight,Int.shiftRight_eq_div_pow];simp
 rw[e,M8,Iq];show((_&&& 1#64).toInt==1)=_;rw[aoo,BitVec.getLsbD_sshiftRight];simp;omega
open Go.RowKit
theorem aop(P:List gr)(eJ:∀n∈P,zQ n.fm=Q)(v:BitVec 64):P.foldl (λr n=>pY r n.fm) v.toInt=(P.foldl (λv n=>v&&& nS 64 n.fm) v).toInt:=by
 induction P generalizing v with
 |nil=>rfl
 |cons n P aW=>
   rw[List.foldl_cons,List.foldl_cons];have e:pY v.toInt n.fm=(v&&& nS 64 n.fm).toInt:=by unfold pY;rw[M8,Iq]
   rw[e,aW (λm hm=>eJ m (by simp[hm]))]
theorem aoq(n:gr):(bi n).length=6:=rfl
theorem aor(n:gr):(bi n).all I.one=Q:=rfl
theorem aos(n:gr):(bi n)[0]? =j (.int o n.parent):=rfl
theorem aot(n:gr):(bi n)[1]? =j (.int o n.gate):=rfl
theorem aou(n:gr):(bi n)[2]? =j (.int o n.fm):=rfl
theorem aov(n:gr):(bi n)[3]? =j (.int o n.cell):=rfl
theorem aow(n:gr):(bi n)[4]? =j (.int o n.bD):=rfl
theorem aox(n:gr):(bi n)[5]? =j (.int o n.func):=rfl
theorem rZ:(∀n,(bi n).length=6)/\(∀n,(bi n).all I.one=Q)/\(∀n:gr,(bi n)[0]? =j (.int o n.parent))/\(∀n:gr,(bi n)[1]? =j (.int o n.gate))/\(∀n:gr,(bi n)[2]? =j (.int o n.fm))/\(∀n:gr,(bi n)[3]? =j (.int o n.cell))/\(∀n:gr,(bi n)[4]? =j (.int o n.bD))/\(∀n:gr,(bi n)[5]? =j (.int o n.func)):=⟨aoq,aor,aos,aot,aou,aov,aow,aox⟩
theorem xo.iH{h:ad}{e:aU}{v:I}(g:xo h ao e v rows):hY e v rows:=by
 rcases g with⟨rfl,rfl⟩|⟨id,_,_,_,_,rfl⟩
 ·exact yW e
 ·exact rT _ _ _
theorem xp.len{h:ad}{b:Nat}{e:aU}{v:I}(g:xp h ah b e v rows):gY v=j rows.length/\∀s,ko s (j e) v=Q:=by
 rcases g with⟨rfl,rfl⟩|⟨q,_,_,_,_,rfl⟩
 ·exact⟨rfl,λs=>rfl⟩
 ·exact⟨rfl,λs=>yV⟩
theorem xo.hS{h E:ad}{e:aU}{v:I}(g:xo h ao e v rows)(x:aK h E):xo E ao e v rows:=by
 rcases g with F|⟨id,F,am,J,af,aB⟩
 ·exact .inl F
 ·exact .inr ⟨id,F,am,eF J x.ids,(x.hw id J).trans af,aB⟩
theorem xp.hS{h E:ad}{b:Nat}{e:aU}{v:I}(g:xp h ah b e v rows)(x:aK h E):xp E ah b e v rows:=by
 rcases g with F|⟨q,F,J,af,aB,bw⟩
 ·exact .inl F
 ·exact .inr ⟨q,F,J,eF af x.n,(x.cell q af).trans aB,bw⟩
theorem gE.hS{h E:ad}{ah ao:Nat->Prop}{b:Nat}{G:be}(g:gE h ah ao b G)(x:aK h E):gE E ah ao b G:=by obtain⟨aI,ea,F,J,af⟩:=g.ex;exact⟨⟨g.ag.1,eF g.ag.2 x.n⟩,⟨λk ab=>eF (g.lt.1 k ab) x.n,λD aa=>eF (g.lt.2 D aa) x.ids⟩,aI,ea,(x.cell b g.ag.2).trans F,J.hS x,af.hS x⟩
theorem aaU{h:ad}{b:Nat}{l:List Bool}(g:xp h ah b pH ea (l.map λx=>[.bool x])){m:Nat}(hm:m<l.length):∃q,fg (j pH) Z ea (.int o (m:Int))=j (.ptr q m 0)/\h.cell q=j (l.map λx=>[.bool x])/\(l.map λx=>[I.bool x])[m]? =j [.bool (l.getD m R)]/\ah q/\q≠b/\q<h.n/\ea= .br q 0 l.length pH:=by
 rcases g with⟨F,_⟩|⟨q,F,J,af,aB,rfl⟩
 ·simp at F;subst F;simp at hm
 ·exact⟨q,by simp[fg,hm],aB,by simp[hm,dm],F,J,af,by simp⟩
theorem be.aaV{k:Int}(bz:G.oH k=Q):∃m:Nat,k=m/\m<G.shut.length:=by simp[be.oH]at bz;exact⟨k.toNat,by omega,by omega⟩
theorem be.aoy{k:Int}(bz:G.has k=Q):0<=k:=by simp[be.has]at bz;exact bz.1
theorem be.aoz{k:Int}(bz:G.has k=Q):∃m:Nat,k=m/\m<G.nodes.length/\(G.nodes.map bi)[m]? =j (bi (G.nodes.getD m lK)):=by
 simp[be.has]at bz;have ai:k.toNat<G.nodes.length:=by omega
 exact⟨k.toNat,by omega,ai,by simp[ai,dm]⟩
section
variable{h:ad}{ah ao:Nat->Prop}{b:Nat}{G:be}
theorem FY(g:gE h ah ao b G)(k:Int):aM ak T 129 [.ptr b 0 0,.int o k] h=j (.inl (.bool (G.oH k)),h):=by obtain⟨aI,ea,F, -,af⟩:=g.ex;refine bd aof rfl ?_;unfold aah;by_cases am:0<=k<;>simp only[ap,aw,aA,ar,am,F,af.len.1,af.len.2,be.oH,gG]
theorem FZ(g:gE h ah ao b G)(k:Int):aM ak T 180 [.ptr b 0 0,.int o k] h=j (.inl (.bool (G.has k)),h):=by obtain⟨aI,ea,F,J, -⟩:=g.ex;refine bd aoh rfl ?_;unfold aar;by_cases am:0<=k<;>simp only[ap,aw,aA,ar,am,F,J.iH.len,J.iH.fits,be.has,gG]
theorem aoA(g:gE h ah ao b G)(k:Int):aM ak T 176 [.ptr b 0 0,.int o k] h=j (.inl (.bool (G.EH k)),h):=by
 obtain⟨aI,ea,F, -,af⟩:=g.ex;refine bd aog rfl ?_;unfold aan;cases bz:G.oH k
 ·simp only[ap,aw,aA,ar,FY g,bz,be.EH]
 ·obtain⟨m,rfl,hm⟩:=be.aaV bz;obtain⟨q,av,ax,bs, -⟩:=aaU af hm;simp only[ap,aw,aA,ar,FY g,bz,F,av,ax,bs,be.EH]
theorem aoB(g:gE h ah ao b G)(d':G.dE)(rest:List bj):∀(f:Nat) (i:Int) (acc:List gr) (E:ad) (v F0:I),i+1<=f->(G.has i=Q->acc.length+i.toNat<200)->Acc h E mL v (acc.map bi)->aK h E->∃eT bg h6 t,bu (aM ak T) 5 [.ff J3,.bQ [],.b1 0,.bQ rest] [.ptr b 0 0,.int o i,.aC,v,F0] [] E=bu (aM ak T) 5 [.bQ rest] [.ptr b 0 0,h6,.aC,bg,t] [] eT/\Acc h eT mL bg ((acc++G.path i).map bi)/\aK h eT:=by
 intro f;induction f with
 |zero=>
   intro i acc E v F0 ae bn aN a7;have fJ:=g.hS a7;have bz:G.has i=R:=by simp[be.has];omega
   rw[dd J3.eq_1];refine⟨E,v,.int o i,.bool R,?_,by rw[be.yk bz,me];exact aN,a7⟩;simp only[ap,aw,aA,ar,cz,FZ fJ,bz]
 |succ f aW=>
   intro i acc E v F0 ae bn aN a7;have fJ:=g.hS a7;obtain⟨aI,ea,F,J, -⟩:=fJ.ex;rw[dd J3.eq_1];cases bz:G.has i
   ·refine⟨E,v,.int o i,.bool R,?_,by rw[be.yk bz,me];exact aN,a7⟩;simp only[ap,aw,aA,ar,cz,FZ fJ,bz]
   ·obtain⟨m,rfl,hm,PV⟩:=be.aoz bz;have bn:=bn bz;have hG:=J.iH.bR o m _ PV;obtain⟨bg,xa,av,aP,a2,a3,a4⟩:=vP aN a7 (row:=bi (G.nodes.getD m lK)) rfl (by simp;omega);simp only[ap,aw,aA,ar,cz,FZ fJ,bz,F,hG,av,a3,rZ];have ok:=d'.get bz;have hp:=ok.dU;have zR:=ok.hd;simp only[rV]at hp zR bn;obtain⟨eT,aJ,h6,t,b0,bK,gl⟩:=aW (G.nodes.getD m lK).parent (acc++[G.nodes.getD m lK]) xa bg (.bool Q) (by omega) (by intro ue;have:=be.aoy ue;simp only[dy,fS];omega) (by simpa using aP) a2;refine⟨eT,aJ,h6,t,b0,?_,gl⟩;rw[be.UB d' bz];simpa using bK
theorem be.PW(d':G.dE)(i:Int):(G.path i).length<=81:=by
 have key:∀(f:Nat) (i:Int),(G.np f i).length<=f:=by
  intro f;induction f with
  |zero=>intro i;simp[be.np]
  |succ f aW=>
    intro i;unfold be.np;split
    ·have:=aW (G.nodes.getD i.toNat lK).parent;rw[dw];omega
    ·simp
 by_cases bz:G.has i=Q
 ·have:=key (i.toNat+1) i;simp[be.has]at bz;have:=d'.qG;unfold be.path;omega
 ·rw[be.yk (by simpa using bz)];simp
theorem aoC(l:List gr):∀r∈l.map bi,r.all s2=Q:=by intro r aj;obtain⟨n,_,rfl⟩:=lR.1 aj;rfl
theorem aoD(l:List Int):∀r∈l.map (λx=>[I.int o x]),r.all s2=Q:=by intro r aj;obtain⟨n,_,rfl⟩:=lR.1 aj;rfl
theorem PX(g:gE h ah ao b G)(d':G.dE)(i:Int):aM ak T 175 [.ptr b 0 0,.int o i] h=j (.inl (e4 mL ((G.path i).map bi)),h):=by refine bd aoi rfl ?_;unfold aaA;obtain⟨eT,bg,h6,t,b0,bK,gl⟩:=aoB g d' [.ops [eY,iw],.ret] (i+1).toNat i [] h .aC .aD (by omega) (by intro bz;have:=d'.qG;simp[be.has]at bz;simp;omega) (vO _ _ _) (aK.refl h);simp only[ap,aw,aA,ar,b0,e8 gl (FB bK (aoC _))]
end
def PY:List bj:=[xC,.ops [aX,rX,cU,q5,.g (.l 1) Q .l (.bin (.int o) .leq (.l 0) (.c (.int o 15))),y1,lE],.ret]
theorem aaW:cw ak T 133 1 2 [0,2] PY [(.v 1)] Q:=by refine⟨_,_,Tryz.func133,rfl,rfl,?_,?_,?_,?_,?_⟩<;>kernel_rfl
def aaX:List bj:=[rY,.ops [aX,dv,aaY,iw],.ret]
theorem aoE:cw ak T 177 2 3 [0,1,4] aaX [(.v 2)] Q:=by refine⟨_,_,Tryz.func177,rfl,rfl,?_,?_,?_,?_,?_⟩<;>kernel_rfl
section
variable{h:ad}{ah ao:Nat->Prop}{b:Nat}{G:be}
theorem aaZ(x y:Int):aM ak T 177 [.int o x,.int o y] h=j (.inl (.int o (pY x y)),h):=by refine bd aoE rfl ?_;unfold aaX;simp only[ap,aw,aA,ar];rfl
theorem Ds(x:Int):aM ak T 133 [.int o x] h=j (.inl (.bool (zQ x)),h):=by refine bd aaW rfl ?_;unfold PY;by_cases am:0<=x<;>simp only[ap,aw,aA,ar,am,zQ]
theorem Ka(x:Int):aM ak T 126 [.int o x] h=j (.inl (.bool (wL x)),h):=by refine bd aon rfl ?_;unfold aaS;by_cases am:0<=x<;>simp only[ap,aw,aA,ar,am,wL]
def tc(G:be):Bool->Int->List gr->Int
 |_,r,[]=>r
 |first,r,n::l=>if tH G n then 0 else tc G R (pY (if first then 15 else r) n.fm) l
theorem aa0(G:be):∀(l:List gr) (r:Int),tc G R r l=if l.any (tH G)then 0 else l.foldl (λr n=>pY r n.fm) r
 |[],r=>rfl
 |n::l,r=>by simp only[tc,List.any_cons,List.foldl_cons,nx,if_false];rw[aa0 G l];by_cases al:tH G n=Q<;>simp[al]
theorem aoF(G:be)(i:Int):tc G Q 0 (G.path i)=G.fm i:=by
 unfold be.fm;cases hp:G.path i with
 |nil=>simp[tc]
 |cons n l=>simp only[tc,if_true,aa0,reduceCtorEq,false_or,List.any_cons,List.foldl_cons];cases al:tH G n<;>simp
theorem aoG(g:gE h ah ao b G)(v1 p:I)(P:List gr)(hp:hY mL p (P.map bi))(eJ:P.length<=1000):∀(l pre:List gr) (r:Int) (E:ad) (v4 v5 t1 t2 t3:I),P=pre++l->aK h E->qY Q [.v 2] h (bu (aM ak T) 12 [.ff FW,.bQ [],.b1 0,.bQ [.ops [eY,iw],.ret]] [.ptr b 0 0,v1,.int o 0,.int o r,v4,v5,p,.int o P.length,.int o pre.length,t1,t2,t3] [] E)=j (.inl (.int o (tc G pre.isEmpty r l)),h):=by
 intro l;induction l with
 |nil=>
   intro pre r E v4 v5 t1 t2 t3 e a7;rw[dd FW.eq_1];have:¬((pre.length:Int)<(P.length:Int)):=by rw[e];simp
   simp only[ap,aw,aA,ar,cz,this,tc,e8 a7 (rfl:dP (.int o r)=_)]
 |cons n l aW=>
   intro pre r E v4 v5 t1 t2 t3 e a7;rw[dd FW.eq_1];have bt:(pre.length:Int)<(P.length:Int):=by rw[e];simp;omega
   have hG:=hp.bR o pre.length (bi n) (by rw[e];simp);have m3:aK h (E.push [bi n]):=a7.trans (aK.push _ _);have hw:=gD (n:=(pre.length:Int)+1) (by omega) (by omega);have aa1:=aoA (g.hS m3);have aa2:pre.isEmpty=decide ((pre.length:Int)=0):=by cases pre<;>simp<;>omega
   have ir:∀(bZ:Int) (v4 v5 t1 t2 t3:I),qY Q [.v 2] h (bu (aM ak T) 12 [.ff FW,.bQ [],.b1 0,.bQ [.ops [eY,iw],.ret]] [.ptr b 0 0,v1,.int o 0,.int o bZ,v4,v5,p,.int o P.length,.int o ((pre.length:Int)+1),t1,t2,t3] [] (E.push [bi n]))=j (.inl (.int o (tc G R bZ l)),h):=by
    intro bZ v4 v5 t1 t2 t3;have:=aW (pre++[n]) bZ (E.push [bi n]) v4 v5 t1 t2 t3 (by simp[e]) m3;have av:(pre++[n]).isEmpty=R:=by cases pre<;>rfl
    have ax:((pre++[n]).length:Int)=(pre.length:Int)+1:=by simp
    rw[av,ax]at this;exact this
   by_cases am:0<=n.gate
   ·cases jD:G.EH n.gate
    ·have al:tH G n=Q:=by simp[tH,am,jD]
     simp only[ap,aw,aA,ar,cz,bt,hG,rZ,am,aa1,jD,tc,al,e8 m3 (rfl:dP (.int o 0)=_)]
    ·have al:tH G n=R:=by simp[tH,jD]
     cases aR:decide ((pre.length:Int)=0)<;>simp only[ap,aw,aA,ar,cz,bt,hG,rZ,am,aa1,jD,tc,al,aaZ,hw,aR,aa2,ir]
   ·have al:tH G n=R:=by simp[tH,am]
    cases aR:decide ((pre.length:Int)=0)<;>simp only[ap,aw,aA,ar,cz,bt,hG,rZ,am,tc,al,aaZ,hw,aR,aa2,ir]
theorem aa3(g:gE h ah ao b G)(d':G.dE)(i:Int):aM ak T 167 [.ptr b 0 0,.int o i] h=j (.inl (.int o (G.fm i)),h):=by refine bd aoj rfl ?_;unfold aaE;have ai:=xm mL ((G.path i).map bi);have F1:=aoG g (.int o i) (e4 mL ((G.path i).map bi)) (G.path i) ai (by have:=be.PW d' i;omega) (G.path i) [] 0 h .aD .aD .aD .aD .aD rfl (aK.refl h);simp only[ey,mn,List.isEmpty_nil,aoF]at F1;simp only[ap,aw,aA,ar,PX g d',ai.len,ai.fits,gG];exact F1
theorem aoH(g:gE h ah ao b G)(d':G.dE)(i:Int):aM ak T 179 [.ptr b 0 0,.int o i] h=j (.inl (.bx [.agg (bi (G.target i).1),.bool (G.target i).2]),h):=by
 refine bd aok rfl ?_;unfold aaF;have ai:=xm mL ((G.path i).map bi);have hw:∀(n:gr) (x:Bool),dP (.bx [.agg (bi n),.bool x])=j (.bx [.agg (bi n),.bool x]):=λn x=>rfl;have F2:=PX (g.hS (aK.push h [[.int o 0,.int o 0,.int o 0,.int o 0,.int o 0,.int o 0]])) d';have y2:∀n:gr,aK h (h.push [bi n]):=λn=>aK.push _ _;have a1:∀m:Nat,hq o (m:Int)=m->True:=λ_ _=>trivial;rcases List.eq_nil_or_concat (G.path i)with aR|⟨pre,n,aR⟩
 ·have aO:G.target i=(lK,R):=by simp[be.target,aR]
  rw[aO];have hlen:(G.path i).length=0:=by rw[aR];rfl
  simp only[ap,aw,aA,ar,F2,ai.len,ai.fits,gG,hlen,mn];exact e8 (y2 lK) (hw lK R)
 ·rw[List.concat_eq_append]at aR;have aO:G.target i=(n,Q):=by unfold be.target;rw[aR];simp[List.getLastD_eq_getLast?]
  have an:¬(((pre.length+1:Nat):Int)=0):=by omega
  have az:hq o (((pre.length+1:Nat):Int) - 1)=(pre.length:Int):=by rw[gD]<;>(have:=be.PW d' i;rw[aR]at this;simp at this;omega)
  have hG:=ai.bR o pre.length (bi n) (by rw[aR];simp);rw[aO];have hlen:(G.path i).length=pre.length+1:=by rw[aR];simp
  simp only[ap,aw,aA,ar,F2,ai.len,ai.fits,gG,hlen,an,az,hG,rZ];exact e8 (y2 n) (hw n Q)
theorem aoI(p:I)(P:List gr)(hp:hY mL p (P.map bi))(eJ:P.length<=1000)(v0 v1:I):∀(l pre:List gr) (E:ad) (v v4 t1 t2:I),P=pre++l->aK h E->Acc h E 3 v ((qH pre).map λx=>[.int o x])->qY Q [.v 2] h (bu (aM ak T) 10 [.ff J8,.bQ [],.b1 0,.bQ [.ops [eY,iw],.ret]] [v0,v1,.aC,v,v4,p,.int o P.length,.int o pre.length,t1,t2] [] E)=j (.inl (e4 3 ((qH P).map λx=>[.int o x])),h):=by
 intro l;induction l with
 |nil=>
   intro pre E v v4 t1 t2 e a7 aN;rw[dd J8.eq_1];have bt:¬((pre.length:Int)<(P.length:Int)):=by rw[e];simp
   rw[me]at e;rw[<-e]at aN;simp only[ap,aw,aA,ar,cz,bt,e8 a7 (FB aN (aoD _))]
 |cons n l aW=>
   intro pre E v v4 t1 t2 e a7 aN;rw[dd J8.eq_1];have bt:(pre.length:Int)<(P.length:Int):=by rw[e];simp;omega
   have hG:=hp.bR o pre.length (bi n) (by rw[e];simp);have m3:aK h (E.push [bi n]):=a7.trans (aK.push _ _);have hw:=gD (n:=(pre.length:Int)+1) (by omega) (by omega);have ax:((pre++[n]).length:Int)=(pre.length:Int)+1:=by simp
   have aa4:((qH pre).map λx=>[I.int o x]).length<=1000000:=by
    have:=List.length_filter_le (λn:gr=>decide (0<=n.gate)) pre;have J:pre.length<=P.length:=by rw[e];simp
    simp[qH];omega
   by_cases am:0<=n.gate
   ·have lY:qH (pre++[n])=qH pre++[n.gate]:=by simp[qH,am]
    have PZ:Acc h (E.push [bi n]) 3 v ((qH pre).map λx=>[.int o x]):=aN;obtain⟨bg,xa,av,aP,a2,a3,a4⟩:=vP PZ m3 (row:=[.int o n.gate]) rfl aa4;simp only[qj]at av;have:=aW (pre++[n]) xa bg (.ptr E.n 0 0) (.bool Q) (.bool Q) (by simp[e]) a2 (by rw[lY,rR];exact aP);rw[ax]at this;simp only[ap,aw,aA,ar,cz,bt,hG,rZ,am,hw,av,this]
   ·have lY:qH (pre++[n])=qH pre:=by simp[qH,am]
    have PZ:Acc h (E.push [bi n]) 3 v ((qH pre).map λx=>[.int o x]):=aN;have:=aW (pre++[n]) (E.push [bi n]) v (.ptr E.n 0 0) (.bool Q) (.bool R) (by simp[e]) m3 (by rw[lY];exact PZ);rw[ax]at this;simp only[ap,aw,aA,ar,cz,bt,hG,rZ,am,hw,this]
theorem aoJ(g:gE h ah ao b G)(d':G.dE)(i:Int):aM ak T 173 [.ptr b 0 0,.int o i] h=j (.inl (e4 3 ((G.ry i).map λx=>[.int o x])),h):=by refine bd aol rfl ?_;unfold aaP;have ai:=xm mL ((G.path i).map bi);have F1:=aoI (h:=h) (e4 mL ((G.path i).map bi)) (G.path i) ai (by have:=be.PW d' i;omega) (.ptr b 0 0) (.int o i) (G.path i) [] h .aC .aD .aD .aD rfl (aK.refl h) (vO _ _ _);simp only[ey,mn]at F1;simp only[ap,aw,aA,ar,PX g d',ai.len,ai.fits,gG];exact F1
end
open Go Go.RowKit
def v':ad:={n:=0,cell:=λ_=>Z,ids:=0,hw:=λ_=>0}
def AZ(W:cd):dq:={base:=W.heap.size,b1:=λ_=>0,fI:=λ_=>0,nv:=λ_=>0,dI:=λg O=>W.cell? ⟨g,O,Z⟩,iB:=λ_=>0,sG:=λ_=>0,kY:=λ_=>0,fo:=λ_=>Z}
theorem aoK{P:cu}{b:Nat}{w:cd}(h:IF P=[]/\UV P=[]):wZ P b w:=by
 refine⟨λq aE=>?_,λn aq=>?_⟩
 ·rw[h.1]at aE;cases aE
 ·rw[h.2]at aq;cases aq
theorem aoL(P:cu)(W:cd)(a7:wZ P W.heap.size W):bW P (AZ W) v' W where
 dg:=a7
 size:=bS _
 lt:=λb es ag=>by simp[v']at ag
 live:=λb es ag=>by simp[v']at ag
 inj:=λb c1 es gz ag=>by simp[v']at ag
 dI:=λg O v h=>h
 sep:=λb es ag=>by simp[v']at ag
 oP:=λk ab=>absurd ab (Nat.not_lt_zero _)
 nw:=λk ab=>absurd ab (Nat.not_lt_zero _)
 l9:=λk ab=>absurd ab (Nat.not_lt_zero _)
 nY:=λk dn ab=>absurd ab (Nat.not_lt_zero _)
 fo:=λg x aa=>by simp[AZ]at aa
theorem aoM{f:cH}{aa5:List I}{bl:List bH}{W:cd}{E:ad}(aj:aM ak T f aa5 v'=j (.inl (.bool Q),E))(U:dV ak (AZ W) v' aa5 bl)(a7:wZ ak W.heap.size W:=by exact aoK ⟨by kernel_rfl,by kernel_rfl⟩):Wz ak f bl.toArray W:=by refine(Wh cC aj (AZ W) W bl (aoL _ W a7) U).mono λe yR ⟨aZ,_,_,ag,an⟩=>?_;obtain⟨u,rfl,bE⟩:=an;cases bE;exact⟨rfl,ag⟩
theorem aoN{P:cu}{m:dq}{h:ad}(n:Int):bF P m h (.int o n) (.int o n):=.int _ _
theorem aoO{P:cu}{m:dq}{h:ad}(s:ByteArray):bF P m h (.str s.data.toList) (.string s):=by have:=bF.str (P:=P) (m:=m) (h:=h) s.data.toList;simpa using this
section
variable{P:cu}{T:gZ}{g:cH}{a aI:Nat}{aT:List Nat}{bQ:List bj}{rs:List nC}{args:List I}{h:ad}
theorem P0{p:Bool}{fc:(I⊕I)×ad->Prop}(bn:cw P T g a aI aT bQ rs p)(aN:args.length=a)(H:∀b':k3->Prop,(∀r q,qY p rs h r=j q->fc q->b' r)->b' (bu (aM P T) aI [.bQ bQ] (args++ar (aT.length - args.length) .aD) [] h)):∃q,aM P T g args h=j q/\fc q:=by obtain⟨q,F,J⟩:=H (λr=>∃q,qY p rs h r=j q/\fc q) (λr q F J=>⟨q,F,J⟩);exact⟨q,bd bn aN F,J⟩
theorem P1{v:I}(bn:cw P T g a aI aT bQ rs R)(aN:args.length=a)(H:∀b':k3->Prop,(∀V E,(iS V E rs).map iY=j v->cn E->b' (j (.ret,V,E)))->b' (bu (aM P T) aI [.bQ bQ] (args++ar (aT.length - args.length) .aD) [] h)):∃E,aM P T g args h=j (.inl v,E)/\cn E:=by obtain⟨q,F,E,rfl,J⟩:=P0 (fc:=λq=>∃E,q=(.inl v,E)/\cn E) bn aN λb' cf=>H b' λV E e r=>cf _ (.inl v,E) (by simp only[AE,e,zY,yt]) ⟨E,rfl,r⟩;exact⟨E,F,J⟩
theorem Kb{cn:I->Prop}(bn:cw P T g a aI aT bQ rs Q)(aN:args.length=a)(H:∀b':k3->Prop,(∀V E v bg,(iS V E rs).map iY=j v->aK h E->dP v=j bg->cn bg->b' (j (.ret,V,E)))->b' (bu (aM P T) aI [.bQ bQ] (args++ar (aT.length - args.length) .aD) [] h)):∃v,aM P T g args h=j (.inl v,h)/\cn v:=by obtain⟨q,F,v,rfl,J⟩:=P0 (fc:=λq=>∃v,q=(.inl v,h)/\cn v) bn aN λb' cf=>H b' λV E v bg e a7 w r=>cf _ (.inl bg,h) (by simp only[AE,e,zY];exact e8 a7 w) ⟨bg,rfl,r⟩;exact⟨v,F,J⟩
theorem jn(bn:cw P T g a aI aT bQ rs Q)(aN:args.length=a)(H:∀b':k3->Prop,(∀V E v,(iS V E rs).map iY=j v->aK h E->dP v=j bg->b' (j (.ret,V,E)))->b' (bu (aM P T) aI [.bQ bQ] (args++ar (aT.length - args.length) .aD) [] h)):aM P T g args h=j (.inl bg,h):=by obtain⟨v,F,rfl⟩:=Kb (cn:=λv=>v=bg) bn aN λb' cf=>H b' λV E v e a7 w=>cf V E v bg e a7 w rfl;exact F
end
section
variable{P:cu}{T:gZ}{g:cH}{a aI:Nat}{aT:List Nat}{bQ:List bj}{rs:List nC}{args:List I}{h:ad}
theorem F3{fc:(I⊕I)->ad->Prop}(bn:cw P T g a aI aT bQ rs R)(aN:args.length=a)(H:∀b':k3->Prop,(∀V E v,(iS V E rs).map iY=j v->fc (.inl v) E->b' (j (.ret,V,E)))->(∀V E v,fc (.inr v) E->b' (j (.panic v,V,E)))->b' (bu (aM P T) aI [.bQ bQ] (args++ar (aT.length - args.length) .aD) [] h)):∃q E,aM P T g args h=j (q,E)/\fc q E:=by obtain⟨⟨q,E⟩,e,p⟩:=P0 (fc:=λq=>fc q.1 q.2) bn aN λb' cf=>H b' (λV E v e r=>cf _ (.inl v,E) (by simp only[AE,e,zY,yt]) r) (λV E v r=>cf _ (.inr v,E) (by simp only[yT,yt]) r);exact⟨q,E,e,p⟩
end
theorem td{C:AD}{aI:Nat}{b:List bj}{K:List RK}{h:ad}{b':k3->Prop}(cA:Nat->List I->ad->Prop)(n:Nat)(am:cA 0 V h)(step:∀i V h,i<n->cA i V h->(∀cv E,cA (i+1) cv E->b' (bu C aI (.ff b::K) cv [] E))->b' (bu C aI (.ff b::K) V [] h))(stop:∀V h,cA n V h->b' (bu C aI (.ff b::K) V [] h)):b' (bu C aI (.ff b::K) V [] h):=by
 have key:∀(d i:Nat) (V:List I) (h:ad),i+d=n->cA i V h->b' (bu C aI (.ff b::K) V [] h):=by
  intro d;induction d with
  |zero=>
    intro i V h ae xD;obtain rfl:i=n:=by omega
    exact stop V h xD
  |succ d aW=>exact λi V h ae xD=>step i V h (by omega) xD λcv E P2=>aW (i+1) cv E (by omega) P2
 exact key n 0 V h (by omega) am
theorem aoP{n:Nat}:(n<n+1)=True:=by simp
theorem Kc{α:Type}(A B:List α)(x y:α){n:Nat}(aq:n=A.length):(A++x::B).set n y=A++y::B:=by subst aq;simp
theorem P3{α:Type}(A B:List α)(x:α){n:Nat}(aq:n=A.length):(A++x::B)[n]? =j x:=by subst aq;simp
theorem A0{α:Type}{l:List α}{i:Nat}{y:α}(h:l[i]? =j y):l.take (i+1)=l.take i++[y]:=by rw[List.take_add_one,h];rfl
theorem oj{n m:Int}(e:n=m)(F: -9223372036854775808<=n)(J:n<=9223372036854775807):hq o n=m:=by rw[<-e];exact gD F J
theorem aoQ{am h:ad}{e:aU}{v:I}{acc:List (List I)}(aN:Acc am h e v acc)(g:aK am h){x:I}(an:(x= .aC/\rows=[])\/∃id,x= .bN id e rows)(F:∀r∈rows,r.all I.one=Q)(ai:acc.length<=1000000)(aj:rows.length<=1000000):∃bg E,e0 R e v x h=j (bg,E)/\Acc am E e bg (acc++rows)/\aK am E/\E.cell=h.cell/\E.n=h.n:=by
 have n8:rows.all (·.all I.one)=Q:=by rw[iC];exact F
 by_cases aR:rows.length=0
 ·have CI:=mF.1 aR;subst CI;refine⟨v,h,?_,by simpa using aN,g,rfl,rfl⟩;have az:sB e v h=j (v,h):=by rcases aN with⟨_,rfl⟩|⟨id,_,_,_,_,rfl⟩<;>simp[sB]
  rcases an with⟨rfl,_⟩|⟨id,rfl⟩
  ·exact az
  ·simp[e0,js,az]
 ·obtain⟨aoR,rfl⟩:∃id,x= .bN id e rows:=by
   rcases an with⟨_,rfl⟩|an
   ·simp at aR
   ·exact an
  have av:e0 R e v (.bN aoR e rows) h=kW R e v rows h:=by simp only[e0,js,if_true,da];rw[if_neg aR]
  rw[av];unfold kW;rw[if_pos ⟨by omega,by omega,n8⟩];have cP:rows≠[]:=λe=>aR (by rw[e];rfl);rcases aN with⟨rfl,rfl⟩|⟨id,a0,aP,a2,a3,rfl⟩
  ·refine⟨_,_,rfl,.inr ⟨h.ids,by simpa using cP,g.ids,by simp[ad.fresh],by simp[ad.fresh],by simp⟩,g.trans (aK.fresh _ _),rfl,rfl⟩
  ·refine⟨.bN (j id) e (acc++rows),h.grow id (acc.length+rows.length),?_,.inr ⟨id,by simp[a0],aP,a2,by simp[ad.grow],rfl⟩,g.grow aP,rfl,rfl⟩;simp[a3,ai]
theorem aoS(e:aU)(rows:List (List I)):(e4 e rows= .aC/\rows=[])\/∃id,e4 e rows= .bN id e rows:=by
 unfold e4;by_cases aR:rows=[]
 ·exact .inl ⟨by rw[if_pos aR],aR⟩
 ·exact .inr ⟨Z,by rw[if_neg aR]⟩
theorem aoT(l:List Int):∀r∈gn l,r.all I.one=Q:=by intro r aj;obtain⟨n,_,rfl⟩:=lR.1 aj;rfl
def aa6(f:I)(xs:List I):Option (cH×List I):=match f with
 |.fn g a c=>j (g,a++xs++c)
 |_=>Z
section
variable{C:AD}{aI:Nat}{k:List RK}{V L:List I}{h:ad}{d:oZ}{bI:List aH}
theorem aa7{f:Arg}{args:List Arg}:hx V L (.call f args)=aa6 (arg V L f) (args.map (arg V L)):=by simp only[hx];cases arg V L f<;>rfl
theorem aa8{g:cH}{a c xs:List I}:aa6 (.fn g a c) xs=j (g,a++xs++c):=rfl
theorem aa9{g:cH}{xs:List I}:Jz C aI d bI k V L h (j (g,xs))=rS C aI d bI k V L (C g xs h):=rfl
theorem cx:(type_of% @OW)/\(type_of% @aa7)/\(type_of% @aa8)/\(type_of% @aa9):=⟨@OW,@aa7,@aa8,@aa9⟩
end
def gr.ints(n:gr):List Int:=[n.parent,n.gate,n.fm,n.cell,n.bD,n.func]
instance:DecidableEq gr:=λa b=>decidable_of_iff (a.ints=b.ints) ⟨λe=>by cases a;cases b;simp[gr.ints]at e;simp[e],λe=>by rw[e]⟩
section
variable{h:ad}
end
theorem ic.same{h:ad}{b:Nat}(g:gE h ah ao b G):ic h ah ao b h G:=⟨ah,ao,g,lA.refl _ _ _,λ_=>.inl,λ_=>.inl⟩
theorem ic.hS{h E:ad}{ah ao:Nat->Prop}{b:Nat}{G:be}(g:gE h ah ao b G)(x:aK h E):ic h ah ao b E G:=⟨ah,ao,g.hS x,x.vW _ _,λ_=>.inl,λ_=>.inl⟩
theorem ic.after{h F:ad}{b:Nat}{ei:be}(x:aK h F)(d:ic F ah ao b J ei):ic h ah ao b J ei:=by obtain⟨k4,k5,g,c,cW,fZ⟩:=d;have:=x.n;have:=x.ids;exact⟨k4,k5,g,(x.vW ah ao).trans c,λk ab=>(cW k ab).imp id (by omega),λD aa=>(fZ D aa).imp id (by omega)⟩
section
variable{h:ad}{ah ao:Nat->Prop}{b:Nat}{G:be}
theorem aoU(h:ad){b:Nat}{l:List Bool}(g:xp h ah b pH ea (l.map λx=>[.bool x]))(ai:l.length<=1000):∃E bg,e0 Q pH ea (.br h.n 0 1 pH) (h.push [[.bool R]])=j (bg,E)/\gY bg=j (l.length+1)/\(∀s,ko s (j pH) bg=Q)/\bg.one=Q/\bg.cells=[bg]/\E.ids=h.ids/\E.hw=h.hw/\E.n=h.n+2/\E.cell (h.n+1)=j ((l++[R]).map λx=>[.bool x])/\bg= .br (h.n+1) 0 (l.length+1) pH/\∀k,k<h.n->¬(ah k/\k≠b)->E.cell k=h.cell k:=by
 have gI:js (h.push [[.bool R]]) pH (.br h.n 0 1 pH)=j [[.bool R]]:=by simp[js,fU]
 rcases g with⟨F,rfl⟩|⟨q,F,J,af,aB,rfl⟩
 ·have qd:l=[]:=by simpa using F
  subst qd;refine⟨(h.push [[.bool R]]).push [[.bool R]],.br (h.n+1) 0 1 pH,?_,rfl,λs=>yV,rfl,rfl,rfl,rfl,rfl,?_,rfl,λk ab _=>?_⟩
  ·simp[e0,gI,kW,I.one,ek]
  ·simp[ad.push]
  ·simp[ad.push,show k≠h.n by omega,show k≠h.n+1 by omega]
 ·have aE:q≠h.n:=by omega
  refine⟨((h.push [[.bool R]]).set q Z).push ((l.map λx=>[.bool x])++[[.bool R]]),.br (h.n+1) 0 (l.length+1) pH,?_,rfl,λs=>yV,rfl,rfl,rfl,rfl,rfl,?_,rfl,λk ab uC=>?_⟩
  ·have av:(h.push [[.bool R]]).cell q=j (l.map λx=>[.bool x]):=by rw[vN aE];exact aB
   simp only[e0,gI,da,fS,Nat.one_ne_zero,if_false,kW,gG];rw[if_pos ⟨by omega,by omega,rfl⟩,if_pos ⟨trivial,trivial,by omega⟩,av];have ax:List.take l.length (l.map λx=>[I.bool x])=l.map λx=>[.bool x]:=List.take_of_length_le (by simp);simp[ek,ax]
  ·simp[ad.push,ad.set]
  ·have:k≠q:=λe=>uC (by subst e;exact⟨F,J⟩);simp[ad.push,ad.set,show k≠h.n by omega,show k≠h.n+1 by omega,this]
theorem aoV{E:ad}{aI:I}(g:gE h ah ao b G)(J:xo h ao mL aI (G.nodes.map bi))(av:E.ids=h.ids)(ax:E.hw=h.hw)(bs:E.n=h.n+2)(cq:E.cell (h.n+1)=j ((G.shut++[R]).map λx=>[.bool x]))(eX:bg= .br (h.n+1) 0 (G.shut.length+1) pH)(jG:∀k,k<h.n->¬(ah k/\k≠b)->E.cell k=h.cell k):ic h ah ao b (E.set b (j [[aI,bg]])) ⟨G.nodes,G.shut++[R]⟩:=by
 have hE:=g.ag.2;refine⟨λk=>k=b\/k=h.n+1,ao,⟨⟨.inl rfl,by rw[iF,bs];omega⟩,⟨by rintro k (rfl|rfl)<;>(rw[iF,bs];omega),λD aa=>by rw[AG,av];exact g.lt.2 D aa⟩,aI,bg,i7,?_,.inr ⟨h.n+1,.inr rfl,by omega,by rw[iF,bs];omega,by rw[dL (by omega)];exact cq,?_⟩⟩,⟨by rw[iF,bs];omega,by rw[AG,av];omega,λk ab cW=>?_,λD aa fZ=>by rw[AH,ax]⟩,?_,λ_=>.inl⟩
 ·rcases J with J|⟨id,aP,a0,a2,a3,a4⟩
  ·exact .inl J
  ·exact .inr ⟨id,aP,a0,by rw[AG,av];exact a2,by rw[AH,ax];exact a3,a4⟩
 ·rw[eX];simp
 ·have:k≠b:=λe=>cW (by rw[e];exact g.ag.1);rw[dL this];exact jG k ab λx=>cW x.1
 ·rintro k (rfl|rfl)
  ·exact .inl g.ag.1
  ·exact .inr (by omega)
theorem aa'(g:gE h ah ao b G)(d':G.dE):∃E,aM ak T 113 [.ptr b 0 0] h=j (.inl (.bx [.int o G.gate.2.1,.int o G.gate.2.2]),E)/\ic h ah ao b E G.gate.1:=by
 obtain⟨aI,ea,F,J,af⟩:=g.ex;have aAC:=d'.ec;cases a1:decide ((G.shut.length:Int)=20)
 ·have cP:¬G.shut.length=20:=by simp at a1;omega
  have ez:G.gate=(⟨G.nodes,G.shut++[R]⟩,(G.shut.length:Int),0):=by unfold be.gate;rw[if_neg cP]
  obtain⟨E,bg,aP,a2,a3,a4,a5,iI,Dt,F4,a9,aoW,aba⟩:=aoU h af (by omega);have hE:b≠h.n:=by have:=g.ag.2;omega
  have JM:E.cell b=j [[aI,ea]]:=(aba b g.ag.2 (λx=>x.2 rfl)).trans F;have Du:hq o (((G.shut.length+1:Nat):Int) - 1)=(G.shut.length:Int):=by rw[gD]<;>omega
  refine⟨E.set b (j [[aI,bg]]),?_,by rw[ez];exact aoV g J iI Dt F4 a9 aoW aba⟩;rw[ez];refine bd aag rfl ?_;unfold Pz;simp only[ap,aw,aA,ar,F,af.len.1,af.len.2,gG,a1,aP,JM,a4,a5,a2,a3,Du]
 ·have he:G.shut.length=20:=by simp at a1;omega
  have ez:G.gate=(G,0,11):=by unfold be.gate;rw[if_pos he]
  refine⟨h,?_,by rw[ez];exact ic.same g⟩;rw[ez];refine bd aag rfl ?_;unfold Pz;simp only[ap,aw,aA,ar,F,af.len.1,af.len.2,gG,a1]
theorem aoX{aI:I}(g:gE h ah ao b G)(F:h.cell b=j [[aI,ea]])(J:xo h ao mL aI (G.nodes.map bi)){m q:Nat}(hm:m<G.shut.length)(av:ah q)(ax:q≠b)(bs:q<h.n)(cq:ea= .br q 0 G.shut.length pH):ic h ah ao b (h.set q (j ((G.shut.map λx=>[I.bool x]).set m [.bool Q]))) ⟨G.nodes,G.shut.set m Q⟩:=by
 refine⟨ah,ao,⟨⟨g.ag.1,g.ag.2⟩,g.lt,aI,ea,by rw[dL (lo ax)];exact F,?_,.inr ⟨q,av,ax,bs,by rw[i7,List.map_set],by rw[cq];simp⟩⟩,⟨bS _,bS _,λk ab cW=>dL (λe=>cW (by rw[e];exact av)),λ_ _ _=>rfl⟩,λ_=>.inl,λ_=>.inl⟩;rcases J with J|⟨id,aP,a0,a2,a3,a4⟩
 ·exact .inl J
 ·exact .inr ⟨id,aP,a0,a2,a3,a4⟩
theorem abb(g:gE h ah ao b G)(k:Int):∃E,aM ak T 112 [.ptr b 0 0,.int o k] h=j (.inl (.int o (G.cut k).2),E)/\ic h ah ao b E (G.cut k).1:=by
 obtain⟨aI,ea,F,J,af⟩:=g.ex;cases bz:G.oH k
 ·have ez:G.cut k=(G,8):=by unfold be.cut;rw[if_neg (by simp[bz])]
  rw[ez];refine⟨h,?_,ic.same g⟩;refine bd aam rfl ?_;unfold PC;simp only[ap,aw,aA,ar,FY g,bz]
 ·obtain⟨m,rfl,hm⟩:=be.aaV bz;have ez:G.cut (m:Int)=(⟨G.nodes,G.shut.set m Q⟩,0):=by unfold be.cut;rw[if_pos bz];simp
  obtain⟨q,av,ax,bs,cq,eX,jG,kS⟩:=aaU af hm;rw[ez];refine⟨_,?_,aoX g F J hm cq eX jG kS⟩;refine bd aam rfl ?_;unfold PC;simp only[ap,aw,aA,ar,FY g,bz,F,av,ax,bs]
theorem aoY(h:ad){aI:I}(g:xo h ao mL aI rows){row:List I}(aj:row.all I.one=Q)(ai:rows.length<=1000):∃E bg,e0 R mL aI (.bN (j h.ids) mL [row]) (h.fresh 1)=j (bg,E)/\gY bg=j (rows.length+1)/\(∀s,ko s (j mL) bg=Q)/\bg.one=Q/\bg.cells=[bg]/\E.cell=h.cell/\E.n=h.n/\h.ids<=E.ids/\(∃id,(ao id\/h.ids<=id)/\id<E.ids/\E.hw id=rows.length+1/\bg= .bN (j id) mL (rows++[row])/\∀D,D<h.ids->¬ao D->E.hw D=h.hw D):=by
 have jE:[row].all (·.all I.one)=Q:=by simpa using aj
 rcases g with⟨rfl,rfl⟩|⟨id,aP,a0,a2,a3,rfl⟩
 ·refine⟨(h.fresh 1).fresh 1,.bN (j (h.ids+1)) mL [row],?_,rfl,λs=>CW,rfl,rfl,rfl,rfl,by simp[ad.fresh];omega,h.ids+1,.inr (by omega),by simp[ad.fresh],by simp[ad.fresh],by simp,λD aa _=>by simp[ad.fresh,show D≠h.ids by omega,show D≠h.ids+1 by omega]⟩;simp only[e0,js,if_true,da,fS,Nat.one_ne_zero,if_false,kW];rw[if_pos ⟨by omega,by omega,jE⟩];rfl
 ·have cP:id≠h.ids:=by omega
  refine⟨(h.fresh 1).grow id (rows.length+1),.bN (j id) mL (rows++[row]),?_,by simp[gY],λs=>CW,rfl,rfl,rfl,rfl,by simp[ad.fresh,ad.grow],id,.inl aP,by simp[ad.fresh,ad.grow];omega,by simp[ad.grow],rfl,λD aa fZ=>?_⟩
  ·simp only[e0,js,if_true,da,fS,Nat.one_ne_zero,if_false,kW];rw[if_pos ⟨by omega,by omega,jE⟩,FA cP,a3,if_pos ⟨trivial,rfl,by omega⟩]
  ·have F:D≠id:=λe=>fZ (by rw[e];exact aP);simp[ad.grow,ad.fresh,F,show D≠h.ids by omega]
theorem aoZ{E:ad}{n:gr}(g:gE h ah ao b G)(af:xp h ah b pH ea (G.shut.map λx=>[.bool x]))(av:E.cell=h.cell)(ax:E.n=h.n)(gI:h.ids<=E.ids)(bs:∃id,(ao id\/h.ids<=id)/\id<E.ids/\E.hw id=G.nodes.length+1/\bg= .bN (j id) mL (G.nodes.map bi++[bi n])/\∀D,D<h.ids->¬ao D->E.hw D=h.hw D):ic h ah ao b (E.set b (j [[bg,ea]])) ⟨G.nodes++[n],G.shut⟩:=by
 obtain⟨id,aP,a2,a3,a4,a5⟩:=bs;refine⟨ah,λD=>D=id,⟨⟨g.ag.1,by rw[iF,ax];exact g.ag.2⟩,⟨λk ab=>by rw[iF,ax];exact g.lt.1 k ab,λD aa=>by rw[aa];exact a2⟩,bg,ea,i7,.inr ⟨id,rfl,by simp,a2,by rw[AH,a3];simp,by rw[a4];simp⟩,?_⟩,⟨by rw[iF,ax];exact bS _,by rw[AG];exact gI,λk ab cW=>?_,λD aa fZ=>by rw[AH];exact a5 D aa fZ⟩,λ_=>.inl,λD aa=>by rw[aa];exact aP⟩
 ·rcases af with af|⟨q,dk,dH,g0,k2,te⟩
  ·exact .inl af
  ·exact .inr ⟨q,dk,dH,by rw[iF,ax];exact g0,by rw[dL dH,av];exact k2,te⟩
 ·rw[dL (λe=>cW (by rw[e];exact g.ag.1)),av]
theorem P4(g:gE h ah ao b G)(d':G.dE)(n:gr):∃E,aM ak T 127 [.ptr b 0 0,.agg (bi n)] h=j (.inl (.bx [.int o (G.add n).2.1,.int o (G.add n).2.2]),E)/\ic h ah ao b E (G.add n).1:=by
 have y2:=aK.push h [bi n];have g1:=g.hS y2;have hE:h.n≠b:=by have:=g.ag.2;omega
 obtain⟨aI,ea,F,J,af⟩:=g1.ex;have aa4:=d'.qG;have Dv:=FY g1;unfold be.add
 skip
 cases al:zQ n.fm
 ·rw[if_pos rfl];refine⟨h.push [bi n],?_,ic.hS g y2⟩;refine bd Dl rfl ?_;unfold AW;simp only[ap,aw,aA,ar,rZ,Ds,al]
 ·rw[if_neg (by simp)];have stop:(n.gate≠ -1/\G.oH n.gate=R)\/(n.gate= -1\/G.oH n.gate=Q):=by
   by_cases e:n.gate= -1
   ·exact .inr (.inl e)
   ·cases bz:G.oH n.gate
    ·exact .inl ⟨e,rfl⟩
    ·exact .inr (.inr rfl)
  rcases stop with az|az
  ·rw[if_pos az];refine⟨h.push [bi n],?_,ic.hS g y2⟩;obtain⟨aY,bf⟩:=az;refine bd Dl rfl ?_;unfold AW;simp only[ap,aw,aA,ar,rZ,Ds,al,Dv,aY,bf]
  ·have E7:¬(n.gate≠ -1/\G.oH n.gate=R):=by
    rintro⟨a,b⟩;rcases az with az|az
    ·exact a az
    ·rw[b]at az;cases az
   rw[if_neg E7];have kN:decide (n.gate= -1)=Q\/decide (n.gate= -1)=R/\G.oH n.gate=Q:=by
    rcases az with az|az
    ·exact .inl (by simp[az])
    ·by_cases e:n.gate= -1
     ·exact .inl (by simp[e])
     ·exact .inr ⟨by simp[e],az⟩
   cases a1:decide ((G.nodes.length:Int)=80)
   ·have cP:¬G.nodes.length=80:=by simp at a1;omega
    rw[if_neg cP];obtain⟨E,bg,aP,a2,a3,a4,a5,iI,Dt,F4,a9⟩:=aoY (h.push [bi n]) J (row:=bi n) rfl (by simp;omega);have Du:hq o (((G.nodes.length+1:Nat):Int) - 1)=(G.nodes.length:Int):=by rw[gD]<;>omega
    refine⟨E.set b (j [[bg,ea]]),?_,ic.after y2 (aoZ g1 af iI Dt F4 (by simpa using a9))⟩;simp only[qj,gG]at aP a2;rcases kN with kN|⟨kN,uD⟩
    ·refine bd Dl rfl ?_;unfold AW;simp only[ap,aw,aA,ar,ct,rZ,Ds,al,kN,a1,F,J.iH.len,J.iH.fits,gG,aP,a2,a3,a4,a5,iI,Du]
    ·refine bd Dl rfl ?_;unfold AW;simp only[ap,aw,aA,ar,ct,rZ,Ds,al,Dv,kN,uD,a1,F,J.iH.len,J.iH.fits,gG,aP,a2,a3,a4,a5,iI,Du]
   ·have he:G.nodes.length=80:=by simp at a1;omega
    rw[if_pos he];refine⟨h.push [bi n],?_,ic.hS g y2⟩;rcases kN with kN|⟨kN,uD⟩
    ·refine bd Dl rfl ?_;unfold AW;simp only[ap,aw,aA,ar,rZ,Ds,al,kN,a1,F,J.iH.len,J.iH.fits,gG]
    ·refine bd Dl rfl ?_;unfold AW;simp only[ap,aw,aA,ar,rZ,Ds,al,Dv,kN,uD,a1,F,J.iH.len,J.iH.fits,gG]
end
section
variable{h E am:ad}{ah ao aL aF:Nat->Prop}{X Y cI:b2}{L:List b2}
theorem en.same(x:X.A h ah ao):en h ah ao h X:=⟨ah,ao,x,lA.refl _ _ _,λ_=>.inl,λ_=>.inl⟩
theorem en.imp(F5:∀h ah ao,X.A h ah ao->Y.A h ah ao)(d:en h ah ao E X):en h ah ao E Y:=by obtain⟨k4,k5,x,r⟩:=d;exact⟨k4,k5,F5 _ _ _ x,r⟩
theorem en.chain(fe:lA aL aF am h)(a:∀k,ah k->aL k\/am.n<=k)(b:∀D,ao D->aF D\/am.ids<=D)(d:en h ah ao E Y):en am aL aF E Y:=by
 obtain⟨dX,eb,y,c2,a2,dH⟩:=d;refine⟨dX,eb,y,fe.then c2 a b,λk ab=>?_,λD aa=>?_⟩
 ·rcases a2 k ab with h|h
  ·exact a k h
  ·exact .inr (ee fe.n h)
 ·rcases dH D aa with h|h
  ·exact b D h
  ·exact .inr (ee fe.ids h)
theorem abc(x:(hj X cI).A h ah ao)(c:∀eH eI,X.A h eH eI->∃E,cn E/\en h eH eI E Y):∃E,cn E/\en h ah ao E (hj Y cI):=by
 obtain⟨eH,eI,dX,eb,bY,z,cW,fZ,oh,q4⟩:=x;obtain⟨E,r,nH,nI,y,c3,a3,g0⟩:=c eH eI bY;have lq:=cI.lt z;refine⟨E,r,λk=>nH k\/dX k,λD=>nI D\/eb D,⟨nH,nI,dX,eb,y,cI.fs z c3 (λk ab F=>oh k F ab) (λD aa F=>q4 D F aa),λ_=>mN,λ_=>mN,λk af J=>?_,λD af J=>?_⟩,?_,λk ab=>?_,λD aa=>?_⟩
 ·rcases a3 k af with h|h
  ·exact oh k h J
  ·have:=lq.1 k J;omega
 ·rcases g0 D af with h|h
  ·exact q4 D h J
  ·have:=lq.2 D J;omega
 ·exact⟨c3.n,c3.ids,λk ab aq=>c3.cell k ab λF=>aq ((cW k).2 (.inl F)),λD aa aq=>c3.hw D aa λF=>aq ((fZ D).2 (.inl F))⟩
 ·rcases ab with h|h
  ·exact(a3 k h).imp (λh=>(cW k).2 (.inl h)) id
  ·exact .inl ((cW k).2 (.inr h))
 ·rcases aa with h|h
  ·exact(g0 D h).imp (λh=>(fZ D).2 (.inl h)) id
  ·exact .inl ((fZ D).2 (.inr h))
theorem F6(x:(hj X Y).A h ah ao):(hj Y X).A h ah ao:=by obtain⟨eH,eI,dX,eb,bY,z,cW,fZ,oh,q4⟩:=x;exact⟨dX,eb,eH,eI,z,bY,λk=>(cW k).trans or_comm,λD=>(fZ D).trans or_comm,λk J F=>oh k F J,λD J F=>q4 D F J⟩
theorem F7(x:(hj (hj X Y) cI).A h ah ao):(hj X (hj Y cI)).A h ah ao:=by
 obtain⟨eH,eI,dX,eb,⟨nH,nI,r0,r1,e3,hF,P5,P6,ao0,ao1⟩,z,cW,fZ,oh,q4⟩:=x;refine⟨nH,nI,λk=>r0 k\/dX k,λD=>r1 D\/eb D,e3,⟨r0,r1,dX,eb,hF,z,λ_=>mN,λ_=>mN,λk aB=>oh k ((P5 k).2 (.inr aB)),λD aB=>q4 D ((P6 D).2 (.inr aB))⟩,λk=>?_,λD=>?_,λk af h=>?_,λD af h=>?_⟩
 ·rw[cW k,P5 k,or_assoc]
 ·rw[fZ D,P6 D,or_assoc]
 ·rcases h with h|h
  ·exact ao0 k af h
  ·exact oh k ((P5 k).2 (.inl af)) h
 ·rcases h with h|h
  ·exact ao1 D af h
  ·exact q4 D ((P6 D).2 (.inl af)) h
theorem mp(x:(hj X (hj Y cI)).A h ah ao):(hj Y (hj X cI)).A h ah ao:=by have a:=F7 (F6 x);obtain⟨eH,eI,dX,eb,y,ao2,r⟩:=a;exact⟨eH,eI,dX,eb,y,F6 ao2,r⟩
theorem tf{vz vA:b2}(an:∀h ah ao,X.A h ah ao->vz.A h ah ao)(bq:∀h ah ao,Y.A h ah ao->vA.A h ah ao)(x:(hj X Y).A h ah ao):(hj vz vA).A h ah ao:=by obtain⟨eH,eI,dX,eb,bY,fv,r⟩:=x;exact⟨eH,eI,dX,eb,an _ _ _ bY,bq _ _ _ fv,r⟩
def aQ(am:ad)(aL aF:Nat->Prop)(h:ad)(L:List b2):Prop:=en am aL aF h (cX L)
theorem aQ.perm{qX:List b2}(hp:List.Perm L qX):∀{h ah ao},(cX L).A h ah ao->(cX qX).A h ah ao:=by
 induction hp with
 |nil=>exact λx=>x
 |cons X _ aW=>exact λx=>tf (λ_ _ _ y=>y) (λ_ _ _ y=>aW y) x
 |swap X Y l=>exact λx=>mp x
 |trans _ _ tT yw=>exact λx=>yw (tT x)
theorem cX.front:∀{L:List b2} {i:Nat} {X:b2},L[i]? =j X->∀{h ah ao},(cX L).A h ah ao↔(hj X (cX (L.eraseIdx i))).A h ah ao
 |[],i,X,ae,_,_,_=>by simp at ae
 |Y::L,0,X,ae,h,ah,ao=>by
   obtain rfl:Y=X:=by simpa using ae
   exact mN
 |Y::L,i+1,X,ae,h,ah,ao=>by
   have aW:∀{h:ad} {ah ao:Nat->Prop},(cX L).A h ah ao↔(hj X (cX (L.eraseIdx i))).A h ah ao:=cX.front (by simpa using ae);constructor
   ·intro x;exact mp (tf (λ_ _ _ y=>y) (λ_ _ _ y=>aW.1 y) x)
   ·intro x;exact tf (λ_ _ _ y=>y) (λ_ _ _ y=>aW.2 y) (mp x)
theorem cX.back{i:Nat}(ae:i<L.length)(x:(hj X (cX (L.eraseIdx i))).A h ah ao):(cX (L.set i X)).A h ah ao:=by rw[cX.front (L:=L.set i X) (i:=i) (X:=X) (by simp[ae])];rw[show(L.set i X).eraseIdx i=L.eraseIdx i from List.eraseIdx_set_eq];exact x
theorem aQ.call(s:aQ am aL aF h L)(i:Nat)(ae:L[i]? =j X)(c:∀ah ao,X.A h ah ao->∃E,cn E/\en h ah ao E Y):∃E,cn E/\aQ am aL aF E (L.set i Y):=by have ai:i<L.length:=(fR.1 ae).1;obtain⟨ah,ao,x,fe,a,b⟩:=s;obtain⟨E,r,d⟩:=abc ((cX.front ae).1 x) c;exact⟨E,r,en.chain fe a b (d.imp λ_ _ _ y=>cX.back ai y)⟩
theorem aQ.start(x:(cX L).A h ah ao):aQ h ah ao h L:=en.same x
theorem aQ.get(s:aQ am aL aF h L)(i:Nat)(ae:L[i]? =j X):∃ah ao,X.A h ah ao:=by obtain⟨ah,ao,x,_⟩:=s;obtain⟨eH,eI,_,_,bY,_⟩:=(cX.front ae).1 x;exact⟨eH,eI,bY⟩
theorem aQ.cell(s:aQ am aL aF h L)(i:Nat){b:Nat}{es:List (List I)}(ae:L[i]? =j (bm b es)):h.cell b=j es/\b<h.n:=by obtain⟨_,_,_,_,c,d⟩:=s.get i ae;exact⟨d,c⟩
theorem aQ.imp{qX:List b2}(s:aQ am aL aF h L)(an:∀h ah ao,(cX L).A h ah ao->(cX qX).A h ah ao):aQ am aL aF h qX:=en.imp an s
theorem aQ.hS(s:aQ am aL aF h L)(g:aK h E):aQ am aL aF E L:=by obtain⟨ah,ao,x,fe,a,b⟩:=s;have lt:=(cX L).lt x;exact⟨ah,ao,(cX L).fs x (g.vW (λ_=>False) λ_=>False) (λ_ _ h=>h) (λ_ _ h=>h),fe.trans (g.vW _ _),a,b⟩
theorem aQ.add(s:aQ am aL aF h L)(g:aK h E){eH eI:Nat->Prop}(bY:X.A E eH eI)(cW:∀k,eH k->h.n<=k)(fZ:∀D,eI D->h.ids<=D):aQ am aL aF E (X::L):=by
 obtain⟨ah,ao,x,fe,a,b⟩:=s;have lt:=(cX L).lt x;have hV:=(cX L).fs x (g.vW (λ_=>False) λ_=>False) (λ_ _ h=>h) (λ_ _ h=>h);refine⟨λk=>eH k\/ah k,λD=>eI D\/ao D,⟨eH,eI,ah,ao,bY,hV,λ_=>mN,λ_=>mN,λk F J=>?_,λD F J=>?_⟩,fe.trans (g.vW _ _),λk ab=>?_,λD aa=>?_⟩
 ·have:=lt.1 k J;have:=cW k F;omega
 ·have:=lt.2 D J;have:=fZ D F;omega
 ·exact ab.elim (λh=>.inr (ee fe.n (cW k h))) (a k)
 ·exact aa.elim (λh=>.inr (ee fe.ids (fZ D h))) (b D)
theorem aQ.push(s:aQ am aL aF h L)(es:List (List I)):aQ am aL aF (h.push es) (bm h.n es::L):=s.add (aK.push h es) (eH:=λk=>k=h.n) (eI:=λ_=>False) ⟨λ_=>mN,λ_ h=>h,q6 _,fU⟩ (λk ab=>p3 ab.symm) (λ_ h=>h.elim)
theorem aQ.fresh(s:aQ am aL aF h L)(m:Nat):aQ am aL aF (h.fresh m) (FE h.ids m::L):=s.add (aK.fresh h m) (eH:=λ_=>False) (eI:=λD=>D=h.ids) ⟨λ_ h=>h,λ_=>mN,q6 _,by simp[ad.fresh]⟩ (λ_ h=>h.elim) (λD aa=>p3 aa.symm)
theorem aQ.set(s:aQ am aL aF h L)(i:Nat){b:Nat}{es:List (List I)}(ae:L[i]? =j (bm b es))(dM:List (List I)):aQ am aL aF (h.set b (j dM)) (L.set i (bm b dM)):=by obtain⟨E,rfl,d⟩:=s.call (cn:=λq=>q=h.set b (j dM)) i ae (Y:=bm b dM) λah ao ⟨aP,a2,a3,a4⟩=>⟨_,rfl,ah,ao,⟨aP,a2,a3,i7⟩,⟨bS _,bS _,λk _ ab=>dL λe=>ab ((aP k).2 e),λ_ _ _=>rfl⟩,λ_=>.inl,λ_=>.inl⟩;exact d
theorem aQ.del(s:aQ am aL aF h L)(i:Nat){b:Nat}(ae:L[i]? =j (bm b es)):aQ am aL aF (h.set b Z) (L.set i (xq True)):=by obtain⟨E,rfl,d⟩:=s.call (cn:=λq=>q=h.set b Z) i ae (Y:=xq True) λah ao ⟨aP,a2,a3,a4⟩=>⟨_,rfl,λ_=>False,λ_=>False,⟨trivial,λ_ h=>h,λ_ h=>h⟩,⟨bS _,bS _,λk _ ab=>dL λe=>ab ((aP k).2 e),λ_ _ _=>rfl⟩,λ_ h=>h.elim,λ_ h=>h.elim⟩;exact d
theorem aQ.drop(s:aQ am aL aF h (X::L)):aQ am aL aF h L:=by obtain⟨ah,ao,⟨eH,eI,dX,eb,_,db,cW,fZ,_,_⟩,fe,a,b⟩:=s;exact⟨dX,eb,db,fe,λk ab=>a k ((cW k).2 (.inr ab)),λD aa=>b D ((fZ D).2 (.inr aa))⟩
end
open Go Go.ChangeShapes Go.WideShapes Go.ChangeAt Go.RowKit Go.Deep
section
variable{H:Type}{enc:aU×bH->H}{P:cu}{W:cd}{S:List aU}
end
section
variable{P:cu}{t e:aU}{cs:List I}
theorem ao3{α:Type}{l:List α}(h:l.length=2):∃a b,l=[a,b]:=by
 match l,h with
 |[a,b],_=>exact⟨a,b,rfl⟩
theorem ao4{α:Type}{l:List α}(h:l.length=3):∃a b c,l=[a,b,c]:=by
 match l,h with
 |[a,b,c],_=>exact⟨a,b,c,rfl⟩
end
theorem fH.iH{e:aU}{v:I}(h:fH e v es):hY e v es:=by
 rcases h with⟨rfl,rfl⟩|⟨id,rfl⟩
 ·exact yW e
 ·exact rT _ _ _
theorem fb.len:∀{l:List ay} {es:List (List I)},fb l es->es.length=l.length
 |[],es,h=>by simp only[fb]at h;subst h;rfl
 |x::l,es,h=>by simp only[fb]at h;obtain⟨r,rs,rfl,_,J⟩:=h;simp[fb.len J]
theorem fb.get:∀{l:List ay} {es:List (List I)} {i:Nat} {x:ay},fb l es->l[i]? =j x->∃r,es[i]? =j r/\ck x r
 |[],es,i,x,h,an=>by simp at an
 |y::l,es,i,x,h,an=>by
   simp only[fb]at h;obtain⟨r,rs,rfl,F,J⟩:=h;cases i with
   |zero=>
     obtain rfl:y=x:=by simpa using an
     exact⟨r,rfl,F⟩
   |succ i=>simpa using fb.get J (by simpa using an)
theorem fb.append{l:List ay}{r:List I}(h:fb l es)(an:ck x r):fb (l++[x]) (es++[r]):=by
 induction l generalizing es with
 |nil=>simp only[fb]at h;subst h;simp[fb,an]
 |cons y l aW=>simp only[fb]at h;obtain⟨q,rs,rfl,F,J⟩:=h;exact⟨q,rs++[r],rfl,F,aW J⟩
theorem ck.row{r:List I}(h:ck x r):∃v es,r=[.int o x.kind,.int o x.n,v]/\fH cD v es/\fb x.l es:=by
 cases x with
 |mk kind n l=>simp only[ck]at h;exact h
theorem ck.one{x:ay}{r:List I}(h:ck x r):r.all I.one=Q/\r.length=3:=by obtain⟨v,es,rfl,U,_⟩:=h.row;rcases U with⟨_,rfl⟩|⟨id,rfl⟩<;>exact⟨rfl,rfl⟩
mutual
theorem F8:∀{x:ay} {r:List I},ck x r->∃bZ,lP r=j bZ/\ck x bZ
 |.mk kind n l,r,h=>by
   simp only[ck]at h;obtain⟨v,es,rfl,U,ai⟩:=h;obtain⟨gz,F,J⟩:=Kd ai;rcases U with⟨rfl,rfl⟩|⟨id,rfl⟩
   ·exact⟨_,rfl,by simp only[ck];exact⟨_,[],rfl,.inl ⟨rfl,rfl⟩,ai⟩⟩
   ·refine⟨[.int o kind,.int o n,.bN Z cD gz],?_,?_⟩
    ·simp only[lP,dP,F,g3]
    ·simp only[ck];exact⟨_,gz,rfl,.inr ⟨_,rfl⟩,J⟩
theorem Kd:∀{l:List ay} {es:List (List I)},fb l es->∃gz,ki es=j gz/\fb l gz
 |[],es,h=>by simp only[fb]at h;subst h;exact⟨[],rfl,rfl⟩
 |x::l,es,h=>by simp only[fb]at h;obtain⟨r,rs,rfl,F,J⟩:=h;obtain⟨bZ,bT,bM⟩:=F8 F;obtain⟨vL,du,eB⟩:=Kd J;exact⟨bZ::vL,by simp only[ki,bT,du],by simp only[fb];exact⟨bZ,vL,rfl,bM,eB⟩⟩
end
structure F9(h:ad)(v:I)(l:List ay):Prop where
 len:gY v=j l.length
 fits:∀s,ko s (j cD) v=Q
 one:v.one=Q
 bR:∀(i:Nat) (y:ay),l[i]? =j y->∃a q,fg (j cD) Z v (.int o (i:Int))=j a/\(∀E,aK h E->cO Q 3 E a=j (.agg q))/\ck y q
theorem F9.of{h:ad}{v:I}{l:List ay}(U:fH cD v es)(ai:fb l es):F9 h v l:=by
 refine⟨?_,U.iH.fits,?_,λi y bq=>?_⟩
 ·rw[<-ai.len];exact U.iH.len
 ·rcases U with⟨_,rfl⟩|⟨id,rfl⟩<;>rfl
 ·obtain⟨q,F,J⟩:=ai.get bq;exact⟨.ip q 0,q,U.iH.bR o i q F,λE _=>jP J.one.2,J⟩
theorem ck.mk{v:I}(U:fH cD v es)(ai:fb x.l es):ck x [.int o x.kind,.int o x.n,v]:=by rw[x.eta];simp only[ck];exact⟨v,es,rfl,U,by simpa[ay.l]using ai⟩
theorem ck.facts{r:List I}(h:ck x r):∃v es,r=[.int o x.kind,.int o x.n,v]/\hY cD v es/\v.one=Q/\es.length=x.l.length/\∀(i:Nat) (y:ay),x.l[i]? =j y->∃q,fg (j cD) Z v (.int o (i:Int))=j (.ip q 0)/\gX Q 3 q 0=j (.agg q)/\ck y q:=by
 obtain⟨v,es,rfl,U,ai⟩:=h.row;refine⟨v,es,rfl,U.iH,?_,ai.len,λi y bq=>?_⟩
 ·rcases U with⟨_,rfl⟩|⟨id,rfl⟩<;>rfl
 ·obtain⟨q,F,J⟩:=ai.get bq;exact⟨q,U.iH.bR o i q F,jP J.one.2,J⟩
mutual
def ay.wf:ay->Prop
 |.mk kind n l=>bL kind/\bL n/\Dw l
def Dw:List ay->Prop
 |[]=>True
 |x::l=>x.wf/\Dw l
end
abbrev fk:aU:=233
abbrev lZ:aU:=234
theorem ck.dx{r:List I}(h:ck x r):r.length=3/\r.all I.one=Q:=by
 cases x with
 |mk k n l=>obtain⟨v,es,rfl,F,_⟩:=h;rcases F with⟨_,rfl⟩|⟨id,rfl⟩<;>exact⟨rfl,rfl⟩
theorem fb.app:∀{l m:List ay} {es dM:List (List I)},fb l es->fb m dM->fb (l++m) (es++dM)
 |[],m,es,dM,h,g=>by simp only[fb]at h;subst h;exact g
 |x::l,m,es,dM,h,g=>by obtain⟨r,rs,rfl,F,J⟩:=h;exact⟨r,rs++dM,rfl,F,fb.app J g⟩
theorem fb.one{r:List I}(h:ck x r):fb [x] [r]:=⟨r,[],rfl,h,rfl⟩
theorem fb.take:∀{l:List ay} {es:List (List I)},fb l es->∀n,fb (l.take n) (es.take n)
 |[],_,h,n=>by simp only[fb]at h;subst h;simp[fb]
 |y::l,es,h,n=>by
   obtain⟨r,rs,rfl,F,J⟩:=h;cases n with
   |zero=>simp[fb]
   |succ n=>exact⟨r,rs.take n,rfl,F,fb.take J n⟩
def ao5(e:aU)(v:I)(rows:List (List I)):b2:=ZQ (xq (rows=[]/\v= .aC)) (s5 λq:Nat×List (List I)=>AO (v= .br q.1 0 rows.length e/\rows.length<=q.2.length/\rows=q.2.take rows.length) (bm q.1 q.2))
def i'(v:I)(l:List ay):b2:=s5 λrows:List (List I)=>AO (fb l rows) (ao5 cD v rows)
def gu(f:h2)(a:List I)(s n g:I):List I:=[.int o f.bD,.int o f.f,.int o (f.bo:Int)]++a++[s,n,.bool f.asked,g]
def A1(row:List I)(f:h2):b2:=s5 λq:List I×I×I×I=>AO (row=gu f q.1 q.2.1 q.2.2.1 q.2.2.2/\ck f.arg q.1/\fH 3 q.2.2.2 (gn f.ec)) (hj (i' q.2.1 f.stack) (i' q.2.2.1 f.names))
def r2:List (List I)->List h2->b2
 |[],[]=>xq True
 |r::rs,f::dM=>hj (A1 r f) (r2 rs dM)
 |_,_=>xq False
def iJ(bp aG bh:Nat)(left:Int)(below:List h2)(top:h2):b2:=s5 λq:List (List I)×List I×List (List I)=>
 hj (bm bp [[.ptr aG 0 0,.br bh 0 (below.length+1) fk,.int o left]]) (hj (bm bh (q.1++q.2.1::q.2.2)) (hj (A1 q.2.1 top) (r2 q.1 below)))
section
variable{h E am:ad}{ah ao aL aF:Nat->Prop}{L:List b2}{bp aG bh:Nat}{left:Int}{below:List h2}{top:h2}
theorem P7:∀{rs:List (List I)} {dM:List h2} {h:ad} {ah ao:Nat->Prop},(r2 rs dM).A h ah ao->rs.length=dM.length
 |[],[],_,_,_,_=>rfl
 |r::rs,f::dM,_,_,_,h=>by obtain⟨_,_,_,_,_,y,_⟩:=h;simp[P7 y]
 |[],_::_,_,_,_,h=>h.1.elim
 |_::_,[],_,_,_,h=>h.1.elim
theorem cX.nil(ah ao:Nat->Prop)(h:ad)(cW:∀k,¬ah k)(fZ:∀D,¬ao D):(cX []).A h ah ao:=⟨trivial,cW,fZ⟩
theorem cX.two(x:(hj X Y).A h ah ao):(cX [X,Y]).A h ah ao:=by obtain⟨eH,eI,dX,eb,bY,y,cW,fZ,oh,q4⟩:=x;exact⟨eH,eI,dX,eb,bY,⟨dX,eb,λ_=>False,λ_=>False,y,⟨trivial,λ_ h=>h,λ_ h=>h⟩,λk=>by simp,λD=>by simp,λ_ _ h=>h,λ_ _ h=>h⟩,cW,fZ,oh,q4⟩
theorem cX.one(x:X.A h ah ao):(cX [X]).A h ah ao:=⟨ah,ao,λ_=>False,λ_=>False,x,⟨trivial,λ_ h=>h,λ_ h=>h⟩,λk=>by simp,λD=>by simp,λ_ _ h=>h,λ_ _ h=>h⟩
theorem cX.uE(x:(cX [X]).A h ah ao):X.A h ah ao:=by
 obtain⟨eH,eI,dX,eb,bY,⟨_,av,ax⟩,cW,fZ,_,_⟩:=x;have bs:ah=eH:=by funext k;exact propext ((cW k).trans ⟨λh=>h.resolve_right (av k),.inl⟩)
 have cq:ao=eI:=by funext D;exact propext ((fZ D).trans ⟨λh=>h.resolve_right (ax D),.inl⟩)
 rw[bs,cq];exact bY
theorem cX.abd(x:(cX (hj X Y::L)).A h ah ao):(cX (X::Y::L)).A h ah ao:=F7 x
theorem P8{cI:b2}(x:(hj X (hj Y cI)).A h ah ao):(hj (hj X Y) cI).A h ah ao:=F6 (F7 (F6 (F7 (F6 x))))
theorem cX.abe(x:(cX (X::Y::L)).A h ah ao):(cX (hj X Y::L)).A h ah ao:=P8 x
abbrev F'(bp aG bh:Nat)(left:Int)(below:List h2)(top:h2)(rs ex:List (List I))(a:List I)(s n g:I):List b2:=[bm bp [[.ptr aG 0 0,.br bh 0 (below.length+1) fk,.int o left]],bm bh (rs++gu top a s n g::ex),i' s top.stack,i' n top.names,r2 rs below]
theorem A2(x:(iJ bp aG bh left below top).A h ah ao):∃rs ex a s n g,rs.length=below.length/\ck top.arg a/\fH 3 g (gn top.ec)/\aQ h ah ao h (F' bp aG bh left below top rs ex a s n g):=by obtain⟨⟨rs,row,ex⟩,x⟩:=x;obtain⟨eH,eI,dX,eb,bY,⟨nH,nI,r0,r1,e3,⟨y3,y4,A3,A4,⟨⟨a,s,n,g⟩,⟨e,aN,a7⟩,fP⟩,ih,A5⟩,gU⟩,bK⟩:=x;simp only at e;subst e;refine⟨rs,ex,a,s,n,g,P7 ih,aN,a7,aQ.start ?_⟩;exact⟨eH,eI,dX,eb,bY,⟨nH,nI,r0,r1,e3,cX.abd (L:=[r2 rs below]) ⟨y3,y4,A3,A4,fP,cX.one ih,A5⟩,gU⟩,bK⟩
theorem ao6{rs:List (List I)}{a:List I}{s n g:I}(aN:ck top.arg a)(a7:fH 3 g (gn top.ec))(x:(cX (F' bp aG bh left below top rs ex a s n g)).A h ah ao):(iJ bp aG bh left below top).A h ah ao:=by obtain⟨eH,eI,dX,eb,bY,⟨nH,nI,r0,r1,e3,f',gU⟩,bK⟩:=x;obtain⟨y3,y4,A3,A4,fP,ih,A5⟩:=cX.abe (X:=i' s top.stack) (Y:=i' n top.names) (L:=[r2 rs below]) f';exact⟨⟨rs,gu top a s n g,ex⟩,eH,eI,dX,eb,bY,⟨nH,nI,r0,r1,e3,⟨y3,y4,A3,A4,⟨⟨a,s,n,g⟩,⟨rfl,aN,a7⟩,fP⟩,cX.uE ih,A5⟩,gU⟩,bK⟩
theorem Dx{rs:List (List I)}{a:List I}{s n g:I}(aN:ck top.arg a)(a7:fH 3 g (gn top.ec))(eR:aQ am aL aF h (F' bp aG bh left below top rs ex a s n g)):en am aL aF h (iJ bp aG bh left below top):=en.imp (λ_ _ _ x=>ao6 aN a7 x) eR
theorem jp{v:I}{l:List ay}(x:(i' v l).A h ah ao):v.one=Q/\v.cells=[v]/\gY v=j l.length/\(∀s,ko s (j cD) v=Q)/\(∀(q:kf) (i:Nat) (y:ay),l[i]? =j y->∃p r,fg (j cD) Z v (.int q (i:Int))=j p/\cO Q 3 h p=j (.agg r)/\ck y r):=by
 obtain⟨rows,ai,x⟩:=x;have hlen:=ai.len;rcases x with⟨⟨rfl,rfl⟩,_⟩|⟨⟨b,es⟩,⟨rfl,F,J⟩,x⟩
 ·simp only[ey]at hlen;refine⟨rfl,rfl,by rw[<-hlen];rfl,λs=>rfl,λq i y bq=>?_⟩;have:=mF.1 hlen.symm;subst this;simp at bq
 ·refine⟨rfl,rfl,by rw[<-hlen];rfl,λs=>yV,λq i y bq=>?_⟩;obtain⟨r,bT,bM⟩:=ai.get bq;have ae:i<rows.length:=(fR.1 bT).1;refine⟨.ptr b (0+i) 0,r,AF rfl ae,?_,bM⟩;obtain⟨_,_,_,al⟩:=x;have af:es[i]? =j r:=by
   have:(es.take rows.length)[i]? =j r:=by rw[<-J];exact bT
   rwa [t' ae]at this
  simp only at al;rw[gm,al,gH,da,af,da];exact jP bM.dx.1
theorem ao7{v:I}{l:List ay}{y:ay}{r:List I}{jw:Nat}(x:(i' v l).A h ah ao)(aR:h.cell jw=j [r])(bq:ck y r)(ai:l.length<=1000000):∃E,e0 Q cD v (.br jw 0 1 cD) h=j (.br h.n 0 (l.length+1) cD,E)/\en h ah ao E (i' (.br h.n 0 (l.length+1) cD) (l++[y])):=by
 have he:js h cD (.br jw 0 1 cD)=j [r]:=by simp[js,aR]
 have aN:∀s,e0 Q cD s (.br jw 0 1 cD) h=kW Q cD s [r] h:=λs=>by simp only[e0,he,da,fS];rw[if_neg (by decide)]
 have aj:([r].all λx=>x.all I.one)=Q:=by simp only[List.all_cons,List.all_nil,s3];exact bq.dx.2
 obtain⟨rows,U,x⟩:=x;have hlen:=U.len;rcases x with⟨⟨rfl,rfl⟩,av,ax⟩|⟨⟨b,es⟩,⟨rfl,F,J⟩,aP,a2,a3,a4⟩
 ·have qd:l=[]:=mF.1 (by simpa using hlen.symm);subst qd;refine⟨h.push [r],?_,λk=>k=h.n,λ_=>False,⟨[r],fb.one bq,.inr ⟨⟨h.n,[r]⟩,⟨rfl,bS _,rfl⟩,λ_=>mN,λ_ h=>h,q6 _,fU⟩⟩,(aK.push h [r]).vW _ _,λk ab=>.inr (p3 ab.symm),λ_ h=>h.elim⟩;rw[aN];simp only[kW];rw[if_pos ⟨by simp,by simp,aj⟩];rfl
 ·simp only at F J aP a3 a4;have aq:((h.set b Z).push (es.take rows.length++[r])).cell h.n=j (es.take rows.length++[r]):=by have:=fU (h:=h.set b Z) (es:=es.take rows.length++[r]);exact this
  refine⟨(h.set b Z).push (es.take rows.length++[r]),?_,λk=>k=h.n,λ_=>False,⟨rows++[r],U.app (fb.one bq),.inr ⟨⟨h.n,es.take rows.length++[r]⟩,⟨by simp[hlen],?_,?_⟩,λ_=>mN,λ_ h=>h,q6 _,aq⟩⟩,⟨Nat.le_succ _,bS _,λk ab cW=>?_,λ_ _ _=>rfl⟩,λk ab=>.inr (p3 ab.symm),λ_ h=>h.elim⟩
  ·rw[aN];simp only[kW,a4,da];rw[if_pos ⟨by simp,by simp,aj⟩,if_pos ⟨trivial,trivial,by omega⟩,if_pos F];simp[hlen]
  ·simp;omega
  ·rw[<-J,List.take_of_length_le (by simp)]
  ·rw[vN (by rw[iF];omega),dL λe=>cW ((aP k).2 e)]
theorem abf{b m:Nat}{l:List ay}{y:ay}(x:(i' (.br b 0 m cD) (l++[y])).A h ah ao):(i' (.br b 0 l.length cD) l).A h ah ao:=by
 obtain⟨rows,U,x⟩:=x;have hlen:=U.len;rw[dy,fS]at hlen;rcases x with⟨⟨_,e⟩,_⟩|⟨⟨c1,es⟩,⟨e,F,J⟩,x⟩
 ·cases e
 ·injection e with av _ ax _;have hO:=U.take l.length;rw[List.take_left]at hO;simp only at av F J;refine⟨rows.take l.length,hO,.inr ⟨⟨c1,es⟩,⟨by rw[av];congr 1;simp;omega,by simp;omega,?_⟩,x⟩⟩;have af:(rows.take l.length).length=l.length:=by simp;omega
  rw[af]
  conv=>lhs;rw[J]
  rw[List.take_take];congr 1;omega
theorem abg{v:I}{l:List ay}(x:(i' v l).A h ah ao)(ai:l≠[]):∃b,v= .br b 0 l.length cD:=by
 obtain⟨rows,U,x⟩:=x;have hlen:=U.len;rcases x with⟨⟨rfl,rfl⟩,_⟩|⟨⟨c1,es⟩,⟨e,_⟩,_⟩
 ·exact absurd (mF.1 (by simpa using hlen.symm)) ai
 ·exact⟨c1,by rw[e,hlen]⟩
theorem aQ.abh(s:aQ am aL aF h L)(i:Nat)(ae:L[i]? =j X)(F5:∀h ah ao,X.A h ah ao->Y.A h ah ao):aQ am aL aF h (L.set i Y):=by obtain⟨E,rfl,d⟩:=s.call (cn:=λq=>q=h) i ae (Y:=Y) λah ao x=>⟨h,rfl,en.imp F5 (en.same x)⟩;exact d
theorem ao8{α:Type}{cI:b2}{Y:α->b2}(x:(hj X cI).A h ah ao){cn:ad->α->Prop}(c:∀eH eI,X.A h eH eI->∃E a,cn E a/\en h eH eI E (Y a)):∃E a,cn E a/\en h ah ao E (hj (Y a) cI):=by
 obtain⟨eH,eI,dX,eb,bY,z,cW,fZ,oh,q4⟩:=x;obtain⟨E,a0,r,nH,nI,y,c3,a3,g0⟩:=c eH eI bY;have lq:=cI.lt z;refine⟨E,a0,r,λk=>nH k\/dX k,λD=>nI D\/eb D,⟨nH,nI,dX,eb,y,cI.fs z c3 (λk ab F=>oh k F ab) (λD aa F=>q4 D F aa),λ_=>mN,λ_=>mN,λk af J=>?_,λD af J=>?_⟩,?_,λk ab=>?_,λD aa=>?_⟩
 ·rcases a3 k af with h|h
  ·exact oh k h J
  ·have:=lq.1 k J;omega
 ·rcases g0 D af with h|h
  ·exact q4 D h J
  ·have:=lq.2 D J;omega
 ·exact⟨c3.n,c3.ids,λk ab aq=>c3.cell k ab λF=>aq ((cW k).2 (.inl F)),λD aa aq=>c3.hw D aa λF=>aq ((fZ D).2 (.inl F))⟩
 ·rcases ab with h|h
  ·exact(a3 k h).imp (λh=>(cW k).2 (.inl h)) id
  ·exact .inl ((cW k).2 (.inr h))
 ·rcases aa with h|h
  ·exact(g0 D h).imp (λh=>(fZ D).2 (.inl h)) id
  ·exact .inl ((fZ D).2 (.inr h))
theorem aQ.uF{α:Type}{cn:ad->α->Prop}{Y:α->b2}(s:aQ am aL aF h L)(i:Nat)(ae:L[i]? =j X)(c:∀ah ao,X.A h ah ao->∃E a,cn E a/\en h ah ao E (Y a)):∃E a,cn E a/\aQ am aL aF E (L.set i (Y a)):=by have ai:i<L.length:=(fR.1 ae).1;obtain⟨ah,ao,x,fe,a,b⟩:=s;obtain⟨E,a0,r,d⟩:=ao8 ((cX.front ae).1 x) c;exact⟨E,a0,r,en.chain fe a b (d.imp λ_ _ _ y=>cX.back ai y)⟩
theorem aQ.app(s:aQ am aL aF h L)(i:Nat){v:I}{l:List ay}(ae:L[i]? =j (i' v l)){y:ay}{r:List I}{jw:Nat}(aR:h.cell jw=j [r])(bq:ck y r)(ai:l.length<=1000000):∃E,e0 Q cD v (.br jw 0 1 cD) h=j (.br h.n 0 (l.length+1) cD,E)/\aQ am aL aF E (L.set i (i' (.br h.n 0 (l.length+1) cD) (l++[y]))):=s.call (cn:=λE=>e0 Q cD v (.br jw 0 1 cD) h=j (.br h.n 0 (l.length+1) cD,E)) i ae λ_ _ x=>ao7 x aR bq ai
end
def abi:List bj:=[Dr,.ops [.i .l (.call (.c (.fn 36 [] [])) []),.i .l (.call (.c (.fn 37 [] [])) []),.i .l (.build [.fx,.fx,.bool R,.aC,.int o 0,.int o 0,.aC,.bool R,.aC,.int o 0,.int o 0,.aC,.bool R,.aC,.int o 0,.int o 0,.aC,.bool R,.aC,.int o 0,.int o 0,.aC] [(0,1),(1,1),(2,20)] [(0,(.l 1)),(1,(.l 0))]),.i .l (.box 22 (.l 0)),AY],.ret]
theorem ao9:cw ak T 21 0 1 [0] abi [(.v 0)] R:=by refine⟨_,_,Tryz.func21,rfl,rfl,?_,?_,?_,?_,?_⟩<;>kernel_rfl
def P9:List bj:=[abj,.cond (.v 2) [.ops [dv,.i .l (.CM 234 (.l 0)),Df]] []]
theorem abk:cw ak T 143 2 3 [0,1,4] P9 [] Q:=by refine⟨_,_,Tryz.func143,rfl,rfl,?_,?_,?_,?_,?_⟩<;>kernel_rfl
def abl:List bj:=[.ops [.i (.v 1) (.a' (.c .fx))],.ops [aX,b7,hB,bc,aX,b7,hB,bc,Fd,rW,.i .l (.fa (j 233) Z (.l 6) (.l 0)),lE],.ret]
theorem ao':cw ak T 142 1 2 [0,2] abl [(.v 1)] R:=by refine⟨_,_,Tryz.func142,rfl,rfl,?_,?_,?_,?_,?_⟩<;>kernel_rfl
def abm:List bj:=[.ops [Ke],.ops [aX,P',iw],.ops [g4,b7,wa,bc,Ga,rW,kD],.ops [g4,b7,wa,bc,eY,Kf,nd,y5,xE],.ops [g4,g4,b7,wa,bc,eY,.i .l (.qh R (j 90) (.l 1) Z (j (.l 0))),Dc,wa,ka],.ops [r3,Gb],.ret]
theorem apa:cw ak T 144 1 5 [0,2,3,4,5] abm [(.cell Q 3 1)] R:=by refine⟨_,_,Tryz.func144,rfl,rfl,?_,?_,?_,?_,?_⟩<;>kernel_rfl
def abn:List bj:=[.ops [Ke],.ops [aX,Qa,Gb],.ret]
theorem apb:cw ak T 150 1 2 [0,2] abn [(.cell Q 3 1)] Q:=by refine⟨_,_,Tryz.func150,rfl,rfl,?_,?_,?_,?_,?_⟩<;>kernel_rfl
def Qb:List bj:=[.ops [.i (.v 2) (.box 3 (.v 0)),Kg],.ops [r4,bc,dv,Qc,Kh],.ops [uG,Dy],.ret]
theorem abo:cw ak T 145 2 4 [0,1,2,4] Qb [(.cell Q 3 3)] Q:=by refine⟨_,_,Tryz.func145,rfl,rfl,?_,?_,?_,?_,?_⟩<;>kernel_rfl
def Qd:List bj:=[.ops [A6,Ki],.ops [Kj,Pw,q7,.i .l (.call (.c (.fn 143 [] [])) [.l 0,.c (.int o 3)])],.ops [Kj,Dz],.ret]
theorem abp:cw ak T 152 1 3 [0,1,2] Qd [(.cell Q 3 2)] Q:=by refine⟨_,_,Tryz.func152,rfl,rfl,?_,?_,?_,?_,?_⟩<;>kernel_rfl
def xF:List bj:=[y0,.ops [abq],.ops [.i (.v 5) (.a' (.v 0))],.block 0 [.ops [.i .l (.bin (.int o) .eql (.v 5) (.c (.int o 1))),nG],.cond (.v 6) [.ops [dv,g4,abr,kD],.ret] [.ops [abs,mM],.cond (.v 7) [.ops [dv,g4,.i .l (.bin (.int o) .sub (.l 1) (.l 0)),kD],.ret] [.ops [.i .l (.bin (.int o) .eql (.v 5) (.c (.int o 3))),qn],.cond (.v 8) [.ops [dv,g4,.i .l (.bin (.int o) .mul (.l 1) (.l 0)),kD],.ret] [.ops [abt,y6],.cond (.v 9) [.ops [dv,g4,.i .l (.bin (.int o) .lss (.l 1) (.l 0)),jT]] [.ops [.i .l (.bin (.int o) .eql (.v 5) (.c (.int o 5))),yZ],.cond (.v 10) [.ops [dv,g4,Qe,jT]] []]]]]],.ops [.i (.v 11) Gc],.cond (.v 11) [.ops [.i (.v 3) PL],.ret] [],y0,.ret]
theorem ii:cw ak T 151 3 12 [0,1,2,6,7,8,9,14,19,24,29,34] xF [(.v 3)] Q:=by refine⟨_,_,Tryz.func151,rfl,rfl,?_,?_,?_,?_,?_⟩<;>kernel_rfl
def Qf:List bj:=[.ops [Qg,tb,aaB],.ops [nf,bc,nG],.ops [aX,b7,dB,bc,b7,dB,bc,mm,abu,g4,.i .l (.call (.c (.fn 166 [] [])) [.l 1,.l 0]),s9,.i .l (.call (.c (.fn 143 [] [])) [.l 0,.c (.int o 9)])],.ops [aX,b7,dB,bc,b7,dB,bc,mm,.i .l (.call (.c (.fn 179 [] [])) [.l 1,.l 0]),cU,iu,iv,.i (.v 7) aaG,.i .n (.store 6 (.v 7) (.l 1)),cU],.ops [mm,.i .l (.load Q 6 (.v 7)),Dn,aaC],.ret]
theorem abv:cw ak T 169 3 8 [0,1,2,4,6,7,8,9] Qf [(.v 4),(.cell Q 6 5)] Q:=by refine⟨_,_,Tryz.func169,rfl,rfl,?_,?_,?_,?_,?_⟩<;>kernel_rfl
def Gd:List bj:=[Ge,.ops [aX,uG,Gf,.i .l (.call (.c (.fn 169 [] [])) [.l 2,.l 0,.c (.int o 1)]),cU,iu,iv,aaK,Gg,aaL],.ops [.i .l (.dG 4 (.v 4)),bc,rX,Kh],.ops [aX,b7,dB,bc,b7,hB,bc,aX,.i .l (.dG 3 (.v 4)),bc,eY,.i .l (.call (.c (.fn 142 [] [])) [.l 3]),.bU [⟨Z,R,1,.l 9,(.l 8)⟩,⟨Z,R,1,.l 6,(.l 5)⟩,⟨Z,R,1,.l 3,(.l 2)⟩],b7,dB,bc,.i .l (.call (.c (.fn 170 [] [])) [.l 8,.l 0,.l 5,.l 4]),cU,iu,iv,Dp,cU],.ops [aX,jm,Qh,.i .l (.call (.c (.fn 149 [] [])) [.l 2,.l 0])]]
theorem Kk:cw ak T 158 2 6 [0,1,3,4,5,6] Gd [] R:=by refine⟨_,_,Tryz.func158,rfl,rfl,?_,?_,?_,?_,?_⟩<;>kernel_rfl
def DA:List bj:=[abw,.ops [uH,Gf],.ops [r3,Kl],.ops [aX,uH,.i .l (.call (.c (.fn 169 [] [])) [.l 1,.l 0,.c (.int o 2)]),cU,iu,iv,abx,Dp,WP],.ops [Km,bc,rX,Kh],.ops [aX,b7,dB,bc,b7,hB,bc,aX,.i .l (.dG 3 (.v 6)),bc,jm,xB,bc,.i .l (.call (.c (.fn 142 [] [])) [.l 5]),.bU [⟨Z,R,1,.l 11,(.l 10)⟩,⟨Z,R,1,.l 8,(.l 7)⟩,⟨Z,R,1,.l 5,(.l 4)⟩,⟨Z,R,1,.l 2,(.l 1)⟩],b7,dB,bc,.i .l (.call (.c (.fn 171 [] [])) [.l 10,.l 0,.l 7,.l 6,.l 4])],.ops [aX,r3,Gh]]
theorem Gi:cw ak T 159 3 7 [0,1,2,4,5,6,7] DA [] R:=by refine⟨_,_,Tryz.func159,rfl,rfl,?_,?_,?_,?_,?_⟩<;>kernel_rfl
def Qi:List bj:=[.ops [.i (.v 4) (.box 3 (.v 1)),y7],.ops [aX,b7,dB,bc,b7,dB,bc,xB,bc,g4,eY,.i .l (.call (.c (.fn 172 [] [])) [.l 4,.l 2,.l 1,.l 0]),cU,iu,iv,De,mM],.ops [uz,q7,uz,Kn],.ops [mm,aby,DB],.ret]
theorem abz:cw ak T 160 4 8 [0,1,2,3,5,8,9,10] Qi [(.cell Q 3 5)] R:=by refine⟨_,_,Tryz.func160,rfl,rfl,?_,?_,?_,?_,?_⟩<;>kernel_rfl
def Gj:List bj:=[Ge,.ops [uG,Gf],.ops [aX,b7,dB,bc,b7,dB,bc,abA,cU,iu,iv,Gg,jT],.ops [eS,q7,eS,Kn],.ops [aX,uG,eY,.i .l (.call (.c (.fn 160 [] [])) [.l 2,.l 1,.c (.int o 15),.l 0]),y7,DB],.ops [aX,s',eY,.i .l (.build [.int o 0,.int o 0,.aC] [(0,1),(1,1),(2,1)] [(0,(.c (.int o 5))),(1,(.l 0))]),.i .l (.hv R 90 [.int o 0,.int o 0,.aC] 3 2 [(0,(.l 2)),(1,(.l 0))]),abB,Qj]]
theorem Ko:cw ak T 161 2 6 [0,1,3,4,5,6] Gj [] R:=by refine⟨_,_,Tryz.func161,rfl,rfl,?_,?_,?_,?_,?_⟩<;>kernel_rfl
def Qk:List bj:=[.ops [.i (.v 2) (.box 10 (.v 1))],abC,.ops [aX,aX,b7,hB,bc,.i .l (.load Q 10 (.v 2)),WF,.bU [⟨Z,R,1,.l 3,(.l 2)⟩],.i .l (.app Q 233 (.l 2) (.l 0)),PI,hB,ka]]
theorem abD:cw ak T 162 2 3 [0,1,3] Qk [] R:=by refine⟨_,_,Tryz.func162,rfl,rfl,?_,?_,?_,?_,?_⟩<;>kernel_rfl
def xG:List bj:=[abw,.ops [aX,uH,Gf,.i .l (.call (.c (.fn 169 [] [])) [.l 2,.l 0,.c (.int o 8)]),cU,iu,iv,abx,Dp,WP],.ops [Km,bc,uy,Kh],.ops [aX,b7,dB,bc,Km,bc,Gk,kC,Da,.i .l (.load Q 5 (.l 0)),.i (.v 7) (.alloc [.bool R,.aC,.int o 0,.int o 0,.aC]),.bU [⟨Z,R,1,.l 7,(.l 6)⟩,⟨Z,R,1,.l 5,(.l 4)⟩,⟨Z,Q,5,.l 1,(.l 0)⟩],.i .n (.store 5 (.v 7) (.l 0))],.ops [Ql,bc,s9,cU,.g (.l 0) R .l (.dG 5 (.v 6)),pJ,.g (.l 2) R .l (.dG 1 (.v 7)),Qm,.g (.l 4) R .l (.len R (j 222) (.l 0)),.g (.l 5) R .l (.bin (.int o) .geq (.l 3) (.l 0)),.i .l (.pick (.l 6) (.c (.bool Q)) (.l 0)),.i .l (.call (.c (.fn 143 [] [])) [.l 0,.c (.int o 8)])],abC,.ops [aX,b7,dB,bc,b7,dB,bc,jm,.i .l (.call (.c (.fn 173 [] [])) [.l 1,.l 0]),qn],.ops [aX,b7,dB,bc,b7,dB,bc,r3,FX,.i .l (.call (.c (.fn 148 [] [])) [.l 2,.l 1,.l 0]),cU,iu,iv,abE,.bU [⟨Z,R,1,.l 10,(.l 9)⟩,⟨Z,R,1,.l 7,(.l 6)⟩,⟨Z,Q,3,.v 4,(.l 5)⟩],.i .n (.store 3 (.v 9) (.l 1)),yZ],.ops [Db,q7,Db,Kn],.ops [aX,Km,bc,.i .l (.dG 5 (.v 6)),bc,.i .l (.load Q 3 (.v 9)),FX,.i .l (.build [.int o 0,.int o 0,.int o 0,.int o 0,.int o 0,.aC,.aC,.aC,.bool R,.aC] [(0,1),(1,1),(2,1),(3,3),(6,1),(7,1),(8,1),(9,1)] [(0,(.l 4)),(1,(.l 2)),(3,(.l 1)),(6,(.c (.bool Q))),(7,(.l 0))]),.i .l (.call (.c (.fn 162 [] [])) [.l 7,.l 0])]]
theorem y8:cw ak T 163 3 11 [0,1,2,4,5,6,7,8,9,10,11] xG [] R:=by refine⟨_,_,Tryz.func163,rfl,rfl,?_,?_,?_,?_,?_⟩<;>kernel_rfl
def Qn:List bj:=[.ops [aX,o8,.i .l (.call (.c (.fn 145 [] [])) [.l 0,.c (.int o 2)]),Ki,Dz],.ops [aX,xz,bc,dv,Kf,nd,Qj]]
theorem abF:cw ak T 153 2 3 [0,1,4] Qn [] R:=by refine⟨_,_,Tryz.func153,rfl,rfl,?_,?_,?_,?_,?_⟩<;>kernel_rfl
def mO:List bj:=[Ge,Qo,.ops [r4,abG],.block 0 [.ops [abH,Gl],.cond (.v 11) [.ops [aX,v7,Gh]] [.ops [abI,xH],.cond (.v 12) [.ops [aX,xz,bc,Qh,.i .l (.call (.c (.fn 149 [] [])) [.l 3,.l 0])]] [.ops [abJ,AV],.cond (.v 13) [.ops [aX,eY,b7,wb,nd,abK]] [.ops [abL,FR],.cond (.v 14) [.ops [aX,eY,b7,A7,bc,eY,b7,A7,bc,Ga,rW,o7,bc,.i .l (.bin (.int o) .sub (.l 2) (.l 0)),.i .l (.fa (j 90) Z (.l 9) (.l 0)),nd,.i .l (.call (.c (.fn 149 [] [])) [.l 15,.l 0])]] [.ops [abM,AU],.cond (.v 15) [abN,.ops [s',Kl],.ops [r3,Kl],.ops [aX,o7,bc,PQ,bc,xB,bc,.i .l (.call (.c (.fn 151 [] [])) [.l 4,.l 2,.l 0]),Qh,abO]] [.ops [.i .l (.bin (.int o) .eql (.v 10) (.c (.int o 8))),EQ],.cond (.v 16) [.ops [aX,o8,aX,o8,Qp,Pq,.i .n (.store 3 (.v 6) (.l 2)),JU],.ops [aX,.i .l (.load Q 3 (.v 7)),Qq,.i .l (.hv R 90 [.int o 0,.int o 0,.aC] 3 2 [(0,(.l 1)),(1,(.l 0))]),abB,abP,Qj]] [.ops [.i .l (.bin (.int o) .eql (.v 10) (.c (.int o 9))),Qr],.cond (.v 17) [.ops [aX,.i .l (.call (.c (.fn 153 [] [])) [.l 0,.c (.int o 0)])]] [.ops [.i .l (.bin (.int o) .eql (.v 10) (.c (.int o 10))),Qs],.cond (.v 18) [.ops [aX,.i .l (.call (.c (.fn 153 [] [])) [.l 0,.c (.int o 1)])]] [.ops [.i .l (.bin (.int o) .eql (.v 10) (.c (.int o 11))),.i (.v 19) A8],.cond (.v 19) [.ops [aX,o8,abQ,abR],.ops [aX,eY,b7,dB,bc,.i .l (.load Q 3 (.v 8)),Qt,.bU [⟨Z,R,1,.l 3,(.l 2)⟩],.i .l (.build [.int o 0,.int o 0,.aC] [(0,1),(1,1),(2,1)] [(0,(.c (.int o 3))),(1,(.l 2)),(2,(.l 0))]),abP,abO]] [.ops [.i .l (.bin (.int o) .eql (.v 10) (.c (.int o 12))),Qu],.cond (.v 20) [.ops [aX,o8,.i .l (.call (.c (.fn 145 [] [])) [.l 0,.c (.int o 3)]),abE,.i .n (.store 3 (.v 9) (.l 0))],.ops [.i .l (.dG 1 (.v 9)),bc,eY,b7,dB,bc,.i .l (.bin (.int o) .neq (.l 4) (.l 0)),.i .l (.call (.c (.fn 143 [] [])) [.l 0,.c (.int o 10)])],.ops [aX,.i .l (.dG 2 (.v 9)),bc,.i .l (.fa (j 90) Z (.l 0) (.c (.int o 0))),nd,abK]] [.ops [aX,uG,.i .l (.call (.c (.fn 154 [] [])) [.l 1,.l 0])]]]]]]]]]]]]]
theorem ng:cw ak T 147 2 21 [0,1,3,4,5,6,7,8,9,10,14,18,23,30,38,57,77,90,94,98,112] mO [] R:=by refine⟨_,_,Tryz.func147,rfl,rfl,?_,?_,?_,?_,?_⟩<;>kernel_rfl
def ol:List bj:=[Ge,Qo,.ops [r4,abS],.block 0 [.ops [.i .l (.bin (.int o) .eql (.v 11) (.c (.int o 13))),xH],.cond (.v 12) [.ops [aX,aX,o8,.i .l (.call (.c (.fn 158 [] [])) [.l 2,.l 0])]] [.ops [.i .l (.bin (.int o) .eql (.v 11) (.c (.int o 14))),AV],.cond (.v 13) [abN,.ops [aX,s',r3,.i .l (.call (.c (.fn 159 [] [])) [.l 2,.l 1,.l 0])]] [.ops [.i .l (.bin (.int o) .eql (.v 11) (.c (.int o 15))),FR],.cond (.v 14) [.ops [aX,aX,aX,o7,bc,.i .l (.call (.c (.fn 144 [] [])) [.l 2]),.bU [⟨Z,R,1,.l 2,(.l 1)⟩],Gf,.bU [⟨Z,R,1,.l 3,(.l 2)⟩],.i .l (.call (.c (.fn 160 [] [])) [.l 5,.l 0,.l 2,.c (.int o (-1))]),.i .l (.call (.c (.fn 149 [] [])) [.l 7,.l 0])]] [.ops [.i .l (.bin (.int o) .eql (.v 11) (.c (.int o 16))),AU],.cond (.v 15) [.ops [aX,aX,o8,.i .l (.call (.c (.fn 161 [] [])) [.l 2,.l 0])]] [.ops [.i .l (.bin (.int o) .eql (.v 11) (.c (.int o 17))),EQ],.cond (.v 16) [.ops [aX,b7,dB,bc,b7,dB,bc,aX,o8,.bU [⟨Z,R,1,.l 6,(.l 5)⟩,⟨Z,R,1,.l 3,(.l 2)⟩],.i .l (.call (.c (.fn 145 [] [])) [.l 0,.c (.int o 5)]),.bU [⟨Z,R,1,.l 7,(.l 6)⟩,⟨Z,R,1,.l 4,(.l 3)⟩],.i .l (.Fl R 1 1 (.l 0)),.i .l (.call (.c (.fn 112 [] [])) [.l 4,.l 0])],.ops [aX,v7,Gh]] [.ops [.i .l (.bin (.int o) .eql (.v 11) (.c (.int o 18))),Qr],.cond (.v 17) [.ops [aX,o8,Qp,abT],.ops [aX,eY,b7,dB,bc,o7,bc,Qq,.i .l (.build [.int o 0,.int o 0,.int o 0,.int o 0,.int o 0,.aC,.aC,.aC,.bool R,.aC] [(0,1),(1,1),(2,1),(3,3),(6,1),(7,1),(8,1),(9,1)] [(0,(.l 3)),(1,(.l 1)),(3,(.l 0))]),.i .l (.call (.c (.fn 162 [] [])) [.l 8,.l 0])]] [.ops [.i .l (.bin (.int o) .eql (.v 11) (.c (.int o 19))),Qs],.cond (.v 18) [.ops [aX,o8,aX,o8,Pq,abQ,.i .n (.store 3 (.v 7) (.l 2)),abR],.ops [aX,.i .l (.load Q 3 (.v 8)),.i .l (.load Q 3 (.v 7)),.i .l (.call (.c (.fn 163 [] [])) [.l 2,.l 1,.l 0])]] [.ops [.i .l (.bin (.int o) .eql (.v 11) (.c (.int o 20))),.i (.v 19) A8],.cond (.v 19) [.ops [aX,b7,dB,bc,eY,b7,dB,bc,DC,kC,Da,y6],.ops [A9,b7,kC,nd,.i (.v 10) aad,.i .n (.store 3 (.v 10) (.l 0))],.ops [A9,aX,o8,Gk,kC,.i .n (.store 3 (.l 0) (.l 2))],.ops [aX,.i .l (.load Q 3 (.v 10)),Gh]] [.ops [.i .l (.bin (.int o) .eql (.v 11) (.c (.int o 21))),Qu],.cond (.v 20) [.ops [aX,aX,b7,dB,bc,eY,b7,dB,bc,DC,kC,Da,kC,nd,.i .l (.call (.c (.fn 149 [] [])) [.l 13,.l 0])]] []]]]]]]]]]]
theorem o9:cw ak T 154 2 21 [0,1,3,4,5,6,7,8,9,10,11,15,16,22,32,43,49,66,80,90,115] ol [] R:=by refine⟨_,_,Tryz.func154,rfl,rfl,?_,?_,?_,?_,?_⟩<;>kernel_rfl
def DD:List bj:=[.ops [Ke,DE],.ops [aX,o8,Kg,Dy],.ops [aX,P',b7,.i .l (.load Q 10 (.l 0)),.i (.v 4) (.alloc [.int o 0,.int o 0,.int o 0,.int o 0,.int o 0,.aC,.aC,.aC,.bool R,.aC]),.i .n (.store 10 (.v 4) (.l 0))],.ops [.i .l (.dG 8 (.v 4)),DF],.cond (.v 7) [.ops [aX,b7,dB,bc,b7,dB,bc,uH,.i .l (.dG 9 (.v 4)),bc,.i .l (.call (.c (.fn 148 [] [])) [.l 3,.l 2,.l 0]),cU,iu,iv,y7,.bU [⟨Z,R,1,.l 11,(.l 10)⟩,⟨Z,R,1,.l 8,(.l 7)⟩,⟨Z,Q,3,.v 3,(.l 6)⟩,⟨Z,R,1,.l 5,(.l 4)⟩],.i .n (.store 3 (.v 5) (.l 1)),nG],.ops [mm,q7,mm,Kn],.ops [s',Dy]] [],.ops [aX,aX,b7,hB,bc,aX,b7,hB,bc,Fd,rW,.i .l (.qh R (j 233) (.l 6) Z (j (.l 0))),Qv,hB,ka],.ops [aX,b7,hB,bc,Fd,abU],.cond (.v 8) [.ops [uH,Gb,abV],.ret] [],.ops [aX,uH,Gh],.ops [uH,Gb,DE],.ret]
theorem Gm:cw ak T 146 1 9 [0,2,3,4,5,6,7,15,54] DD [(.cell Q 3 1),(.v 2)] R:=by refine⟨_,_,Tryz.func146,rfl,rfl,?_,?_,?_,?_,?_⟩<;>kernel_rfl
def q8:List bj:=[.ops [Ke,DE],Qo,.ops [aX,b7,dB,bc,eY,b7,dB,bc,DC,kC,Da,hB,bc,eY,b7,hB,bc,.i .l (.fa (j 222) Z (.l 4) (.l 0)),bc,eY,b7,kC,bc,.i .l (.fa (j 239) Z (.l 4) (.l 0)),nd,.i (.v 4) (.alloc [.int o 0,.int o 0,.int o 0]),.bU [⟨Z,R,1,.l 22,(.l 21)⟩,⟨Z,R,1,.l 18,(.l 17)⟩,⟨Z,R,1,.l 13,(.l 12)⟩,⟨Z,R,1,.l 9,(.l 8)⟩,⟨Z,R,1,.l 7,(.l 6)⟩,⟨Z,R,1,.l 3,(.l 2)⟩,⟨Z,Q,3,.l 1,(.l 0)⟩],xE],.ops [eY,b7,kC,bc,wc,DC,kC,ka],.ops [Kp,Kq],.block 0 [.ops [.i .l (.bin (.int o) .eql (.v 6) (.c (.int o 100))),mM],.cond (.v 7) [.ops [aX,b7,kC,bc,y9,.i .l (.call (.c (.fn 143 [] [])) [.l 0,.c (.int o 12)])],.ops [aX,b7,kC,bc,rW,DC,kC,ka]] [.ops [.i .l (.bin (.int o) .eql (.v 6) (.c (.int o 101))),qn],.cond (.v 8) [.ops [aX,o8,y7,DB],.ops [eY,b7,A7,bc,s',abW,abX,.bU [⟨Z,R,1,.l 4,(.l 3)⟩,⟨Z,Q,3,.v 5,(.l 2)⟩],.i .l (.app Q 90 (.l 3) (.l 0)),.i .l (.fa (j 90) Z (.l 0) (.l 2)),.i .l (.lv (.l 8)),A7,.i .n (.store 3 (.l 2) (.l 6)),abY,.bU [⟨Z,Q,3,.l 2,(.l 6)⟩]]] [.ops [.i .l (.bin (.int o) .eql (.v 6) (.c (.int o 102))),y6],.cond (.v 9) [.ops [eY,eY,b7,A7,bc,eY,b7,A7,bc,Ga,rW,.i .l (.qh R (j 90) (.l 6) Z (j (.l 0))),Qv,A7,ka]] [.ops [.i .l (.bin (.int o) .eql (.v 6) (.c (.int o 103))),yZ],.cond (.v 10) [.ops [aX,o8,Kl,.i .l (.Fl R 1 1 (.l 0)),PR],.cond (.v 11) [abZ] []] [.ops [.i .l (.bin (.int o) .eql (.v 6) (.c (.int o 104))),xH],.cond (.v 12) [abZ] [.ops [.i .l (.bin (.int o) .eql (.v 6) (.c (.int o 105))),AV],.cond (.v 13) [.ops [aX,.i .l (.call (.c (.fn 146 [] [])) [.l 0]),iu,iv,.i .n (.store 3 (.v 1) (.l 1)),iw],.ret] [.ops [aX,r3,.i .l (.call (.c (.fn 147 [] [])) [.l 1,.l 0])]]]]]]]],.ops [v7,Gb,DE],.ret]
theorem r5:cw ak T 138 1 14 [0,2,3,4,5,6,42,46,61,76,92,98,104,111] q8 [(.cell Q 3 1),(.v 2)] R:=by refine⟨_,_,Tryz.func138,rfl,rfl,?_,?_,?_,?_,?_⟩<;>kernel_rfl
def ab0:List bj:=[Dr,.ops [.i .l (.build [.int o 0,.int o 0,.int o 0,.int o 0,.int o 0,.int o 0,.int o 0,.int o 0,.int o 0,.int o 0,.int o 0,.int o 0,.aC] [(0,12),(12,1)] []),.i .l (.box 13 (.l 0)),AY],.ret]
theorem apc:cw ak T 37 0 1 [0] ab0 [(.v 0)] R:=by refine⟨_,_,Tryz.func37,rfl,rfl,?_,?_,?_,?_,?_⟩<;>kernel_rfl
def ab1:List bj:=[.ops [tb,Gn],.ops [g4,PK,Dm],.cond (.v 6) [.ops [tb,Gn],.ret] [],.ops [aX,aX,b7,Gp,bc,dv,g4,eY,.i .l (.build [.int o 0,.int o 0,.int o 0,.int o 0] [(0,1),(1,1),(2,1),(3,1)] [(0,(.l 2)),(1,(.l 1)),(2,(.c (.int o 1))),(3,(.l 0))]),ab2,ab3,Qw,Gp,ka],.ops [aX,g4,C',dB,.i .l (.fa Z (j (12,1)) (.l 0) (.l 2)),bc,jT,ab4],.ret]
theorem apd:cw ak T 170 4 7 [0,1,2,3,8,9,12] ab1 [(.v 4),(.v 5)] R:=by refine⟨_,_,Tryz.func170,rfl,rfl,?_,?_,?_,?_,?_⟩<;>kernel_rfl
def ab5:List bj:=[.ops [Gn],.ops [g4,PK,Dm],.cond (.v 6) [.ops [Gn],.ret] [],.ops [aX,aX,b7,Gp,bc,dv,g4,eY,.i .l (.build [.int o 0,.int o 0,.int o 0,.int o 0] [(0,1),(1,1),(2,1),(3,1)] [(0,(.l 2)),(1,(.l 1)),(2,(.c (.int o 2))),(3,(.l 0))]),ab2,ab3,Qw,Gp,ka],.ops [aX,g4,eS,Gk,dB,.i .l (.fa Z (j (12,1)) (.l 0) (.l 3)),abY],.ops [ab4],.ret]
theorem ape:cw ak T 171 5 7 [0,1,2,3,4,10,13] ab5 [(.v 5)] R:=by refine⟨_,_,Tryz.func171,rfl,rfl,?_,?_,?_,?_,?_⟩<;>kernel_rfl
def Qx:List bj:=[Gq,.ops [aX,b7,Gp,bc,.i .l (.call (.c (.fn 79 [] [])) [.l 0]),lE],.ret]
theorem ab6:cw ak T 54 1 2 [0,2] Qx [(.v 1)] Q:=by refine⟨_,_,Tryz.func54,rfl,rfl,?_,?_,?_,?_,?_⟩<;>kernel_rfl
def Qy:List bj:=[Gq,.ops [aX,ab7],.cond (.v 2) [Gq,.ret] [],.ops [.i .l (.hv R 118 [.int o 0,.int o 0,.int o 0,.int o 0] 4 0 []),aX,.i .l (.app R 118 (.l 1) (.l 0)),lE],.ret]
theorem ab8:cw ak T 79 1 3 [0,2,4] Qy [(.v 1)] Q:=by refine⟨_,_,Tryz.func79,rfl,rfl,?_,?_,?_,?_,?_⟩<;>kernel_rfl
def ab9:List bj:=[Ge]
def Kr:List aH:=[aX,aX,uG,(.i .l (.hv Q 90 [(.int o 0),(.int o 0),.aC] 3 1 [(0,(.l 0))])),(.i .l (.call (.c (.fn 142 [] [])) [(.l 3)])),(.bU [⟨Z,Q,3,(.v 2),(.l 2)⟩]),(.i .l (.call (.c (.fn 142 [] [])) [(.l 3)])),(.bU [⟨Z,Q,3,(.v 2),(.l 3)⟩]),b7,wa,bc,(.i .l (.app Q 90 (.l 0) (.l 5))),Qz,wa,ka]
def Ks:List aH:=[aX,aX,uG,(.i .l (.call (.c (.fn 142 [] [])) [(.l 2)])),(.bU [⟨Z,Q,3,(.v 2),(.l 1)⟩]),(.i .l (.hv Q 90 [(.int o 0),(.int o 0),.aC] 3 1 [(0,(.l 1))])),(.i .l (.call (.c (.fn 142 [] [])) [(.l 3)])),(.bU [⟨Z,Q,3,(.v 2),(.l 3)⟩]),b7,wa,bc,(.i .l (.app Q 90 (.l 0) (.l 4))),Dc,wa,ka]
def Kt:List aH:=[aX,aX,uG,(.i .l (.call (.c (.fn 142 [] [])) [(.l 2)])),(.bU [⟨Z,Q,3,(.v 2),(.l 1)⟩]),(.i .l (.call (.c (.fn 142 [] [])) [(.l 2)])),(.bU [⟨Z,Q,3,(.v 2),(.l 2)⟩]),b7,wa,bc,(.i .l (.hv Q 90 [(.int o 0),(.int o 0),.aC] 3 1 [(0,(.l 5))])),(.bU [⟨Z,R,1,(.l 2),(.l 1)⟩]),(.i .l (.app Q 90 (.l 1) (.l 0))),Dc,wa,ka]
open Go Go.RowKit
section
variable{P:cu}{T:gZ}{f:cH}{n aI:Nat}{aT:List Nat}{h E:ad}{t V cv:List I}{all:Array bb}{pl:List (Nat×List Nat)}{dp:Nat->Nat->Prop}
theorem ab'(cC:ky P T){bI:List aH}{K:List Item}{x:h4}(pp:sT all pl (λ_=>R) dp)(lU:ys (T.eu f) all=Q)(nE:aT.Nodup/\∀D s,aT[D]? =j s->(D<aI↔s<T.aI f))(hR:mg P (T.ba f) n aT all [] (iq Q all pl)=j bI)(aj:bu (aM P T) aI [.ops bI,.halt K] V [] h=j (x,cv,E))(b6:gb n aT [] t V []):∃cM,(∀(m:dq) (w:cd) (a:Act) (b:eO) (cs:List eO) (L:List Nat),ji all dp (mf all) L->bW P m h w->dF P m h t a.tmps->a.defers=b.defers->eA P (T.eu f) m h w b cs (ew (b.at a (.inRegion all L::K)) cs w) (x,cM,E))/\gb n aT [] cM cv []:=by
 obtain⟨cM,e,o3⟩:=(Jt (n:=n) (f:=f) nE.1 nE.2 _ _ _ _ _ aj).2.1 Q all (iq Q all pl) bI [.halt K] [] t [.halt K] rfl hR (.halt K [] []) b6;refine⟨cM,λm w a b cs L df hw aO a1=>?_,o3⟩;obtain⟨ax,t2,J,hp,he⟩:=Ji cC f _ t h _ e;refine Ov cC pp lU hp (λgI=>?_) (λv gI=>?_) df hw aO a1
 ·subst gI;exact λm1 cg aP bT bM du=>he K (.halt K []) b cs m1 cg aP bT bM du
 ·subst gI;exact he
theorem aca(cC:ky P T)(vH:∀D,D<all.size->∀e∈(e2 all D).after,kv .any e=Q->e.on<D){id:Nat}{b:eO}{a:Act}{K:List Item}{cs:List eO}{w:cd}:∃L aJ,ji all (λ_ _=>False) (mf all) L/\Steps P (ew (b.at a (.code (.region id all Q)::K)) cs w) (ew (b.at a (.inRegion all L::K)) cs aJ)/\(∀(m:dq) (h:ad),bW P m h w->bW P m h aJ)/\∀base,Below base w aJ:=by refine⟨_,_,?_,.one step_region_draw,λm h hw=>hw.drew,λbase=>(kZ _ _).drew⟩;simp only[Region.schedule,cC.mixed,Bool.true_or,if_true,Region.linearise];exact I3 vH _ _ _ (by simp) (by simp[List.countP_replicate])
end
open Go Go.RowKit
section
variable{P:cu}{T:gZ}{f:cH}{n aI:Nat}{aT:List Nat}{h E J af:ad}{V cv:List I}{args:List I}{all:Array bb}
theorem oi.draw(cC:ky P T){id:Nat}{c:ef}(al:c= .region id all Q)(p:oi P T f n aT args h (.halt [.code c]) V J)(vH:((iO all.size).all λD=>(all.getD D default).after.all λe=> !kv .any e||decide (e.on<D))=Q)(nE:aT.Nodup/\∀D s,aT[D]? =j s->(D<aI↔s<T.aI f))(lU:ys (T.eu f) all=Q)(F:∀L,ji all (λ_ _=>False) (mf all) L->∃(dp:Nat->Nat->Prop) (pl:List (Nat×List Nat)) (bI:List aH),ji all dp (mf all) L/\sT all pl (λ_=>R) dp/\mg P (T.ba f) n aT all [] (iq Q all pl)=j bI/\bu (aM P T) aI [.ops bI,.halt []] V [] J=j (.halt [],cv,af)):oi P T f n aT args h .ret cv af:=by intro m w bl hw e1 cs;obtain⟨eC,t2,dk,dH,g0,b6,m1,cg,bY,db,e3,aP,f',fP,ih⟩:=p m w bl hw e1 cs;subst al;obtain⟨L,dS,bT,bM,du,eB⟩:=aca (P:=P) (all:=all) (id:=id) (b:=eC) (a:=aP) (K:=[]) (cs:=cs) (w:=cg) cC (λD aa e he ag=>by rw[iC]at vH;have:=vH D (j8.2 aa);rw[Array.all_eq_true']at this;have:=this e he;simpa[ag]using this);obtain⟨dp,pl,bI,av,ax,bs,cq⟩:=F L bT;obtain⟨cM,hp,o3⟩:=ab' (K:=[]) cC ax lU nE bs cq b6;obtain⟨h5,jl,fv,fT,km,a3,hF,n9,tg⟩:=hp m1 dS aP eC cs L av (du _ _ db) f' fP;refine⟨eC,cM,dk,dH,g0,o3,eA.steps ih (eA.after bY e3 (eA.steps bM (eA.after (Ext.refl _ _) (eB _) ?_)))⟩;exact⟨h5,jl,fv,fT,km,a3,[],hF,n9,tg.trans (.one step_end)⟩
theorem QA{x y z:Nat}(F:dp x y)(aR:((e2 all z).after.toList.any λe=>kv .any e&&e.on==y)=Q):∀{li:Array Bool} {L:List Nat},ji all dp li L->li.size=all.size->(li.getD y R=Q->li.getD x R=Q)->ji all (At dp x z) li L:=by
 rw[List.any_eq_true]at aR;obtain⟨e,av,ax⟩:=aR;simp only[h8,beq_iff_eq]at ax;intro li L au;induction au with
 |nil li h=>exact λ_ _=>.nil _ h
 |cons li i L g1 cK et lO _ aW=>
   intro az ae;have h':i<li.size:=by omega
   refine .cons _ _ _ g1 cK et (λD aa=>aa.elim (lO D) λaa=>?_) (aW (by simpa using az) λbq=>?_)
   ·rw[aa.1];refine ae ?_;have:=et e (by rw[aa.2];simpa using av) ax.1;rwa [ax.2]at this
   ·rw[kz h']at bq ⊢;split
    ·rfl
    ·split at bq
     ·rename_i bw;exact lO x (by rw[<-bw];exact F)
     ·exact ae bq
theorem apf{x y z:Nat}(F:dp x y)(J:dp z x)(aR:∃e∈(e2 all z).after,kv .any e=Q/\e.on=y)(an:x<all.size):∀{li:Array Bool} {L:List Nat},ji all dp li L->li.size=all.size->li.getD x R=R->li.getD y R=R->li.getD z R=R->False:=by
 intro li L au;induction au with
 |nil li h=>intro az a _ _;rw[h x an]at a;cases a
 |cons li i L g1 cK et lO _ aW=>
   intro az a b c;have ep:x≠i:=λe=>by have:=lO z (by rw[<-e];exact J);rw[c]at this;cases this
   have gC:y≠i:=λe=>by have:=lO x (by rw[<-e];exact F);rw[a]at this;cases this
   have jS:z≠i:=λe=>by obtain⟨ej,av,ax,bs⟩:=aR;have:=et ej (by rw[<-e];exact av) ax;rw[bs,b]at this;cases this
   have ae:i<li.size:=by omega
   exact aW (by simpa using az) (by rw[kz ae,if_neg ep];exact a) (by rw[kz ae,if_neg gC];exact b) (by rw[kz ae,if_neg jS];exact c)
end
abbrev om:cH:=149
abbrev Ku:cH:=142
noncomputable def xI:ef:=Tryz.f149.body.getD .skip
theorem acb:(ak).funcs[om]? =j Tryz.f149:=Tryz.func149
theorem apg:Tryz.f149.body=j xI:=rfl
theorem aph:Tryz.f149.ntmps=16:=rfl
theorem api:xI= .seq (dc xI) (fj xI):=rfl
theorem apj:pE ak [0,1,3] Tryz.f149.results.toList=j []:=by kernel_rfl
abbrev A':List Nat:=[0,1,3]
theorem acd:rQ 2 16 (T.aI om) 3 A'=Q:=by kernel_rfl
theorem apk:ga ak (T.ba om) (T.ch om) 16 A' (dc xI) []=j ab9:=by kernel_rfl
theorem apl:ht (T.ch om) (T.eu om) (dc xI)=Q:=by kernel_rfl
noncomputable abbrev kb:Array bb:=jk (fj xI)
theorem apm:fj xI= .region 1 kb Q:=rfl
theorem apn:((iO kb.size).all λD=>(kb.getD D default).after.all λe=> !kv .any e||decide (e.on<D))=Q:=by kernel_rfl
theorem apo:ys (T.eu om) kb=Q:=by kernel_rfl
def QB:List (Nat×List Nat):=[(0,[]),(2,[]),(7,[]),(8,[]),(1,[7]),(3,[7]),(4,[]),(5,[]),(6,[]),(9,[]),(10,[]),(11,[]),(12,[])]
def QC:List (Nat×List Nat):=[(0,[]),(2,[]),(7,[]),(1,[7]),(8,[]),(3,[7]),(4,[]),(5,[]),(6,[]),(9,[]),(10,[]),(11,[]),(12,[])]
def QD:List (Nat×List Nat):=[(0,[]),(2,[]),(7,[]),(1,[7]),(3,[7]),(4,[]),(5,[]),(6,[]),(8,[6]),(9,[]),(10,[]),(11,[]),(12,[])]
theorem apq:tO [(8,1),(8,3),(8,4),(8,5),(8,6)] kb QB=Q:=by kernel_rfl
theorem apr:tO [(1,8),(8,3),(8,4),(8,5),(8,6)] kb QC=Q:=by kernel_rfl
theorem aps:tO [(1,8),(3,8)] kb QD=Q:=by kernel_rfl
theorem apt:mg ak (T.ba om) 16 A' kb [] (iq Q kb QB)=j Kr:=by kernel_rfl
theorem apu:mg ak (T.ba om) 16 A' kb [] (iq Q kb QC)=j Ks:=by kernel_rfl
theorem apv:mg ak (T.ba om) 16 A' kb [] (iq Q kb QD)=j Kt:=by kernel_rfl
theorem Kv:kb.size=13:=by kernel_rfl
theorem apw:((e2 kb 4).after.toList.any λe=>kv .any e&&e.on==3)=Q:=by kernel_rfl
theorem apx:((e2 kb 5).after.toList.any λe=>kv .any e&&e.on==4)=Q:=by kernel_rfl
theorem apy:((e2 kb 6).after.toList.any λe=>kv .any e&&e.on==5)=Q:=by kernel_rfl
theorem ace(F:dp 8 3){L:List Nat}(au:ji kb dp (mf kb) L):ji kb (At (At (At dp 8 4) 8 5) 8 6) (mf kb) L:=by
 have dY:(mf kb).size=kb.size:=by simp
 have n:∀D,(mf kb).getD D R=Q->(mf kb).getD 8 R=Q:=λD aa=>by rw[lr]at aa;cases aa
 exact QA (.inr ⟨rfl,rfl⟩) apy (QA (.inr ⟨rfl,rfl⟩) apx (QA F apw au dY (n _)) dY (n _)) dY (n _)
theorem apz:((e2 kb 3).after.toList.any λe=>kv .any e&&e.on==1)=Q:=by kernel_rfl
theorem apA(x y:I):gb 16 A' [] ([x,y]++ar (16 - [x,y].length) .aD) ([x,y]++ar (A'.length - [x,y].length) .aD) []:=by
 refine⟨by simp,rfl,rfl,λD s aa=>?_,λD s aa=>by simp at aa⟩
 match D,aa with
 |0,aa|1,aa|2,aa=>obtain rfl:=tR aa;exact⟨by decide,rfl⟩
 |D+3,aa=>simp at aa
theorem Kw{h:ad}{bp bh k:Nat}{Gr wd:I}(hm:h.cell bp=j [[Gr,.br bh 0 (k+1) fk,wd]])(ab:k<=1000):aM ak T Ku [.ptr bp 0 0] h=j (.inl (.ptr bh k 0),h):=by have w:hq o (((k+1:Nat):Int) - 1)=(k:Int):=oj (by omega) (by omega) (by omega);have bR:∀q:kf,fg (j fk) Z (.br bh 0 (k+1) fk) (.int q (k:Int))=j (.ptr bh (0+k) 0):=λq=>AF rfl (by omega);refine bd ao' rfl ?_;unfold abl;simp only[ap,aw,aA,ar,hm,w,bR]
theorem apB{h af:ad}{bp bh k:Nat}{Gr wd s eD:I}{r:List I}{row:List I}(ab:k<=1000)(aj:r.length=3/\r.all I.one=Q)(Kx:bp<h.n)(lu:bh<h.n)(hm:h.cell bp=j [[Gr,.br bh 0 (k+1) fk,wd]])(bn:h.cell bh=j rows)(k0:rows[k]? =j row)(az:row[6]? =j s)(apC:row.length=10)(aN:e0 Q cD s (.br (h.n+1) 0 1 cD) ((h.push [r]).push [r])=j (eD,af))(apD:af.cell bh=j rows)(F:eD.one=Q)(oR:eD.cells=[eD]):aM ak T om [.ptr bp 0 0,.agg r] h=j (.inl (.bx []),af.set bh (j (rows.set k (row.set 6 eD)))):=by
 have Al:k<rows.length:=(fR.1 k0).1;have bJ:dO row 6 [eD]=row.set 6 eD:=by
  match row,apC with
  |[a,b,c,d,e,f,g,i,D,l],_=>rfl
 have U:Pc [.ptr bp 0 0,.agg r] h=j (af.set bh (j (rows.set k (row.set 6 eD)))):=by simp only[Pc,hm,da,bn,Nat.add_sub_cancel,k0,az,aN,g3]
 have hX:AC ak om [.ptr bp 0 0,.agg r] h (.inl (.bx []),af.set bh (j (rows.set k (row.set 6 eD)))):=by
  have hd:=oi.start (T:=T) (h:=h) acb apg aph (apA (.ptr bp 0 0) (.agg r));have dU:=hd.next (aI:=3) (x:=.halt [.code (fj xI)]) (cv:=[.ptr bp 0 0,.agg r,.ptr h.n 0 0]) (af:=h.push [r]) cC api (ig acd) apk apl (by unfold ab9;have ag:= @JB (aM (ak) T) 3;simp only[ap,aw,aA,ar,aj.1,aj.2]);have acf:(h.push [r]).cell bp=j [[Gr,.br bh 0 (k+1) fk,wd]]:=(vN (by omega)).trans hm;have apE:((h.push [r]).push [r]).cell bp=j [[Gr,.br bh 0 (k+1) fk,wd]]:=(vN (by rw[ek];omega)).trans acf;have th:(h.push [r]).cell bh=j rows:=(vN (by omega)).trans bn;have QE:((h.push [r]).push [r]).cell bh=j rows:=(vN (by rw[ek];omega)).trans th;have t1:=Kw acf ab;have t2:=Kw apE ab;have aAD:b9 6 (.ptr bh k 0)=j (.ptr bh k 6):=rfl;have Ky:∀{x:ad} {n:Nat},x.cell bh=j rows->cO R n x (.ptr bh k 6)=j s:=λ{x n} an=>by rw[gm,an,da,k0,da,qi];exact az
  have st:eN 1 af (.ptr bh k 6) eD=j (af.set bh (j (rows.set k (row.set 6 eD)))):=by rw[lV (es:=rows) (e:=row) apD k0 (by rw[oR];simpa using F) (by rw[oR];rfl) (by omega),oR,bJ]
  have run:∀bI,bI=Kr\/bI=Ks\/bI=Kt->bu (aM ak T) 3 [.ops bI,.halt []] [.ptr bp 0 0,.agg r,.ptr h.n 0 0] [] (h.push [r])=j (.halt [],[.ptr bp 0 0,.agg r,.ptr h.n 0 0],af.set bh (j (rows.set k (row.set 6 eD)))):=by
   have jU:(h.push [r]).cell h.n=j [r]:=fU;have bT:((h.push [r]).push [r]).cell h.n=j [r]:=(vN (by rw[ek];omega)).trans fU;intro bI m8;rcases m8 with rfl|rfl|rfl
   ·unfold Kr;simp only[ap,ar,cx,t2,aj.1,aj.2,aN,jU,bT,Ky QE,st]
   ·unfold Ks;simp only[ap,ar,cx,t1,t2,aj.1,aj.2,aN,jU,bT,Ky QE,st]
   ·unfold Kt;simp only[ap,ar,cx,t1,aj.1,aj.2,aN,jU,Ky th,Ky QE,st]
  refine(oi.draw (aI:=3) (cv:=[.ptr bp 0 0,.agg r,.ptr h.n 0 0]) cC apm dU apn (ig acd) apo λL df=>?_).ret acb apj rfl;have apF:∃e∈(e2 kb 3).after,kv .any e=Q/\e.on=1:=by have:=apz;rw[List.any_eq_true]at this;obtain⟨e,av,ax⟩:=this;simp only[h8,beq_iff_eq]at ax;exact⟨e,by simpa using av,ax.1,ax.2⟩
  have dY:(mf kb).size=kb.size:=by simp
  rcases xe (x:=8) (y:=1) (by decide) (by rw[Kv];decide) df dY (lr _) (lr _)with bO|bO
  ·rcases xe (x:=8) (y:=3) (by decide) (by rw[Kv];decide) bO dY (lr _) (lr _)with bC|bC
   ·exact⟨_,QB,Kr,(ace (.inr ⟨rfl,rfl⟩) bC).mono (λi D aa=>by simp only[gW,iQ,List.not_mem_nil,or_false]at aa;rcases aa with aa|aa|aa|aa|aa;exact .inl (.inl (.inl (.inl (.inr aa))));exact .inl (.inl (.inl (.inr aa)));exact .inl (.inl (.inr aa));exact .inl (.inr aa);exact .inr aa),rN apq,apt,run _ (.inl rfl)⟩
   ·exact(apf (x:=8) (y:=1) (z:=3) (.inl (.inr ⟨rfl,rfl⟩)) (.inr ⟨rfl,rfl⟩) apF (by rw[Kv];decide) bC dY (lr _) (lr _) (lr _)).elim
  ·rcases xe (x:=8) (y:=3) (by decide) (by rw[Kv];decide) bO dY (lr _) (lr _)with bC|bC
   ·exact⟨_,QC,Ks,(ace (.inr ⟨rfl,rfl⟩) bC).mono (λi D aa=>by simp only[gW,iQ,List.not_mem_nil,or_false]at aa;rcases aa with aa|aa|aa|aa|aa;exact .inl (.inl (.inl (.inl (.inr aa))));exact .inl (.inl (.inl (.inr aa)));exact .inl (.inl (.inr aa));exact .inl (.inr aa);exact .inr aa),rN apr,apu,run _ (.inr (.inl rfl))⟩
   ·exact⟨_,QD,Kt,bC.mono (λi D aa=>by simp only[gW,iQ,List.not_mem_nil,or_false]at aa;rcases aa with aa|aa;exact .inl (.inr aa);exact .inr aa),rN aps,apv,run _ (.inr (.inr rfl))⟩
 have an:T.ext om=j JF:=by show i8 om=_;unfold i8;rw[if_neg (by decide),if_pos rfl]
 unfold aM;rw[an];simp only[JF,U];rw[if_pos hX]
def Kz:List bj:=[.ops [eS,xz,bc,Ga,acg,cU,Dh,ach,aci],.cond (.v 5) [] [.exit 0],.block 1 [.ops [xz,bc,eS,Kf,nd,dv,.i .l (.call (.c (.fn 140 [] [])) [.l 1,.l 0]),lE]],Gs]
def acj:List bj:=[.ops [.i (.v 2) (.box 3 (.v 0)),ta],.ops [dv,rW,lE],DG,.block 0 [.loop Kz],.ops [dv,kD],.ret]
theorem apG:cw ak T 140 2 6 [0,1,2,4,5,16] acj [(.v 3)] Q:=by refine⟨_,_,Tryz.func140,rfl,rfl,?_,?_,?_,?_,?_⟩<;>kernel_rfl
def QF:List bj:=[.ops [A6,xy],.ops [Kj,.i .l (.call (.c (.fn 140 [] [])) [.l 0,.c (.int o 40)]),.i (.v 3) QG],.cond (.v 3) [.ops [ack],.ret] [],.ops [Kj,acl,iw],.ret]
theorem acm:cw ak T 136 1 4 [0,1,2,5] QF [(.v 2)] Q:=by refine⟨_,_,Tryz.func136,rfl,rfl,?_,?_,?_,?_,?_⟩<;>kernel_rfl
def Gt:List bj:=[.ops [QH],.cond (.v 12) [] [.exit 1],.block 2 [.ops [.i .l (.fa (j 90) Z (.v 9) (.v 11)),nd,y5,xE],.ops [r3,acl,lF],.ops [jm,.i (.v 13) xx],.cond (.v 13) [.ops [jm,iw],.ret] []],QI]
def acn:List bj:=[.ops [A6,xy],.ops [nJ,bc,uy,cU,QJ,pJ,KA,.i (.v 6) (.pick (.l 3) (.c (.bool Q)) (.l 0))],.cond (.v 6) [.ops [.i (.v 2) (.a' (.c (.int o 2)))],.ret] [],.ops [.i .l (.hv R 3 [.int o 0] 1 6 [(0,(.c (.int o 0))),(1,(.c (.int o 0))),(2,(.c (.int o 2))),(3,(.c (.int o 1))),(4,(.c (.int o 0))),(5,(.c (.int o 0)))]),nJ,bc,.i .l (.fa (j 3) Z (.l 2) (.l 0)),bc,kD],.block 0 [.ops [DH,bc,Ga,eY,Qc,cU,.g (.l 0) R .l (.a' (.v 3)),.g (.l 1) R .l aco,.g (.l 2) R .l A8,QK,y',acp,.g (.l 6) R .l QL,.i .l (.pick (.l 7) (.c (.bool Q)) (.l 0)),cU,QJ,pJ,.g (.l 2) R .l J7,.g (.l 3) R .l A8,QK,y',acp,.g (.l 7) R .l QL,.i .l QM,mM],.cond (.v 7) [.ops [acq],.ret] [.ops [nJ,bc,.i .l (.bin (.int o) .geq (.l 0) (.c (.int o 3))),cU,QK,y',acr,DI,qn],.cond (.v 8) [.ops [acs],.ret] []]],.ops [DH,acu,.i (.v 10) (.len R (j 90) (.v 9)),QN],.block 1 [.loop Gt],rY,.ret]
theorem apH:cw ak T 141 1 14 [0,1,2,3,5,6,14,20,45,55,56,57,58,64] acn [(.v 2)] Q:=by refine⟨_,_,Tryz.func141,rfl,rfl,?_,?_,?_,?_,?_⟩<;>kernel_rfl
def KB:List bj:=[.ops [aaJ],.cond (.v 8) [] [.exit 0],.block 1 [.ops [.i .l (.fa (j 90) Z (.v 5) (.v 7)),nd,y5,xE],.ops [Ba,bc,r3,Py,.bU [⟨Z,R,1,.l 3,(.l 2)⟩],Qt,.bU [⟨Z,R,1,.l 4,(.l 3)⟩],.i .l (.app R 90 (.l 3) (.l 0)),Ba,Bb]],.ops [aaO,mM]]
def acv:List bj:=[.ops [A6,Ki],.ops [nJ,bc,KC,bc,acw,Kg,Dy],.ops [DH,acx,.i (.v 6) (.len R (j 90) (.v 5)),aaQ],.block 0 [.loop KB],.ops [uH,Dz],.ret]
theorem apI:cw ak T 53 1 9 [0,1,2,3,5,12,13,14,15] acv [(.cell Q 3 2)] Q:=by refine⟨_,_,Tryz.func53,rfl,rfl,?_,?_,?_,?_,?_⟩<;>kernel_rfl
def KD:List bj:=[.ops [PO],.cond (.v 9) [] [.exit 0],.block 1 [.ops [.i .l (.fa (j 90) Z (.v 6) (.v 8)),nd,y5,xE],.ops [eY,r3,.i .l acy,.i .l (.app R 3 (.l 2) (.l 0)),kD]],PS]
def acz:List bj:=[.ops [A6,Gu],J5,.ops [nJ,bc,.i (.v 5) QO],.cond (.v 5) [.ops [eY,KC,bc,J9,aaN,kD]] [],.ops [DH,Kq,.i (.v 7) (.len R (j 90) (.v 6)),PU],.block 0 [.loop KD],uB,.ret]
theorem apJ:cw ak T 165 1 10 [0,1,2,3,5,8,15,16,17,18] acz [(.v 2)] Q:=by refine⟨_,_,Tryz.func165,rfl,rfl,?_,?_,?_,?_,?_⟩<;>kernel_rfl
def acA:List bj:=[.ops [A6,DE],.ops [nJ,bc,QP,cU,.g (.l 0) R .l (.dG 2 (.v 1)),pJ,.g (.l 2) R .l (.call (.c (.fn 174 [] [])) [.l 0,.c (.fn 164 [] [])]),Gv,iw],.ret]
theorem apK:cw ak T 164 1 3 [0,1,2] acA [(.v 2)] Q:=by refine⟨_,_,Tryz.func164,rfl,rfl,?_,?_,?_,?_,?_⟩<;>kernel_rfl
def acB:List bj:=[uA,.ops [aX,dv,.i .l (.call (.c (.fn 181 [] [])) [.l 1,.l 0]),rX,iw],.ret]
theorem apL:cw ak T 174 2 3 [0,1,4] acB [(.v 2)] Q:=by refine⟨_,_,Tryz.func174,rfl,rfl,?_,?_,?_,?_,?_⟩<;>kernel_rfl
def KE:List bj:=[Gw,.cond (.v 6) [] [.exit 0],.block 1 [KF,.ops [dv,aX,eY,Kf,nd,QQ],.cond (.v 7) [uB,.ret] []],Gx]
def acC:List bj:=[rY,.ops [aX,.i (.v 4) (.len R (j 90) (.l 0)),xA],.block 0 [.loop KE],KG,.ret]
theorem apM:cw ak T 181 2 8 [0,1,4,5,7,8,9,16] acC [(.v 2)] Q:=by refine⟨_,_,Tryz.func181,rfl,rfl,?_,?_,?_,?_,?_⟩<;>kernel_rfl
theorem apN{y:ay}{i:Nat}(h:x.l[i]? =j y):iM (x.l.take (i+1))=iM (x.l.take i)+y.size/\iM (x.l.take (i+1))<=iM x.l:=by
 have e:=A0 h;constructor
 ·rw[e,Ir,aj7]
 ·have:=Ir (x.l.take (i+1)) (x.l.drop (i+1));rw[List.take_append_drop]at this;omega
theorem acD(l:List ay)(i:Nat):iM (l.take i)<=iM l:=by have:=Ir (l.take i) (l.drop i);rw[List.take_append_drop]at this;omega
theorem apO(l:List ay){i:Nat}(ae:i<l.length):i<=iM (l.take i):=by have:=M' (l.take i);rw[List.length_take]at this;omega
theorem q9{l:List ay}{i:Nat}{y:ay}(h:l[i]? =j y):y∈l:=qV h
theorem Bc{l:List ay}{i:Nat}(h:i<l.length):∃y,l[i]? =j y:=⟨_,gd h⟩
section
variable{h:ad}
def r6(left:Int)(n:Nat):Int:=if(n:Int)<=left then left - n else -1
theorem apP:∀(N:Nat) (x:ay),mV x<=N->∀(r:List I) (h:ad) (left:Int),ck x r->0<=left->left<=100000->aM ak T 140 [.agg r,.int o left] h=j (.inl (.int o (r6 left x.size)),h):=by
 intro N;induction N with
 |zero=>intro x an;have:=x.pZ;omega
 |succ N aW=>
   intro x an r h left he am F;obtain⟨v,es,rfl,gp,U,aq,hG⟩:=he.facts;have az:=x.size_eq;have cg:=gD (n:=left - 1) (by omega) (by omega);refine jn apG rfl λb' cf=>?_;unfold acj;simp only[ap,aw,aA,ar,U,cg];refine td (λi V E=>∃v5 cur,V=[.agg [.int o x.kind,.int o x.n,v],.int o cur,.ptr h.n 0 0,.int o 0,.int o (i:Nat),v5]/\E=h.push [[.int o x.kind,.int o x.n,v]]/\cur=r6 left (1+iM (x.l.take i))) x.l.length ⟨_,_,rfl,rfl,?_⟩ ?_ ?_
   ·simp only[r6,List.take_zero,iM];split<;>omega
   ·rintro i V E ae ⟨v5,cur,rfl,rfl,al⟩ next
    have bt:(i:Int)<(es.length:Int):=by rw[aq];omega
    by_cases hp:0<=cur
    ·obtain⟨y,bq⟩:=Bc ae;obtain⟨q,eW,d1,bY⟩:=hG i y bq;obtain⟨cJ,z2⟩:=apN bq;have h':=apO x.l ae;have lp:cur<=100000/\(i:Int)<100000:=by
      rw[al,r6]at hp ⊢;split at hp
      ·rename_i bz;rw[if_pos bz];omega
      ·omega
     have hw:=gD (n:=(i:Int)+1) (by omega) (by omega);have av:=aW y (by have:=ay.pj (q9 bq);omega) q (h.push [[.int o x.kind,.int o x.n,v]]) cur bY hp (by omega);rw[dd Kz.eq_1];simp only[ap,aw,aA,ar,cz,gp.len,gp.fits,bt,hp,eW,d1,av,hw];refine next _ _ ⟨_,_,rfl,rfl,?_⟩
     rw[cJ,al];rw[al]at hp;simp only[r6]at hp ⊢
     repeat' split<;>omega
    ·rw[dd Kz.eq_1];simp only[ap,aw,aA,ar,cz,gp.len,gp.fits,bt,hp];refine cf _ _ _ rfl (by repeat (first|exact aK.refl _|refine aK.trans ?_ (aK.push _ _)|refine aK.trans ?_ (aK.fresh _ _))) ?_;have e:cur=r6 left x.size:=by
      rw[al,r6]at hp;rw[al,r6,r6,az];have:=acD x.l i;split at hp
      ·omega
      ·rename_i bz;rw[if_neg bz,if_neg (by omega)]
     rw[<-e];rfl
   ·rintro V E ⟨v5,cur,rfl,rfl,al⟩;have bt:¬((x.l.length:Int)<(es.length:Int)):=by rw[aq];omega
    rw[List.take_length,<-az]at al;rw[dd Kz.eq_1];simp only[ap,aw,aA,ar,cz,gp.len,gp.fits,bt];exact cf _ _ _ rfl (by repeat (first|exact aK.refl _|refine aK.trans ?_ (aK.push _ _)|refine aK.trans ?_ (aK.fresh _ _))) (by rw[<-al];rfl)
theorem apQ{kind n:Int}{len:Nat}(h:jz kind n len=0):len=oJ kind/\(kind=0\/kind=1\/kind=2\/kind=3\/kind=4\/kind=5):=by
 unfold jz at h;split at h
 ·cases h
 ·split at h
  ·cases h
  ·exact⟨by omega,by omega⟩
theorem apR(kind:Int):oJ kind<=2:=by unfold oJ;split;omega;split<;>omega
theorem apS{l:List ay}{i:Nat}{y:ay}(h:l[i]? =j y):mW (l.drop i)=if y.fault≠0 then y.fault else mW (l.drop (i+1)):=by obtain⟨ae,rfl⟩:=fR.1 h;rw[List.drop_eq_getElem_cons ae,Ci]
end
def QR:List bj:=[uA,.ops [aX,dv,aaY,dv,Qe,iw],.ret]
theorem acE:cw ak T 166 2 3 [0,1,4] QR [(.v 2)] Q:=by refine⟨_,_,Tryz.func166,rfl,rfl,?_,?_,?_,?_,?_⟩<;>kernel_rfl
def QS:List bj:=[abj,.cond (.v 2) [.ops [dv,.i .l (.CM 252 (.l 0)),Df]] []]
theorem acF:cw ak T 178 2 3 [0,1,4] QS [] Q:=by refine⟨_,_,Tryz.func178,rfl,rfl,?_,?_,?_,?_,?_⟩<;>kernel_rfl
def KH:List bj:=[.ops [PO],.cond (.v 9) [] [.exit 0],.block 1 [.ops [.i .l (.fa (j 3) Z (.v 6) (.v 8)),bc,kD],.ops [aX,b7,dB,bc,dv,eY,.i .l (.call (.c (.fn 172 [] [])) [.l 2,.l 1,.c (.int o 15),.l 0]),cU,iu,iv,Dn,lF],.ops [jm,q7,jm,.i .l (.call (.c (.fn 178 [] [])) [.l 1,.l 0])],.ops [eS,lE]],PS]
def acG:List bj:=[rY,.ops [aX,b7,hB,Kq,.i (.v 7) (.len R (j 3) (.v 6)),PU],.block 0 [.loop KH],.ops [dv,iw],.ret]
theorem apT:cw ak T 168 2 10 [0,1,4,6,7,8,12,13,14,15] acG [(.v 2)] R:=by refine⟨_,_,Tryz.func168,rfl,rfl,?_,?_,?_,?_,?_⟩<;>kernel_rfl
def Gy:List bj:=[Gz,.cond (.v 10) [] [.exit 0],.block 1 [acH,.ops [.i .l (.dG 2 (.v 4)),bc,aX,s',acI,.bU [⟨Z,R,1,.l 4,(.l 3)⟩],Qt,.bU [⟨Z,R,1,.l 5,(.l 4)⟩],.i .l (.app R 90 (.l 4) (.l 0)),.i .l (.dG 2 (.v 4)),Bb]],GA]
def acJ:List bj:=[.ops [QT,Kg],.ops [r4,bc,o7,bc,acw,y5,xE],.ops [r4,bc,.i (.v 6) QO],.cond (.v 6) [.ops [aX,o7,bc,.i .l (.call (.c (.fn 168 [] [])) [.l 2,.l 0]),xB,Bb]] [],.ops [xz,DF,acK,GB],.block 0 [.loop Gy],.ops [r3,Dy],.ret]
theorem apU:cw ak T 157 2 11 [0,1,3,4,5,7,15,22,23,24,25] acJ [(.cell Q 3 3)] R:=by refine⟨_,_,Tryz.func157,rfl,rfl,?_,?_,?_,?_,?_⟩<;>kernel_rfl
def KI:List bj:=[KJ,.cond (.v 11) [] [.exit 0],.block 1 [.ops [.i .l (.fa (j 3) Z (.v 8) (.v 10)),bc,lF],.ops [aX,jm,abu,.i .l (.call (.c (.fn 166 [] [])) [.l 0,.c (.int o 4)]),.i (.v 12) v8],.cond (.v 12) [.ops [acL],.ret] []],KK]
def KL:List bj:=[.ops [QT,ta],.ops [uG,Pw,jT],.ops [eS,QU],.cond (.v 6) [QV,.ret] [],.ops [uG,.i (.v 7) (.call (.c (.fn 164 [] [])) [.l 0])],.cond (.v 7) [.ops [acL],.ret] [],.ops [uG,.i (.v 8) acy,.i (.v 9) (.len R (j 3) (.v 8)),KM],.block 0 [.loop KI],y0,.ret]
theorem QW:cw ak T 155 2 13 [0,1,3,4,5,7,11,14,16,17,18,19,26] KL [(.v 3)] Q:=by refine⟨_,_,Tryz.func155,rfl,rfl,?_,?_,?_,?_,?_⟩<;>kernel_rfl
open Go.RowKit
theorem be.apV(d':G.dE):∀(f:Nat) (i:Int),i.toNat<f->G.has i=Q->∃pre t,G.path i=pre++[t]/\t.parent= -1/\∃k:Nat,G.nodes[k]? =j t:=by
 intro f;induction f with
 |zero=>intro i ae;omega
 |succ f aW=>
   intro i ae bz;have ok:=d'.get bz;have rM:G.nodes[i.toNat]? =j (G.nodes.getD i.toNat lK):=by
    simp[be.has]at bz;have:i.toNat<G.nodes.length:=by omega
    simp[dm,this]
   rw[be.UB d' bz];by_cases hp:G.has (G.nodes.getD i.toNat lK).parent=Q
   ·have zR:0<=(G.nodes.getD i.toNat lK).parent:=by simp only[be.has,decide_eq_true_eq]at hp;exact hp.1
    have wM:=ok.dU;obtain⟨pre,t,F,J,af⟩:=aW (G.nodes.getD i.toNat lK).parent (by omega) hp;exact⟨_::pre,t,by rw[F];rfl,J,af⟩
   ·refine⟨[],_,by rw[be.yk (by simpa using hp)];rfl,?_,_,rM⟩;have am:=ok.hd;have F:=ok.dU;have hN:i.toNat<G.nodes.length:=(fR.1 rM).1;simp only[be.has,decide_eq_true_eq,not_and]at hp;rcases Int.lt_or_le (G.nodes.getD i.toNat lK).parent 0 with h|h
    ·omega
    ·have:=hp h;omega
theorem be.QX(d':G.dE){i:Int}(bz:G.has i=Q):(G.target i).2=Q/\(G.target i).1.parent= -1/\((G.target i).1.bD= -1/\0<=(G.target i).1.cell/\(G.target i).1.cell<12/\(G.target i).1.func=0\/0<=(G.target i).1.bD/\(G.target i).1.bD<4/\0<=(G.target i).1.func/\(G.target i).1.func<6/\(G.target i).1.cell=0):=by
 obtain⟨pre,t,F,J,k,ab⟩:=be.apV d' (i.toNat+1) i (by omega) bz;have aO:G.target i=(t,Q):=by unfold be.target;rw[F];simp[List.getLastD_eq_getLast?]
 rw[aO];exact⟨rfl,J,(d'.node k t ab).t J⟩
theorem be.apW(d':G.dE):∀(f:Nat) (i:Int),∀n∈G.np f i,zQ n.fm=Q/\(n.gate= -1\/0<=n.gate/\n.gate<G.shut.length):=by
 intro f;induction f with
 |zero=>intro i n aq;simp[be.np]at aq
 |succ f aW=>
   intro i n aq;unfold be.np at aq;split at aq
   ·rename_i ab;rcases gW.1 aq with rfl|aq
    ·exact⟨(d'.get ab).r,(d'.get ab).g⟩
    ·exact aW _ n aq
   ·simp at aq
theorem acM(d':G.dE)(i:Int):∃x:BitVec 64,G.fm i=x.toInt:=by
 unfold be.fm;split
 ·exact⟨0#64,rfl⟩
 ·exact⟨_,aop _ (λn aq=>(be.apW d' _ i n aq).1) 15#64⟩
theorem apX(x:ay):(id x).kind=x.kind:=rfl
theorem apY(x:ay):(id x).l=x.l.map id:=by simp
section
variable{h:ad}
theorem apZ(i:Option Nat):∀(k:Int),(k=0\/k=1\/k=2\/k=3\/k=4\/k=5)->fg (j 3) Z (.bN i 3 [[.int o 0],[.int o 0],[.int o 2],[.int o 1],[.int o 0],[.int o 0]]) (.int o k)=j (.ip [.int o (oJ k:Nat)] 0):=by rintro k (rfl|rfl|rfl|rfl|rfl|rfl)<;>rfl
theorem ap0:∀(N:Nat) (x:ay),mV x<=N->∀(r:List I) (h:ad),ck x r->aM ak T 141 [.agg r] h=j (.inl (.int o x.fault),h):=by
 intro N;induction N with
 |zero=>intro x an;have:=x.pZ;omega
 |succ N aW=>
   intro x an r h he;obtain⟨v,es,rfl,gp,U,aq,hG⟩:=he.facts;have ap1:=x.Ch;rw[ap1];have loop:jz x.kind x.n x.l.length=0->∀(b':k3->Prop) (v3 v6 dz gM:I),(∀V E,(iS V E [.v 2]).map iY=j (.int o (mW x.l))->aK h E->b' (j (.ret,V,E)))->b' (bu (aM ak T) 14 (.ff Gt::.bQ []::.b1 1::[.bQ [.ops [xy],.ret]]) [.agg [.int o x.kind,.int o x.n,v],.ptr h.n 0 0,.int o 0,v3,.aD,.aD,v6,dz,gM,v,.int o es.length,.int o 0,.aD,.aD] [] ((h.push [[.int o x.kind,.int o x.n,v]]).fresh 6)):=by
    intro a1 b' v3 v6 dz gM cf;obtain⟨hlen, -⟩:=apQ a1;have acN:=apR x.kind;refine td (λi V E=>∃v4 v5 v12 ix,V=[.agg [.int o x.kind,.int o x.n,v],.ptr h.n 0 0,.int o 0,v3,v4,v5,v6,dz,gM,v,.int o es.length,.int o (i:Nat),v12,ix]/\aK h E/\mW (x.l.drop i)=mW x.l) x.l.length ⟨_,_,_,_,rfl,(by repeat (first|exact aK.refl _|refine aK.trans ?_ (aK.push _ _)|refine aK.trans ?_ (aK.fresh _ _))),rfl⟩ ?_ ?_
    ·rintro i V E ae ⟨v4,v5,v12,ix,rfl,g,al⟩ next
     have bt:(i:Int)<(es.length:Int):=by rw[aq];omega
     obtain⟨y,bq⟩:=Bc ae;obtain⟨q,eW,d1,bY⟩:=hG i y bq;obtain⟨bO,bC⟩:=bY.one;have hw:=gD (n:=(i:Int)+1) (by omega) (by omega);have av:=aW y (by have:=ay.pj (q9 bq);omega) q (E.push [q]) bY;rw[apS bq]at al;by_cases bn:y.fault=0
     ·rw[if_neg (by simp[bn])]at al;rw[bn]at av;rw[dd Gt.eq_1];simp only[ap,aw,aA,ar,cz,bt,eW,d1,bO,bC,av,hw];exact next _ _ ⟨_,_,_,_,rfl,g.trans (by repeat (first|exact aK.refl _|refine aK.trans ?_ (aK.push _ _)|refine aK.trans ?_ (aK.fresh _ _))),al⟩
     ·rw[if_pos bn]at al;rw[dd Gt.eq_1];simp only[ap,aw,aA,ar,cz,bt,eW,d1,bO,bC,av,bn];exact cf _ _ (by rw[<-al];rfl) (g.trans (by repeat (first|exact aK.refl _|refine aK.trans ?_ (aK.push _ _)|refine aK.trans ?_ (aK.fresh _ _))))
    ·rintro V E ⟨v4,v5,v12,ix,rfl,g,al⟩;have bt:¬((x.l.length:Int)<(es.length:Int)):=by rw[aq];omega
     rw[List.drop_length]at al;rw[dd Gt.eq_1];simp only[ap,aw,aA,ar,cz,bt];exact cf _ _ (by rw[<-al];rfl) g
   refine jn apH rfl λb' cf=>?_;unfold acn;by_cases ab:x.kind=0\/x.kind=1\/x.kind=2\/x.kind=3\/x.kind=4\/x.kind=5
   ·have Bd:=λi=>apZ i x.kind ab;have hh:¬x.kind<0:=by omega
    have j4:¬5<x.kind:=by omega
    by_cases ai:(x.l.length:Nat)=oJ x.kind
    ·have jh:(es.length:Int)=(oJ x.kind:Int):=by rw[aq,ai]
     have QY:jz x.kind x.n x.l.length=if(x.kind=0\/x.kind=2)/\x.n≠0 then 5 else if 3<=x.kind/\x.n<0 then 1 else 0:=by unfold jz;rw[if_neg (by omega),if_neg (by omega)]
     have L:=loop;rw[QY]at L cf;rw[jh]at L;by_cases aR:x.n=0
     ·rcases ab with ab|ab|ab|ab|ab|ab
      all_goals
       rw[ab]at jh L cf Bd;simp only[oJ,eZ,if_false,if_true,uI,aR,not_true,ne_eq,and_false,Int.lt_irrefl]at jh L cf Bd;simp only[ap,aw,aA,ar,oo,U,ab,aR,eZ,Int.reduceLT,Int.reduceLE,gp.len,gp.fits,jh,Bd,Int.lt_irrefl];exact L trivial _ _ _ _ _ λV E e g=>cf _ _ _ e g rfl
     ·by_cases acO:x.n<0
      all_goals
       rcases ab with ab|ab|ab|ab|ab|ab
       all_goals
        rw[ab]at jh L cf Bd;simp only[oJ,eZ,Int.reduceLE,if_false,if_true,uI,aR,acO,not_true,not_false_eq_true,ne_eq,and_false,and_true,or_true,or_false,or_self]at jh L cf Bd;simp only[ap,aw,aA,ar,oo,U,ab,aR,acO,eZ,Int.reduceLT,Int.reduceLE,gp.len,gp.fits,jh,Bd]
        first
         |exact cf _ _ _ rfl (by repeat (first|exact aK.refl _|refine aK.trans ?_ (aK.push _ _)|refine aK.trans ?_ (aK.fresh _ _))) rfl
         |exact L trivial _ _ _ _ _ λV E e g=>cf _ _ _ e g rfl
    ·have bz:jz x.kind x.n x.l.length=5:=by unfold jz;rw[if_neg (by omega),if_pos ai]
     have jh:¬(es.length:Int)=(oJ x.kind:Int):=by rw[aq];omega
     rw[bz]at cf;simp only[ap,aw,aA,ar,oo,U,hh,j4,gp.len,gp.fits,Bd,jh];exact cf _ _ _ rfl (by repeat (first|exact aK.refl _|refine aK.trans ?_ (aK.push _ _)|refine aK.trans ?_ (aK.fresh _ _))) rfl
   ·have bz:jz x.kind x.n x.l.length=2:=by unfold jz;rw[if_pos (by omega)]
    rw[bz]at cf;by_cases hh:x.kind<0
    ·simp only[ap,aw,aA,ar,oo,U,hh];exact cf _ _ _ rfl (by repeat (first|exact aK.refl _|refine aK.trans ?_ (aK.push _ _)|refine aK.trans ?_ (aK.fresh _ _))) rfl
    ·have j4:5<x.kind:=by omega
     simp only[ap,aw,aA,ar,oo,U,hh,j4];exact cf _ _ _ rfl (by repeat (first|exact aK.refl _|refine aK.trans ?_ (aK.push _ _)|refine aK.trans ?_ (aK.fresh _ _))) rfl
theorem KN{r:List I}(he:ck x r):aM ak T 136 [.agg r] h=j (.inl (.int o x.code),h):=by
 obtain⟨bO,bC⟩:=he.one;have av:=λh=>apP _ x (bS _) r h 40 he (by omega) (by omega);have ax:=λh=>ap0 _ x (bS _) r h he;by_cases az:40<x.size
 ·have bs:r6 40 x.size= -1:=by rw[r6,if_neg (by omega)]
  have cq:x.code=3:=by rw[ay.code,if_pos az]
  rw[cq];simp only[bs]at av;refine jn acm rfl λb' cf=>?_;unfold QF;simp only[ap,aw,aA,ar,bO,bC,jP bC,av,Int.reduceLT];exact cf _ _ _ rfl (by repeat (first|exact aK.refl _|refine aK.trans ?_ (aK.push _ _)|refine aK.trans ?_ (aK.fresh _ _))) rfl
 ·have bs:¬r6 40 x.size<0:=by rw[r6,if_pos (by omega)];omega
  have cq:x.code=x.fault:=by rw[ay.code,if_neg az]
  rw[cq];refine jn acm rfl λb' cf=>?_;unfold QF;simp only[ap,aw,aA,ar,bO,bC,jP bC,av,bs,ax];exact cf _ _ _ rfl (by repeat (first|exact aK.refl _|refine aK.trans ?_ (aK.push _ _)|refine aK.trans ?_ (aK.fresh _ _))) rfl
def acP(V:List I):I:=V.getD 2 .aD
theorem ap2:∀(N:Nat) (x:ay),mV x<=N->x.size<=100000->∀(r:List I) (h:ad),ck x r->aM ak T 165 [.agg r] h=j (.inl (e4 3 (gn x.gj)),h):=by
 intro N;induction N with
 |zero=>intro x an;have:=x.pZ;omega
 |succ N aW=>
   intro x an dY r h he;obtain⟨v,es,rfl,gp,U,aq,hG⟩:=he.facts;have hlen:=x.yl;have az:=x.size_eq;have rest:∀(b':k3->Prop) (am:ad) (QZ:I) (c0:List Int) (v5:I),Acc h am 3 QZ (gn c0)->aK h am->h.n<am.n->am.cell h.n=j [[.int o x.kind,.int o x.n,v]]->c0.length<=1->(∀V E,(iS V E [.v 2]).map iY=j (acP V)->aK h E->dP (acP V)=j (e4 3 (gn (c0++pk x.l)))->b' (j (.ret,V,E)))->b' (bu (aM ak T) 10 (.ff KD::.bQ []::.b1 0::[.bQ [.ops [eY,iw],.ret]]) [.agg [.int o x.kind,.int o x.n,v],.ptr h.n 0 0,.aC,QZ,.aD,v5,v,.int o es.length,.int o 0,.aD] [] am):=by
    intro b' am QZ c0 v5 ap3 Au AS hh NB cf;refine td (λi V E=>∃acc hk ti,V=[.agg [.int o x.kind,.int o x.n,v],.ptr h.n 0 0,.aC,acc,hk,v5,v,.int o es.length,.int o (i:Nat),ti]/\aK h E/\h.n<E.n/\E.cell h.n=j [[.int o x.kind,.int o x.n,v]]/\Acc h E 3 acc (gn (c0++pk (x.l.take i)))) x.l.length ⟨_,_,_,rfl,Au,AS,hh,by simpa[pk]using ap3⟩ ?_ ?_
    ·rintro i V E ae ⟨acc,hk,ti,rfl,g,hm,a6,aN⟩ next
     have bt:(i:Int)<(es.length:Int):=by rw[aq];omega
     obtain⟨y,bq⟩:=Bc ae;obtain⟨q,eW,d1,bY⟩:=hG i y bq;obtain⟨bO,bC⟩:=bY.one;have hw:=gD (n:=(i:Int)+1) (by omega) (by omega);have av:=aW y (by have:=ay.pj (q9 bq);omega) (by have:=ay.tI (q9 bq);omega) q (E.push [q]) bY;have nK:=Nb (x.l.take i);have fB:=acD x.l i;have kO:=y.Na;have ap4:=ay.tI (q9 bq);obtain⟨o',J,ax,aP,a2,a3,a4⟩:=aoQ (h:=(E.push [q])) (show Acc h (E.push [q]) _ acc _ from aN) (g.trans (aK.push _ _)) (aoS 3 (gn y.gj)) (aoT _) (by simp only[gG,dy];omega) (by simp only[gG];omega);have ap5:Acc h J 3 o' (gn (c0++pk (x.l.take (i+1)))):=by rw[A0 bq,UC,<-jA];simpa[pk]using aP
     rw[dd KD.eq_1];simp only[ap,aw,aA,ar,cz,bt,eW,d1,bO,bC,av,ax,hw];exact next _ _ ⟨_,_,_,rfl,a2,by rw[a4];(show _<E.n+1;omega),by rw[a3];(exact(eG hm).trans a6),ap5⟩
    ·rintro V E ⟨acc,hk,ti,rfl,g,hm,a6,aN⟩;have bt:¬((x.l.length:Int)<(es.length:Int)):=by rw[aq];omega
     rw[List.take_length]at aN;have Be:=FB aN (λr aj=>by obtain⟨n,_,rfl⟩:=lR.1 aj;rfl);rw[dd KD.eq_1];simp only[ap,aw,aA,ar,cz,bt];exact cf _ _ rfl g Be
   rw[x.aj8];refine jn apJ rfl λb' cf=>?_;unfold acz;by_cases aB:x.kind=4
   ·rw[aB]at rest;have L:=rest;obtain⟨aAE,F,av,aP,a2,a3,a4⟩:=vP (am:=h) (h:=h.push [[.int o 4,.int o x.n,v]]) (vO h _ 3) (by repeat (first|exact aK.refl _|refine aK.trans ?_ (aK.push _ _)|refine aK.trans ?_ (aK.fresh _ _))) (row:=[.int o x.n]) rfl (by simp);simp only[qj]at av;simp only[ap,aw,aA,ar,U,aB,gp.len,gp.fits,av,a3];refine L _ _ _ [x.n] _ aP a2 (by rw[a4];simp only[ek];omega) (by rw[a3];exact fU) (by simp) λV E e g w=>cf _ _ _ e g ?_;rw[w];simp[aB]
   ·simp only[ap,aw,aA,ar,U,aB,gp.len,gp.fits];refine rest _ _ _ [] _ (vO _ _ _) (by repeat (first|exact aK.refl _|refine aK.trans ?_ (aK.push _ _)|refine aK.trans ?_ (aK.fresh _ _))) (by simp only[ek];omega) fU (by simp) λV E e g w=>cf _ _ _ e g ?_;rw[w];simp[aB]
theorem ap6(v:I)(l:List ay)(U:∀h,F9 h v l)(ai:l.length<=100000)(g:cH)(p:ay->Bool)(bn:∀y∈l,∀q h,ck y q->aM ak T g [.agg q] h=j (.inl (.bool (p y)),h)):∃n:Int,aM ak T 181 [v,.fn g [] []] h=j (.inl (.int o n),h)/\decide (0<=n)=l.any p:=by
 suffices key:∃bg,aM ak T 181 [v,.fn g [] []] h=j (.inl bg,h)/\∃n:Int,bg= .int o n/\decide (0<=n)=l.any p by obtain⟨_,e,n,rfl,J⟩:=key;exact⟨n,e,J⟩
 have KO:=(U h).len;have ap7:=(U h).fits;refine Kb apM rfl λb' cf=>?_;unfold acC;simp only[ap,aw,aA,ar,KO,ap7];refine td (λi V E=>∃v2 v3 v6 dz,V=[v,.fn g [] [],v2,v3,.int o l.length,.int o (i:Nat),v6,dz]/\aK h E/\(l.drop i).any p=l.any p) l.length ⟨_,_,_,_,rfl,aK.refl _,rfl⟩ ?_ ?_
 ·rintro i V E ae ⟨v2,v3,v6,dz,rfl,g,al⟩ next
  have bt:(i:Int)<(l.length:Int):=by omega
  obtain⟨y,bq⟩:=Bc ae;obtain⟨a,q,eW,i2,bY⟩:=(U E).bR i y bq;have hw:=gD (n:=(i:Int)+1) (by omega) (by omega);have av:=bn y (q9 bq) q E bY;have a1:(l.drop i).any p=(p y||(l.drop (i+1)).any p):=by obtain⟨ev,rfl⟩:=fR.1 bq;rw[List.drop_eq_getElem_cons ev,List.any_cons]
  rw[a1]at al;cases ag:p y
  ·rw[ag]at av al;rw[Bool.false_or]at al;rw[dd KE.eq_1];simp only[ap,aw,aA,ar,cz,cx,me,bt,eW,i2 _ (aK.refl E),av,hw];exact next _ _ ⟨_,_,_,_,rfl,g,al⟩
  ·rw[ag]at av al;rw[Bool.true_or]at al;rw[dd KE.eq_1];simp only[ap,aw,aA,ar,cz,cx,me,bt,eW,i2 _ (aK.refl E),av];exact cf _ _ _ _ rfl g rfl ⟨i,rfl,by rw[<-al];simp⟩
 ·rintro V E ⟨v2,v3,v6,dz,rfl,g,al⟩;have bt:¬((l.length:Int)<(l.length:Int)):=by omega
  rw[List.drop_length]at al;rw[dd KE.eq_1];simp only[ap,aw,aA,ar,cz,bt];exact cf _ _ _ _ rfl g rfl ⟨-1,rfl,by rw[<-al];rfl⟩
theorem ap8:∀(N:Nat) (x:ay),mV x<=N->x.size<=100000->∀(r:List I) (h:ad),ck x r->aM ak T 164 [.agg r] h=j (.inl (.bool x.gate),h):=by
 intro N;induction N with
 |zero=>intro x an;have:=x.pZ;omega
 |succ N aW=>
   intro x an dY r h he;obtain⟨v,es,rfl,az,ai⟩:=he.row;have a':∀h,F9 h v x.l:=λh=>F9.of az ai;have hlen:=x.yl;have bO:=(a' h).one;have av:∀h,aM ak T 174 [v,.fn 164 [] []] h=j (.inl (.bool (Cj x.l)),h):=by intro h;obtain⟨n,gI,ax⟩:=ap6 (h:=h) v x.l a' (by omega) 164 ay.gate (λy bq q h aE=>aW y (by have:=ay.pj bq;omega) (by have:=ay.tI bq;omega) q h aE);rw[UD,<-ax];refine jn apL rfl λb' cf=>?_;unfold acB;simp only[ap,aw,aA,ar,gI];exact cf _ _ _ rfl (by repeat (first|exact aK.refl _|refine aK.trans ?_ (aK.push _ _)|refine aK.trans ?_ (aK.fresh _ _))) rfl
   rw[x.aj9];refine jn apK rfl λb' cf=>?_;unfold acA;cases ab:decide (x.kind=5)
   ·simp only[ap,aw,aA,ar,bO,ab,av];exact cf _ _ _ rfl (by repeat (first|exact aK.refl _|refine aK.trans ?_ (aK.push _ _)|refine aK.trans ?_ (aK.fresh _ _))) (by rw[ab];rfl)
   ·simp only[ap,aw,aA,ar,bO,ab];exact cf _ _ _ rfl (by repeat (first|exact aK.refl _|refine aK.trans ?_ (aK.push _ _)|refine aK.trans ?_ (aK.fresh _ _))) (by rw[ab];rfl)
end
theorem Q0{e:aU}{b n m:Nat}(hm:m<=n):ku (.br b 0 n e) Z (j (.int o (m:Int)))=j (.br b 0 m e):=by simp[ku,p5,qM,gY,oO,hm]
abbrev bB:List I:=[.int o 0,.int o 0,.aC]
section
variable{h E am:ad}{ah ao aL aF:Nat->Prop}{L:List b2}{bp aG bh:Nat}{left:Int}{below:List h2}{top:h2}
theorem oq(f:h2)(a:List I)(s n g:I)(aN:a.length=3):(gu f a s n g)[6]? =j s/\(gu f a s n g).length=10/\(gu f a s n g)[7]? =j n/\(gu f a s n g)[9]? =j g/\(gu f a s n g)[8]? =j (.bool f.asked)/\(gu f a s n g)[0]? =j (.int o f.bD)/\(gu f a s n g)[1]? =j (.int o f.f)/\(gu f a s n g)[2]? =j (.int o (f.bo:Int)):=by
 match a,aN with
 |[x,y,z],_=>exact⟨rfl,rfl,rfl,rfl,rfl,rfl,rfl,rfl⟩
theorem KP{f:h2}{a:List I}{s n g:I}(aN:a.length=3/\a.all I.one=Q)(az:s.one=Q)(aq:n.one=Q)(a7:g.one=Q):(gu f a s n g).all I.one=Q:=by simp only[gu,List.all_append,aN.2,az,aq,a7,List.all_cons,List.all_nil,s3];rfl
theorem acQ(f:h2)(a:List I)(s n g eD:I)(st:List ay)(aN:a.length=3):(gu f a s n g).set 6 eD=gu {f with stack:=st} a eD n g:=by
 match a,aN with
 |[x,y,z],_=>rfl
theorem GC{α:Type}{A B:List α}{x:α}{k:Nat}(ab:A.length=k):(A++x::B)[k]? =j x:=P3 A B x ab.symm
theorem acR{α:Type}{A B:List α}{x y:α}{k:Nat}(ab:A.length=k):(A++x::B).set k y=A++y::B:=Kc A B x y ab.symm
theorem ap9(eR:aQ am aL aF h L)(i:Nat)(ae:L[i]? =j (iJ bp aG bh left below top)){v:ay}{r:List I}(U:ck v r)(ag:below.length<=1000)(bJ:top.stack.length<=1000000):∃E,aM ak T om [.ptr bp 0 0,.agg r] h=j (.inl (.bx []),E)/\aQ am aL aF E (L.set i (iJ bp aG bh left below {top with stack:=top.stack++[v]})):=by refine eR.call (cn:=λE=>aM ak T om [.ptr bp 0 0,.agg r] h=j (.inl (.bx []),E)) i ae λah ao x=>?_;obtain⟨rs,ex,a,ea,aI,g,gB,aN,a7,s⟩:=A2 x;have bf:=(s.hS (aK.push h [r])).hS (aK.push (h.push [r]) [r]);have aR:((h.push [r]).push [r]).cell (h.n+1)=j [r]:=fU;obtain⟨af,bs,bP⟩:=bf.app 2 rfl aR U bJ;have jU:=s.cell 0 rfl;have bT:=s.cell 1 rfl;have du:=(bP.cell 1 rfl).1;have hT:=oq top a ea aI g aN.dx.1;have run:=apB (eD:=.br ((h.push [r]).push [r]).n 0 (top.stack.length+1) cD) ag U.dx jU.2 bT.2 jU.1 bT.1 (GC gB) hT.1 hT.2.1 bs du rfl rfl;rw[acQ _ _ _ _ _ _ (top.stack++[v]) aN.dx.1,acR gB]at run;have cj:=bP.set 1 rfl [rs++gu {top with stack:=top.stack++[v]} a (.br ((h.push [r]).push [r]).n 0 (top.stack.length+1) cD) aI g::ex].flatten;exact⟨_,run,Dx (top:={top with stack:=top.stack++[v]}) aN a7 (by simpa using cj)⟩
theorem KQ{rs:List (List I)}{row Q1:List I}{k D:Nat}{v:I}(al:J.cell bh=j (rs++row::ex))(ab:rs.length=k)(F:v.one=Q)(U:v.cells=[v])(aa:D<row.length)(aj:row.set D v=Q1):eN 1 J (.ptr bh k D) v=j (J.set bh (j (rs++Q1::ex))):=by
 rw[lV al (GC ab) (by rw[U];simpa using F) (by rw[U];rfl) (by omega),acR ab,U];have:dO row D [v]=Q1:=by
  rw[<-aj];unfold dO;refine List.ext_getElem? λi=>?_;have:=xd row [v] D i (by simp only[fS];omega);unfold dO at this;rw[this];by_cases e:i=D
  ·subst e;simp[aa]
  ·rw[if_neg (by simp only[fS];omega),List.getElem?_set_ne (by omega)]
 rw[this]
theorem GD{rs:List (List I)}{row:List I}{k D n:Nat}{v:I}(al:J.cell bh=j (rs++row::ex))(ab:rs.length=k)(aj:row[D]? =j v):cO R n J (.ptr bh k D)=j v:=by rw[gm,al,da,GC ab,da,qi,aj]
theorem ap'(eR:aQ am aL aF h L)(i:Nat)(ae:L[i]? =j (iJ bp aG bh left below top)){st:List ay}{v:ay}(bJ:top.stack=st++[v])(ag:below.length<=1000)(ai:st.length<=1000000):∃E,(∃r,aM ak T 144 [.ptr bp 0 0] h=j (.inl (.agg r),E)/\ck v r)/\aQ am aL aF E (L.set i (iJ bp aG bh left below {top with stack:=st})):=by
 refine eR.call (cn:=λE=>∃r,aM ak T 144 [.ptr bp 0 0] h=j (.inl (.agg r),E)/\ck v r) i ae λah ao x=>?_;obtain⟨rs,ex,a,ea,aI,g,gB,aN,a7,s⟩:=A2 x;have aY:=s.push [bB];obtain⟨eH,eI,bY⟩:=aY.get 3 rfl;rw[bJ]at bY;have hlen:(st++[v]).length=st.length+1:=by simp
 obtain⟨b,acS⟩:=abg bY (by simp);rw[hlen]at acS;subst acS;have rd:=jp bY;obtain⟨p,r,dU,g8,ia⟩:=rd.2.2.2.2 o st.length v (by simp);have hT:=oq top a (.br b 0 (st.length+1) cD) aI g aN.dx.1;have w:hq o (((st.length+1:Nat):Int) - 1)=(st.length:Int):=oj (by omega) (by omega) (by omega);have fB:=Q0 (e:=cD) (b:=b) (n:=st.length+1) (m:=st.length) (by omega);have cZ:=Kw (aY.cell 1 rfl).1 ag;have b5:=λn=>GD (n:=n) (aY.cell 2 rfl).1 gB hT.1;have bf:=aY.push [bB];have bP:=aY.push [r];have dK:=λn=>GD (n:=n) (bP.cell 3 rfl).1 gB hT.1;have acT:=KQ (v:=.br b 0 st.length cD) (bP.cell 3 rfl).1 gB rfl rfl (by rw[hT.2.1];decide) (acQ _ _ _ _ _ _ st aN.dx.1);have cj:=bP.set 3 rfl (rs++gu {top with stack:=st} a (.br b 0 st.length cD) aI g::ex);have a6:=(bf.cell 0 rfl).1;have c4:=(cj.cell 0 rfl).1;have c5:=(cj.cell 1 rfl).1;have cT:=cj.set 1 rfl [r];have fp:=(cT.cell 1 rfl).1;have w1:b9 6 (.ptr bh below.length 0)=j (.ptr bh below.length 6):=rfl;have eo:aQ h ah ao _ (F' bp aG bh left below {top with stack:=st} rs ex a (.br b 0 st.length cD) aI g):=cT.drop.drop.abh 2 rfl λ_ _ _ x=>by rw[bJ]at x;exact abf x
 refine⟨_,⟨r,?_,ia⟩,Dx (top:={top with stack:=st}) aN a7 eo⟩;simp only[ek]at a6 c4 c5 fp acT dK;refine bd apa rfl ?_;unfold abm;simp only[ap,aw,aA,ar,cx,cZ,b5,dU,g8,w,fB,ia.dx.1,ia.dx.2,a6,dK,acT,c4,c5,w1]
end
def acU:List bj:=[DG,.ops [aX,aX,b7,dB,bc,dv,g4,eY,.i .l (.build [.int o 0,.int o 0,.int o 0] [(0,1),(1,1),(2,1)] [(0,(.l 2)),(1,(.l 1)),(2,(.l 0))]),.i .l (.hv Q 239 [.int o 0,.int o 0,.int o 0] 3 1 [(0,(.l 0))]),.i .l (.app Q 239 (.l 5) (.l 0)),Qw,dB,ka],.ops [aX,b7,dB,bc,acV,rW,jT],.ret]
theorem aqa:cw ak T 135 4 5 [0,1,2,3,8] acU [(.v 4)] R:=by refine⟨_,_,Tryz.func135,rfl,rfl,?_,?_,?_,?_,?_⟩<;>kernel_rfl
def acW:List bj:=[.ops [aX,b7,dB,bc,dv,aX,b7,dB,bc,acV,.i .l (.fa (j 239) Z (.l 6) (.l 5)),hB,ka]]
theorem aqb:cw ak T 139 2 2 [0,1] acW [] R:=by refine⟨_,_,Tryz.func139,rfl,rfl,?_,?_,?_,?_,?_⟩<;>kernel_rfl
def Q2:List bj:=[Gz,.cond (.v 10) [] [.exit 1],.block 2 [.ops [Q3,uJ,.i (.v 5) KR,.i .n (.store 4 (.v 5) (.l 0))],.ops [aX,.i .l (.load Q 4 (.v 5)),acX]],GA]
def KS:List bj:=[.ops [.i (.v 2) (.box 4 (.v 1))],.ops [aX,.i .l (.call (.c (.fn 135 [] [])) [.l 0,.c (.int o 100),.c (.int o 0),.c (.int o 0)])],.ops [r4,Kq],.block 0 [.ops [.i .l (.bin (.int o) .eql (.v 6) (.c (.int o 5))),Gl],.cond (.v 11) [acY,.ops [aX,.i .l (.call (.c (.fn 135 [] [])) [.l 0,.c (.int o 101),.c (.int o 0),.c (.int o 0)])],acZ,.ops [aX,.i .l (.call (.c (.fn 135 [] [])) [.l 0,.c (.int o 102),.c (.int o 0),.c (.int o 0)])]] [.ops [.i .l (.bin (.int o) .eql (.v 6) (.c (.int o 7))),xH],.cond (.v 12) [acY,.ops [aX,.i .l (.call (.c (.fn 135 [] [])) [.l 0,.c (.int o 103),.c (.int o 0),.c (.int o 0)]),kD],acZ,.ops [aX,.i .l (.call (.c (.fn 135 [] [])) [.l 0,.c (.int o 104),.c (.int o 0),.c (.int o 0)]),jT],.ops [aX,eY,ac0],.ops [aX,we,bc,.i .l (.fa (j 153) Z (.l 0) (.c (.int o 2))),uJ,Q4],.ops [aX,eS,ac0]] [.ops [we,DF,Q5,GB],.block 1 [.loop Q2],.ops [aX,r4,bc,o7,bc,xz,bc,.i .l (.call (.c (.fn 135 [] [])) [.l 6,.l 4,.l 2,.l 0])]]]]]
theorem Q6:cw ak T 134 2 13 [0,1,3,4,5,7,11,13,14,15,16,31,49] KS [] R:=by refine⟨_,_,Tryz.func134,rfl,rfl,?_,?_,?_,?_,?_⟩<;>kernel_rfl
def Q7:List bj:=[.ops [QH],.cond (.v 12) [] [.exit 0],.block 1 [.ops [.i .l (.fa (j 153) Z (.v 9) (.v 11)),uJ,ac1,ac2],.ops [Q8,.i .l (.box 1 (.l 0)),mM],.ops [uz,Q9,acX],.ops [uz,.i .l (.call (.c (.fn 135 [] [])) [.l 0,.c (.int o 105),.c (.int o 0),.c (.int o 0)])],.ops [jm,uz,b7,dB,bc,.i .l (.hv R 222 [.aC] 1 1 [(0,(.l 0))]),.i .l (.app R 222 (.l 5) (.l 0)),lF]],QI]
def KT:List bj:=[.ops [.i (.v 1) (.box 1 (.v 0)),Gu,KU],.ops [GF,ac3,Q',Ra],.ops [Kp,bc,KV],.cond (.v 8) [.ops [.i .l (.load Q 2 (.v 4)),Gu,xJ],.ret] [],.ops [.i (.v 5) (.a' (.c .aC))],.ops [nJ,acu,.i (.v 10) (.len R (j 153) (.v 9)),QN],.block 0 [.loop Q7],.ops [jm,xK,.i (.v 2) tj,xJ],.ret]
def ac4:List bj:=[.ops [Dg],.ops [aX,GG,cU,za,.g (.l 1) R .l (.bin (.int o) .gtr (.l 0) (.c (.int o 21))),ac5],.cond (.v 2) [.ops [GH],.ret] [],.ops [.i .l (.build [.int o 0,.int o 0,.int o 0,.int o 0,.int o 0,.int o 0,.int o 0,.int o 0,.int o 0,.int o 0,.int o 0,.int o 0,.int o 0,.int o 0,.int o 0,.int o 0,.int o 0,.int o 0,.int o 0,.int o 0,.int o 0,.int o 0] [(0,1),(1,1),(2,1),(3,1),(4,1),(5,1),(6,1),(7,1),(8,1),(9,1),(10,1),(11,1),(12,1),(13,1),(14,1),(15,1),(16,1),(17,1),(18,1),(19,1),(20,1),(21,1)] [(0,(.c (.int o 0))),(1,(.c (.int o 0))),(2,(.c (.int o 0))),(3,(.c (.int o 0))),(4,(.c (.int o 0))),(5,(.c (.int o 2))),(6,(.c (.int o 2))),(7,(.c (.int o 3))),(8,(.c (.int o 2))),(9,(.c (.int o 1))),(10,(.c (.int o 1))),(11,(.c (.int o 1))),(12,(.c (.int o 1))),(13,(.c (.int o 1))),(14,(.c (.int o 2))),(15,(.c (.int o 1))),(16,(.c (.int o 1))),(17,(.c (.int o 1))),(18,(.c (.int o 1))),(19,(.c (.int o 2))),(20,(.c (.int o 1))),(21,(.c (.int o 0)))]),aX,ac6,lE],.ret]
theorem aqc:cw ak T 101 1 3 [0,2,8] ac4 [(.v 1)] Q:=by refine⟨_,_,Tryz.func101,rfl,rfl,?_,?_,?_,?_,?_⟩<;>kernel_rfl
def KW:List bj:=[.ops [dv,cU,q5,Di,aao,Dj,.g (.l 4) Q .l J7,.i (.v 3) aaD],.cond (.v 3) [.ops [aX,g4,C',hB,ka]] []]
theorem Rb:cw ak T 102 3 4 [0,1,2,13] KW [] R:=by refine⟨_,_,Tryz.func102,rfl,rfl,?_,?_,?_,?_,?_⟩<;>kernel_rfl
def ac7:List bj:=[.ops [Rc,.i (.v 3) (.box 1 (.v 1)),abq],.ops [.i .l Rd,rX,cU,.g (.l 0) Q .l (.dG 3 (.v 2)),y',.g (.l 2) Q .l (.CN 123 [] [.v 3]),.g (.l 3) Q .l (.call (.c (.fn 122 [] [])) [.l 1,.l 0]),PG,PH,jT],.ret]
theorem aqd:cw ak T 103 2 5 [0,1,2,3,4] ac7 [(.v 4)] Q:=by refine⟨_,_,Tryz.func103,rfl,rfl,?_,?_,?_,?_,?_⟩<;>kernel_rfl
def ac8:List bj:=[.ops [Rc,J6],.ops [.i .l (.load Q 4 (.v 2)),JZ,rW,.i .l (.call (.c (.fn 103 [] [])) [.l 2,.l 0]),s9,kD],.ret]
theorem aqe:cw ak T 123 2 4 [0,1,2,3] ac8 [(.v 3)] Q:=by refine⟨_,_,Tryz.func123,rfl,rfl,?_,?_,?_,?_,?_⟩<;>kernel_rfl
def ac9:List bj:=[uA,.ops [aX,dv,.i .l (.call (.c (.fn 132 [] [])) [.l 1,.l 0]),rX,iw],.ret]
theorem aqf:cw ak T 122 2 3 [0,1,4] ac9 [(.v 2)] Q:=by refine⟨_,_,Tryz.func122,rfl,rfl,?_,?_,?_,?_,?_⟩<;>kernel_rfl
def GI:List bj:=[Gw,.cond (.v 6) [] [.exit 0],.block 1 [KF,.ops [dv,aX,eY,ac',uJ,QQ],.cond (.v 7) [uB,.ret] []],Gx]
def ada:List bj:=[rY,.ops [aX,.i (.v 4) GJ,xA],.block 0 [.loop GI],KG,.ret]
theorem aqg:cw ak T 132 2 8 [0,1,4,5,7,8,9,16] ada [(.v 2)] Q:=by refine⟨_,_,Tryz.func132,rfl,rfl,?_,?_,?_,?_,?_⟩<;>kernel_rfl
def KX:List bj:=[.ops [eS,we,bc,Re,acg,cU,Dh,ach,aci],.cond (.v 5) [] [.exit 0],.block 1 [.ops [we,bc,eS,ac',uJ,dv,.i .l (.call (.c (.fn 104 [] [])) [.l 1,.l 0]),lE]],Gs]
def adb:List bj:=[.ops [Rc,ta],.ops [dv,rW,lE],DG,.block 0 [.loop KX],.ops [dv,kD],.ret]
theorem aqh:cw ak T 104 2 6 [0,1,2,4,5,16] adb [(.v 3)] Q:=by refine⟨_,_,Tryz.func104,rfl,rfl,?_,?_,?_,?_,?_⟩<;>kernel_rfl
def adc:List bj:=[ade,.ops [aX,Ba,bc,q7,cU,.g (.l 0) Q .l (.dG 0 (.v 3)),y',.g (.l 2) Q .l (.bin (.int o) .neq (.l 0) (.c (.int o 2))),DI,.i .l (.call (.c (.fn 102 [] [])) [.l 8,.l 0,.c (.int o 5)])],.ops [tk,.i (.v 4) yY],.block 0 [.ops [.i .l (.bin (.int o) .eql (.v 4) (.c (.int o 4))),lF],.cond (.v 5) [.ops [aX,nf,bc,uy,cU,xL,pJ,.g (.l 2) R .l (.a' (.v 2)),.g (.l 3) R .l (.bin (.int o) .geq (.l 1) (.l 0)),.i .l Bf,.i .l (.call (.c (.fn 102 [] [])) [.l 9,.l 0,.c (.int o 1)])]] [.ops [.i .l (.bin (.int o) .eql (.v 4) (.c (.int o 6))),nG],.cond (.v 6) [.ops [aX,nf,bc,GG,cU,xL,pJ,KA,Gv,.i .l (.call (.c (.fn 102 [] [])) [.l 8,.l 0,.c (.int o 1)])]] [.ops [.i .l (.bin (.int o) .eql (.v 4) (.c (.int o 15))),mM],.cond (.v 7) [.ops [aX,nf,bc,J1,s9,.i .l (.call (.c (.fn 102 [] [])) [.l 4,.l 0,.c (.int o 1)])]] [.ops [.i .l (.bin (.int o) .eql (.v 4) (.c (.int o 18))),qn],.cond (.v 8) [.ops [aX,nf,bc,uy,cU,xL,pJ,KY,.g (.l 3) R .l (.lv (.l 0)),.g (.l 4) R .l (.dG 0 (.l 0)),.g (.l 5) R .l (.dG 0 (.l 0)),GK,.g (.l 7) R .l GJ,.g (.l 8) R .l (.bin (.int o) .geq (.l 6) (.l 0)),.i .l (.pick (.l 9) (.c (.bool Q)) (.l 0)),.i .l (.call (.c (.fn 102 [] [])) [.l 14,.l 0,.c (.int o 1)])]] [.ops [aX,nf,bc,q7,.i .l (.call (.c (.fn 102 [] [])) [.l 3,.l 0,.c (.int o 5)])]]]]]]]
theorem aqi:cw ak T 124 3 9 [0,1,2,4,17,23,36,48,56] adc [] R:=by refine⟨_,_,Tryz.func124,rfl,rfl,?_,?_,?_,?_,?_⟩<;>kernel_rfl
def DJ:List bj:=[Gz,.cond (.v 10) [] [.exit 0],.block 1 [.ops [A9,Q3,uJ,ac1,.i (.v 5) Dq,ac2],.ops [aX,b7,hB,bc,.i (.v 11) xx],.cond (.v 11) [.ret] [],.ops [tk,bc,QP,cU,.g (.l 0) Q .l (.a' (.v 5)),.g (.l 1) Q .l adf,.i (.v 12) (.pick (.l 2) (.l 0) (.c (.bool R)))],.cond (.v 12) [.ops [aX,Q9,g4,wc,.i .l (.call (.c (.fn 105 [] [])) [.l 3,.l 2,.l 0])]] [.ops [aX,Q9,g4,.i .l (.call (.c (.fn 105 [] [])) [.l 2,.l 1,.l 0])]]],GA]
def adg:List bj:=[ade,.ops [tk,bc,adh,jT],.ops [aX,eS,uy,.i .l (.call (.c (.fn 102 [] [])) [.l 2,.l 0,.c (.int o 2)])],.ops [aX,KZ,bc,Re,eS,Qc,.i .l (.call (.c (.fn 102 [] [])) [.l 5,.l 0,.c (.int o 5)])],.ops [aX,.i .l (.load Q 4 (.v 3)),g4,.i .l (.call (.c (.fn 124 [] [])) [.l 2,.l 1,.l 0])],.ops [aX,tk,bc,QP,cU,Rf,.g (.l 1) Q .l (.bin (.int o) .eql (.l 0) (.c (.int o 12))),y1,.i .l (.call (.c (.fn 102 [] [])) [.l 7,.l 0,.c (.int o 3)])],.ops [KZ,DF,Q5,GB],.block 0 [.loop DJ]]
theorem aqj:cw ak T 105 3 13 [0,1,2,4,6,7,8,37,38,39,40,48,55] adg [] R:=by refine⟨_,_,Tryz.func105,rfl,rfl,?_,?_,?_,?_,?_⟩<;>kernel_rfl
def K0:List bj:=[Gz,.cond (.v 10) [] [.exit 0],.block 1 [.ops [A9,Q3,uJ,.i (.v 4) KR,.i (.v 3) Dq,.i .n (.store 4 (.v 4) (.l 0))],.ops [GF,.i .l (.build [.aC,.int o 0] [(0,1),(1,1)] [(0,(.l 0))]),J',lF],.ops [jm,.i .l Rg,.i .l (.call (.c (.fn 103 [] [])) [.l 0,.c (.int o 30)]),s9,.i .l (.call (.c (.fn 102 [] [])) [.l 3,.l 0,.c (.int o 4)])],.ops [jm,jm,b7,hB,bc,y9,cU,.g (.l 0) Q .l Rg,.g (.l 1) Q .l (.call (.c (.fn 104 [] [])) [.l 0,.c (.int o 120)]),acr,DI,.i .l (.call (.c (.fn 102 [] [])) [.l 10,.l 0,.c (.int o 3)])],.ops [jm,b7,hB,bc,PR],.cond (.v 11) [.ops [jm,.i .l Rg,.i .l (.call (.c (.fn 105 [] [])) [.l 1,.l 0,.c (.int o 0)])]] [],.ops [jm,b7,hB,bc,.i (.v 12) xx],.cond (.v 12) [.ops [jm,b7,hB,bc,eY,Rh,tl],.ret] []],GA]
def adi:List bj:=[.ops [.i (.v 1) (.box 1 (.v 0)),K1],.ops [nJ,bc,Re,y9,cU,QJ,pJ,.g (.l 2) R .l GJ,.g (.l 3) R .l (.bin (.int o) .gtr (.l 0) (.c (.int o 6))),.i (.v 6) Bf],.cond (.v 6) [.ops [adj,tl],.ret] [],.ops [nJ,DF,Q5,GB],.block 0 [.loop K0],.ops [xK,tl],.ret]
theorem aqk:cw ak T 74 1 13 [0,1,2,3,4,5,15,18,19,20,21,49,57] adi [(.cell Q 2 2)] Q:=by refine⟨_,_,Tryz.func74,rfl,rfl,?_,?_,?_,?_,?_⟩<;>kernel_rfl
theorem hy.len:∀{l:List bk} {es:List (List I)},hy l es->es.length=l.length
 |[],es,h=>by simp only[hy]at h;subst h;rfl
 |x::l,es,h=>by simp only[hy]at h;obtain⟨r,rs,rfl,_,J⟩:=h;simp[hy.len J]
theorem hy.get:∀{l:List bk} {es:List (List I)} {i:Nat} {x:bk},hy l es->l[i]? =j x->∃r,es[i]? =j r/\j9 x r
 |[],es,i,x,h,an=>by simp at an
 |y::l,es,i,x,h,an=>by
   simp only[hy]at h;obtain⟨r,rs,rfl,F,J⟩:=h;cases i with
   |zero=>
     obtain rfl:y=x:=by simpa using an
     exact⟨r,rfl,F⟩
   |succ i=>simpa using hy.get J (by simpa using an)
theorem hy.append{l:List bk}{x:bk}{r:List I}(h:hy l es)(an:j9 x r):hy (l++[x]) (es++[r]):=by
 induction l generalizing es with
 |nil=>simp only[hy]at h;subst h;simp[hy,an]
 |cons y l aW=>simp only[hy]at h;obtain⟨q,rs,rfl,F,J⟩:=h;exact⟨q,rs++[r],rfl,F,aW J⟩
theorem j9.row{x:bk}{r:List I}(h:j9 x r):∃v es,r=[.int o x.op,.int o x.k,.int o x.n,v]/\fH fh v es/\hy x.l es:=by
 cases x with
 |mk op k n l=>simp only[j9]at h;exact h
theorem j9.one{x:bk}{r:List I}(h:j9 x r):r.all I.one=Q/\r.length=4:=by obtain⟨v,es,rfl,U,_⟩:=h.row;rcases U with⟨_,rfl⟩|⟨id,rfl⟩<;>exact⟨rfl,rfl⟩
theorem j9.facts{x:bk}{r:List I}(h:j9 x r):∃v es,r=[.int o x.op,.int o x.k,.int o x.n,v]/\hY fh v es/\v.one=Q/\es.length=x.l.length/\∀(i:Nat) (y:bk),x.l[i]? =j y->∃q,fg (j fh) Z v (.int o (i:Int))=j (.ip q 0)/\gX Q 4 q 0=j (.agg q)/\j9 y q:=by
 obtain⟨v,es,rfl,U,ai⟩:=h.row;refine⟨v,es,rfl,U.iH,?_,ai.len,λi y bq=>?_⟩
 ·rcases U with⟨_,rfl⟩|⟨id,rfl⟩<;>rfl
 ·obtain⟨q,F,J⟩:=ai.get bq;exact⟨q,U.iH.bR o i q F,jP J.one.2,J⟩
section
variable{h:ad}
theorem Ri{op:Int}(F:¬op<1)(J:¬21<op):op=1\/op=2\/op=3\/op=4\/op=5\/op=6\/op=7\/op=8\/op=9\/op=10\/op=11\/op=12\/op=13\/op=14\/op=15\/op=16\/op=17\/op=18\/op=19\/op=20\/op=21:=by omega
theorem Rj(op:Int):aM ak T 101 [.int o op] h=j (.inl (.int o (fX op)),h):=by
 refine bd aqc rfl ?_;unfold ac4;by_cases F:op<1
 ·have:fX op= -1:=by unfold fX;split<;>omega
  simp only[ap,aw,aA,ar,ct,F,this,e8 (aK.refl h) (rfl:dP (.int o (-1))=_)]
 ·by_cases J:21<op
  ·have:fX op= -1:=by unfold fX;split<;>omega
   simp only[ap,aw,aA,ar,ct,F,J,this,e8 (aK.refl h) (rfl:dP (.int o (-1))=_)]
  ·have hG:sY R (j (22,(1,R))) (.agg [(.int o 0),(.int o 0),(.int o 0),(.int o 0),(.int o 0),(.int o 2),(.int o 2),(.int o 3),(.int o 2),(.int o 1),(.int o 1),(.int o 1),(.int o 1),(.int o 1),(.int o 2),(.int o 1),(.int o 1),(.int o 1),(.int o 1),(.int o 2),(.int o 1),(.int o 0)]) (.int o op)=j (.int o (fX op)):=by rcases Ri F J with rfl|rfl|rfl|rfl|rfl|rfl|rfl|rfl|rfl|rfl|rfl|rfl|rfl|rfl|rfl|rfl|rfl|rfl|rfl|rfl|rfl<;>rfl
   simp only[ap,aw,aA,ar,ct,F,J,hG]
end
section
variable{h:ad}
theorem bk.tI{x y:bk}(h:y∈x.l):y.size<x.size:=by
 have:∀l:List bk,y∈l->y.size<=fO l:=by
  intro l;induction l with
  |nil=>intro hm;simp at hm
  |cons z l aW=>
    intro hm;simp only[fO];rcases gW.1 hm with rfl|hm
    ·omega
    ·have:=aW hm;omega
 have:=this x.l h;rw[x.size_eq];omega
theorem aql(x:bk)(v:I)(es:List (List I))(ai:hY fh v es)(aq:es.length=x.l.length)(U:v.one=Q)(c:Int)(am:0<=c)(hm:c<=100000)(hG:∀(i:Nat) (y:bk),x.l[i]? =j y->∃q,fg (j fh) Z v (.int o (i:Int))=j (.ip q 0)/\gX Q 4 q 0=j (.agg q)/\j9 y q)(al:∀y∈x.l,∀(q:List I) (h:ad) (m:Int),j9 y q->0<=m->m<=100000->aM ak T 104 [.agg q,.int o m] h=j (.inl (.int o (max (m - y.size) (-1))),h))(v0 v3:I)(K:List RK):∀(l pre:List bk) (v5:I),x.l=pre++l->∃hk ij,bu (aM ak T) 6 (.ff KX::.bQ []::.b1 0::K) [v0,.int o (max (c - 1 - fO pre) (-1)),.ptr h.n 0 0,v3,.int o pre.length,v5] [] (h.push [[.int o x.op,.int o x.k,.int o x.n,v]])=bu (aM ak T) 6 K [v0,.int o (max (c - x.size) (-1)),.ptr h.n 0 0,v3,hk,ij] [] (h.push [[.int o x.op,.int o x.k,.int o x.n,v]]):=by
 intro l;induction l with
 |nil=>
   intro pre v5 e;have ej:x.l=pre:=by simpa using e
   have bt:¬((pre.length:Int)<(es.length:Int)):=by rw[aq,ej];omega
   refine⟨.int o pre.length,.bool R,?_⟩;rw[dd KX.eq_1];have es:c - 1 - (fO pre:Int)=c - x.size:=by rw[x.size_eq,ej];omega
   simp only[ap,aw,aA,ar,cz,ai.len,ai.fits,bt,es]
 |cons y l aW=>
   intro pre v5 e;have bt:(pre.length:Int)<(es.length:Int):=by rw[aq,e];simp;omega
   obtain⟨q,eW,i2,i3⟩:=hG pre.length y (by rw[e];simp);have dY:(x.size:Int)=1+(fO pre:Int)+(y.size:Int)+(fO l:Int):=by rw[x.size_eq,e,Nd];simp[fO];omega
   have aAF:=y.size_pos;rw[dd KX.eq_1];by_cases hle:0<=max (c - 1 - (fO pre:Int)) (-1)
   ·have K2:max (c - 1 - (fO pre:Int)) (-1)=c - 1 - (fO pre:Int):=by omega
    rw[K2]at hle;have i6:(pre.length:Int)<=fO pre:=by
     have:∀l:List bk,l.length<=fO l:=by
      intro l;induction l with
      |nil=>simp
      |cons y l aW=>have:=y.size_pos;simp only[fO,dw];omega
     have:=this pre;omega
    have aqm:=gD (n:=(pre.length:Int)+1) (by omega) (by omega);have kO:=al y (by rw[e];simp) q (h.push [[.int o x.op,.int o x.k,.int o x.n,v]]) (c - 1 - (fO pre:Int)) i3 (by omega) (by omega);obtain⟨hk,ij,b0⟩:=aW (pre++[y]) (.bool Q) (by simp[e]);have ax:((pre++[y]).length:Int)=(pre.length:Int)+1:=by simp
    have bs:max (c - 1 - (fO (pre++[y]):Int)) (-1)=max (c - 1 - (fO pre:Int) - (y.size:Int)) (-1):=by rw[Nd,aka];omega
    rw[ax,bs]at b0;refine⟨hk,ij,?_⟩;simp only[ap,aw,aA,ar,cz,ai.len,ai.fits,bt,K2,hle,eW,i2,kO,aqm];exact b0
   ·have K2:max (c - 1 - (fO pre:Int)) (-1)= -1:=by omega
    have aqn:max (c - (x.size:Int)) (-1)= -1:=by omega
    have gc:¬((0:Int)<= -1):=by omega
    refine⟨.int o pre.length,.bool R,?_⟩;simp only[ap,aw,aA,ar,cz,ai.len,ai.fits,bt,K2,aqn,gc]
theorem aqo:∀(N:Nat) (x:bk),mV x<=N->∀(r:List I) (h:ad) (c:Int),j9 x r->0<=c->c<=100000->aM ak T 104 [.agg r,.int o c] h=j (.inl (.int o (max (c - x.size) (-1))),h):=by
 intro N;induction N with
 |zero=>intro x an;have:=x.pZ;omega
 |succ N aW=>
   intro x an r h c he am hm;obtain⟨v,es,rfl,ai,U,aq,hG⟩:=he.facts;obtain⟨hk,ij,b0⟩:=aql (h:=h) x v es ai aq U c am hm hG (λy bq q h m aE=>aW y (by have:=bk.pj bq;omega) q h m aE) (.agg [.int o x.op,.int o x.k,.int o x.n,v]) (.int o 0) [.bQ [.ops [dv,kD],.ret]] x.l [] .aD rfl;have em:max (c - 1 - (fO []:Int)) (-1)=c - 1:=by simp only[fO];omega
   rw[em]at b0;simp only[ey,mn]at b0;have hw:=gD (n:=c - 1) (by omega) (by omega);refine bd aqh rfl ?_;unfold adb;simp only[ap,aw,aA,ar,U,hw,b0,e8 (aK.push h _) (rfl:dP (.int o (max (c - x.size) (-1)))=_)]
end
structure l0(h:ad)(v:I)(l:List bk):Prop where
 len:gY v=j l.length
 fits:∀s,ko s (j fh) v=Q
 one:v.one=Q
 bR:∀(i:Nat) (y:bk),l[i]? =j y->∃a q,fg (j fh) Z v (.int o (i:Int))=j a/\(∀E,aK h E->cO Q 4 E a=j (.agg q))/\j9 y q
theorem l0.of{h:ad}{v:I}{l:List bk}(U:fH fh v es)(ai:hy l es):l0 h v l:=by
 refine⟨?_,U.iH.fits,?_,λi y bq=>?_⟩
 ·rw[<-ai.len];exact U.iH.len
 ·rcases U with⟨_,rfl⟩|⟨id,rfl⟩<;>rfl
 ·obtain⟨q,F,J⟩:=ai.get bq;exact⟨.ip q 0,q,U.iH.bR o i q F,λE _=>jP J.one.2,J⟩
section
variable{h:ad}
end
section
variable{h:ad}
theorem aqp(v:I)(L:List bk)(U:l0 h v L)(df:L.length<=100000)(g:cH)(a c:List I)(p:bk->Bool)(bn:∀y∈L,∀q,j9 y q->aM ak T g (a++[.agg q]++c) h=j (.inl (.bool (p y)),h)):∀(l pre:List bk) (v2 v3 v6 dz:I),L=pre++l->∃n:Int,qY Q [.v 2] h (bu (aM ak T) 8 [.ff GI,.bQ [],.b1 0,.bQ [.ops [GL],.ret]] [v,.fn g a c,v2,v3,.int o L.length,.int o pre.length,v6,dz] [] h)=j (.inl (.int o n),h)/\decide (0<=n)=l.any p:=by
 intro l;induction l with
 |nil=>
   intro pre v2 v3 v6 dz e;have ej:L=pre:=by simpa using e
   have bt:¬((pre.length:Int)<(L.length:Int)):=by rw[ej];omega
   refine⟨-1,?_,rfl⟩;rw[dd GI.eq_1];simp only[ap,aw,aA,ar,cz,bt]
 |cons y l aW=>
   intro pre v2 v3 v6 dz e;have bt:(pre.length:Int)<(L.length:Int):=by rw[e];simp;omega
   obtain⟨pv,q,eW,i2,i3⟩:=U.bR pre.length y (by rw[e];simp);have q':=i2 _ (aK.refl h);have kO:=bn y (by rw[e];simp) q i3;simp only[jA,kq,j6]at kO;have hw:=gD (n:=(pre.length:Int)+1) (by rw[e]at df;simp at df;omega) (by rw[e]at df;simp at df;omega);cases ag:p y
   ·obtain⟨n,b0,bK⟩:=aW (pre++[y]) v2 (.int o pre.length) (.bool Q) (.bool R) (by simp[e]);have ax:((pre++[y]).length:Int)=(pre.length:Int)+1:=by simp
    rw[ax]at b0;refine⟨n,?_,by rw[bK];simp[ag]⟩;rw[ag]at kO;rw[dd GI.eq_1];simp only[ap,aw,aA,ar,cz,cx,jA,bt,eW,q',kO,hw];exact b0
   ·refine⟨pre.length,?_,?_⟩
    ·rw[ag]at kO;rw[dd GI.eq_1];simp only[ap,aw,aA,ar,cz,cx,jA,bt,eW,q',kO]
    ·simp[ag]
theorem aqq(v:I)(L:List bk)(U:l0 h v L)(df:L.length<=100000)(g:cH)(a c:List I)(p:bk->Bool)(bn:∀y∈L,∀q,j9 y q->aM ak T g (a++[.agg q]++c) h=j (.inl (.bool (p y)),h)):aM ak T 122 [v,.fn g a c] h=j (.inl (.bool (L.any p)),h):=by
 obtain⟨n,b0,bK⟩:=aqp v L U df g a c p bn L [] (.int o 0) .aD .aD .aD rfl;simp only[ey,mn]at b0;have gS:aM ak T 132 [v,.fn g a c] h=j (.inl (.int o n),h):=by refine bd aqg rfl ?_;unfold ada;simp only[ap,aw,aA,ar,U.len,U.fits];exact b0
 refine bd aqf rfl ?_;unfold ac9;simp only[ap,aw,aA,ar,gS,bK]
theorem aqr:∀(N:Nat) (x:bk),mV x<=N->x.size<=100000->∀(r:List I) (h:ad) (left:Int),j9 x r-> -1<=left->left<=100000->aM ak T 103 [.agg r,.int o left] h=j (.inl (.bool (decide ((x.depth:Int)<=left))),h):=by
 intro N;induction N with
 |zero=>intro x an;have:=x.pZ;omega
 |succ N aW=>
   intro x an dY r h left he am hm;obtain⟨v,es,e,U,ai⟩:=he.row;have a':∀E,l0 E v x.l:=λE=>l0.of U ai;have qP:=(a' h).one;subst e;refine bd aqd rfl ?_;unfold ac7;by_cases hp:0<=left
   ·have hlen:=x.yl;have bU:=aqq (h:=(h.push [[.int o x.op,.int o x.k,.int o x.n,v]]).push [[.int o left]]) v x.l (a' _) (by omega) 123 [] [.ptr (h.n+1) 0 0] (λy=> !decide ((y.depth:Int)<=left - 1)) (λy bq q aE=>by have hw:=gD (n:=left - 1) (by omega) (by omega);have aqs:=aW y (by have:=bk.pj bq;omega) (by have:=bk.tI bq;omega) q (((h.push [[.int o x.op,.int o x.k,.int o x.n,v]]).push [[.int o left]]).push [q]) (left - 1) aE (by omega) (by omega);obtain⟨bT,bM⟩:=aE.one;refine bd aqe rfl ?_;unfold ac8;simp only[ap,aw,aA,ar,bT,bM,hw,aqs,e8 (aK.push _ _) (rfl:dP (.bool (!decide ((y.depth:Int)<=left - 1)))=_)]);simp only[ap,aw,aA,ar,qP,hp,bU,akb x hp,e8 ((aK.push h _).trans (aK.push _ _)) (rfl:dP (.bool (decide ((x.depth:Int)<=left)))=_)]
   ·have a1:decide ((x.depth:Int)<=left)=R:=by rw[decide_eq_false_iff_not];omega
    rw[a1];simp only[ap,aw,aA,ar,qP,hp,e8 ((aK.push h _).trans (aK.push _ _)) (rfl:dP (.bool R)=_)]
end
section
variable{h:ad}
end
section
variable{h:ad}
end
def kE(c d:Int):Int:=if c=0 then d else c
theorem K3(d:Int):kE 0 d=d:=rfl
theorem Rk(c:Int):kE c 0=c:=by unfold kE;split<;>simp_all
theorem adk{c:Int}(h:c≠0)(d:Int):kE c d=c:=if_neg h
theorem aqt(a b c:Int):kE (kE a b) c=kE a (kE b c):=by unfold kE;by_cases h:a=0<;>simp[h]
structure jV(b:Nat)(a':I)(c:Int)(h E:ad):Prop where
 n:h.n<=E.n
 ids:h.ids<=E.ids
 fu:∀k,k<h.n->k≠b->E.cell k=h.cell k
 hw:∀k,k<h.ids->E.hw k=h.hw k
 D:E.cell b=j [[a',.int o c]]
theorem jV.refl{b:Nat}{a':I}{c:Int}{h:ad}(ag:h.cell b=j [[a',.int o c]]):jV b a' c h h:=⟨bS _,bS _,λ_ _ _=>rfl,λ_ _=>rfl,ag⟩
theorem jV.trans{b:Nat}{a':I}{c gy:Int}{h E eT:ad}(x:jV b a' c h E)(y:jV b a' gy E eT):jV b a' gy h eT:=⟨ee x.n y.n,ee x.ids y.ids,λk ab aq=>(y.fu k (eF ab x.n) aq).trans (x.fu k ab aq),λk ab=>(y.hw k (eF ab x.ids)).trans (x.hw k ab),y.D⟩
theorem jV.push{b:Nat}{a':I}{c:Int}{h:ad}(ag:h.cell b=j [[a',.int o c]])(bt:b<h.n)(es:List (List I)):jV b a' c h (h.push es):=⟨by simp[ad.push],by simp[ad.push],λk ab _=>eG ab,λ_ _=>rfl,(eG bt).trans ag⟩
theorem jV.hS{b:Nat}{a':I}{c:Int}{am h E:ad}(g:aK am h)(ag:am.n<=b)(x:jV b a' c h E):aK am E:=⟨ee g.n x.n,ee g.ids x.ids,λk ab=>(x.fu k (eF ab g.n) (by omega)).trans (g.cell k ab),λk ab=>(x.hw k (eF ab g.ids)).trans (g.hw k ab)⟩
section
variable{h:ad}{b:Nat}{a':I}{c:Int}
theorem tm(ag:h.cell b=j [[a',.int o c]])(bI:Bool)(d:Int):∃E,aM ak T 102 [.ptr b 0 0,.bool bI,.int o d] h=j (.inl (.bx []),E)/\jV b a' (kE c (if bI then d else 0)) h E:=by
 cases bI
 ·refine⟨h,?_,by rw[if_neg (by simp),Rk];exact jV.refl ag⟩;refine bd Rb rfl ?_;unfold KW;simp only[ap,aw,aA,ar]
 ·by_cases al:c=0
  ·subst al;refine⟨h.set b (j [[a',.int o d]]),?_,⟨bS _,bS _,λk _ aq=>dL aq,λ_ _=>rfl,by rw[i7];rfl⟩⟩;refine bd Rb rfl ?_;unfold KW;simp only[ap,aw,aA,ar,ag,eq_self]
  ·refine⟨h,?_,by rw[adk al];exact jV.refl ag⟩;refine bd Rb rfl ?_;unfold KW;simp only[ap,aw,aA,ar,ag,al]
def tn(cE op k O:Int):Int:=
 if op=4 then(if k<0\/O<=k then 1 else 0)
 else if op=6 then(if k<1\/5<k then 1 else 0)
 else if op=15 then(if k<0\/15<k then 1 else 0)
 else if op=18 then(if k<0\/cE<=k then 1 else 0)
 else if k≠0 then 5 else 0
theorem aqu(cE op k n O:Int):qI cE op k n O=kE (if n≠0/\op≠2 then 5 else 0) (tn cE op k O):=by
 unfold qI;by_cases F:n≠0/\op≠2
 ·rw[if_pos F,if_pos F];rfl
 ·rw[if_neg F,if_neg F];rfl
theorem aqv(k:Int):aM ak T 133 [.int o k] h=j (.inl (.bool (!decide (k<0\/15<k))),h):=by
 refine bd aaW rfl ?_;unfold PY;by_cases am:0<=k
 ·by_cases F:k<=15
  ·have e:decide (k<0\/15<k)=R:=by rw[decide_eq_false_iff_not];omega
   simp only[ap,aw,aA,ar,am,F,e]
  ·have e:decide (k<0\/15<k)=Q:=by rw[decide_eq_true_eq];omega
   simp only[ap,aw,aA,ar,am,F,e]
 ·have e:decide (k<0\/15<k)=Q:=by rw[decide_eq_true_eq];omega
  simp only[ap,aw,aA,ar,am,e]
end
section
variable{h:ad}{b:Nat}{a':I}{c:Int}
theorem aqw(ag:h.cell b=j [[a',.int o c]])(op k n:Int)(v:I)(q:Nat)(aE:h.cell q=j [[.int o op,.int o k,.int o n,v]])(v1 v2 v4 v5 v6 dz gM:I)(rest:List bj)(K:List RK):∃F,bu (aM ak T) 9 (.bQ ((.ops [aX,Ba,bc,q7,cU,(.g (.l 0) Q .l (.dG 0 (.v 3))),y',(.g (.l 2) Q .l (.bin (.int o) .neq (.l 0) (.c (.int o 2)))),DI,(.i .l (.call (.c (.fn 102 [] [])) [(.l 8),(.l 0),(.c (.int o 5))]))])::rest)::K) [.ptr b 0 0,v1,v2,.ptr q 0 0,v4,v5,v6,dz,gM] [] h=bu (aM ak T) 9 (.bQ rest::K) [.ptr b 0 0,v1,v2,.ptr q 0 0,v4,v5,v6,dz,gM] [] F/\jV b a' (kE c (if n≠0/\op≠2 then 5 else 0)) h F:=by
 obtain⟨F,b0,g5⟩:=tm ag (!decide (n=0)&& !decide (op=2)) 5;refine⟨F,?_,?_⟩
 ·cases av:decide (n=0)<;>cases ax:decide (op=2)<;>simp only[av,ax,Bool.not_true,Bool.not_false,s3,Bool.and_false]at b0<;>simp only[ap,aE,av,ax,b0]
 ·have e:(if(!decide (n=0)&& !decide (op=2))=Q then(5:Int)else 0)=if n≠0/\op≠2 then 5 else 0:=by simp
  rw[e]at g5;exact g5
theorem aqx(ag:h.cell b=j [[a',.int o c]]){cE:Nat}(hm:gY a'=j cE)(ra:∀s,ko s (j fh) a'=Q)(op k n O:Int)(v:I)(q:Nat)(an:h.cell q=j [[.int o op,.int o k,.int o n,v]])(H:ad)(v1 v4 v5 v6 dz gM:I):∃F,qY R [] H (bu (aM ak T) 9 [.bQ [(.ops [tk,(.i (.v 4) yY)]),(.block 0 [(.ops [(.i .l (.bin (.int o) .eql (.v 4) (.c (.int o 4)))),lF]),(.cond (.v 5) [(.ops [aX,nf,bc,uy,cU,xL,pJ,(.g (.l 2) R .l (.a' (.v 2))),(.g (.l 3) R .l (.bin (.int o) .geq (.l 1) (.l 0))),(.i .l Bf),(.i .l (.call (.c (.fn 102 [] [])) [(.l 9),(.l 0),(.c (.int o 1))]))])] [(.ops [(.i .l (.bin (.int o) .eql (.v 4) (.c (.int o 6)))),nG]),(.cond (.v 6) [(.ops [aX,nf,bc,GG,cU,xL,pJ,KA,Gv,(.i .l (.call (.c (.fn 102 [] [])) [(.l 8),(.l 0),(.c (.int o 1))]))])] [(.ops [(.i .l (.bin (.int o) .eql (.v 4) (.c (.int o 15)))),mM]),(.cond (.v 7) [(.ops [aX,nf,bc,J1,s9,(.i .l (.call (.c (.fn 102 [] [])) [(.l 4),(.l 0),(.c (.int o 1))]))])] [(.ops [(.i .l (.bin (.int o) .eql (.v 4) (.c (.int o 18)))),qn]),(.cond (.v 8) [(.ops [aX,nf,bc,uy,cU,xL,pJ,KY,(.g (.l 3) R .l (.lv (.l 0))),(.g (.l 4) R .l (.dG 0 (.l 0))),(.g (.l 5) R .l (.dG 0 (.l 0))),GK,(.g (.l 7) R .l GJ),(.g (.l 8) R .l (.bin (.int o) .geq (.l 6) (.l 0))),(.i .l (.pick (.l 9) (.c (.bool Q)) (.l 0))),(.i .l (.call (.c (.fn 102 [] [])) [(.l 14),(.l 0),(.c (.int o 1))]))])] [(.ops [aX,nf,bc,q7,(.i .l (.call (.c (.fn 102 [] [])) [(.l 3),(.l 0),(.c (.int o 5))]))])])])])])])]] [.ptr b 0 0,v1,.int o O,.ptr q 0 0,v4,v5,v6,dz,gM] [] h)=j (.inl (.bx []),F)/\jV b a' (kE c (tn cE op k O)) h F:=by
 have aa:=ag;have g5:=jV.refl ag;by_cases aB:op=4
 ·subst aB;obtain⟨J,bK,fV⟩:=tm g5.D (decide (k<0\/O<=k)) 1;refine⟨J,?_,?_⟩
  ·by_cases ab:k<0
   ·have e:decide (k<0\/O<=k)=Q:=by rw[decide_eq_true_eq];omega
    rw[e]at bK;simp only[ap,eZ,an,ab,bK]
   ·by_cases bE:O<=k
    ·have e:decide (k<0\/O<=k)=Q:=by rw[decide_eq_true_eq];omega
     rw[e]at bK;simp only[ap,eZ,an,aa,hm,ra,ab,bE,bK]
    ·have e:decide (k<0\/O<=k)=R:=by rw[decide_eq_false_iff_not];omega
     rw[e]at bK;simp only[ap,eZ,an,aa,hm,ra,ab,bE,bK]
  ·have ax:tn cE 4 k O=if decide (k<0\/O<=k)=Q then 1 else 0:=by simp[tn]
   rw[ax];exact g5.trans fV
 by_cases cc:op=6
 ·subst cc;obtain⟨J,bK,fV⟩:=tm g5.D (decide (k<1\/5<k)) 1;refine⟨J,?_,?_⟩
  ·by_cases ab:k<1
   ·have e:decide (k<1\/5<k)=Q:=by rw[decide_eq_true_eq];omega
    rw[e]at bK;simp only[ap,eZ,an,ab,bK]
   ·by_cases bE:5<k
    ·have e:decide (k<1\/5<k)=Q:=by rw[decide_eq_true_eq];omega
     rw[e]at bK;simp only[ap,eZ,an,ab,bE,bK]
    ·have e:decide (k<1\/5<k)=R:=by rw[decide_eq_false_iff_not];omega
     rw[e]at bK;simp only[ap,eZ,an,ab,bE,bK]
  ·have ax:tn cE 6 k O=if decide (k<1\/5<k)=Q then 1 else 0:=by simp[tn]
   rw[ax];exact g5.trans fV
 by_cases Iv:op=15
 ·subst Iv;obtain⟨J,bK,fV⟩:=tm g5.D (decide (k<0\/15<k)) 1;refine⟨J,?_,?_⟩
  ·have w:=aqv (h:=h) k;simp only[ap,eZ,an,w,Bool.not_not,bK]
  ·have ax:tn cE 15 k O=if decide (k<0\/15<k)=Q then 1 else 0:=by simp[tn]
   rw[ax];exact g5.trans fV
 by_cases Rl:op=18
 ·subst Rl;obtain⟨J,bK,fV⟩:=tm g5.D (decide (k<0\/(cE:Int)<=k)) 1;refine⟨J,?_,?_⟩
  ·by_cases ab:k<0
   ·have e:decide (k<0\/(cE:Int)<=k)=Q:=by rw[decide_eq_true_eq];omega
    rw[e]at bK;simp only[ap,eZ,an,ab,bK]
   ·by_cases bE:(cE:Int)<=k
    ·have e:decide (k<0\/(cE:Int)<=k)=Q:=by rw[decide_eq_true_eq];omega
     rw[e]at bK;simp only[ap,eZ,an,aa,hm,ra,ab,bE,bK]
    ·have e:decide (k<0\/(cE:Int)<=k)=R:=by rw[decide_eq_false_iff_not];omega
     rw[e]at bK;simp only[ap,eZ,an,aa,hm,ra,ab,bE,bK]
  ·have ax:tn cE 18 k O=if decide (k<0\/(cE:Int)<=k)=Q then 1 else 0:=by simp[tn]
   rw[ax];exact g5.trans fV
 obtain⟨J,bK,fV⟩:=tm g5.D (!decide (k=0)) 5;refine⟨J,?_,?_⟩
 ·simp only[ap,an,aB,cc,Iv,Rl,bK]
 ·have ax:tn cE op k O=if(!decide (k=0))=Q then 5 else 0:=by simp[tn,aB,cc,Iv,Rl]
  rw[ax];exact g5.trans fV
theorem aqy(ag:h.cell b=j [[a',.int o c]])(bt:b<h.n){cE:Nat}(hm:gY a'=j cE)(ra:∀s,ko s (j fh) a'=Q)(op k n O:Int)(v:I)(U:v.one=Q):∃E,aM ak T 124 [.ptr b 0 0,.agg [.int o op,.int o k,.int o n,v],.int o O] h=j (.inl (.bx []),E)/\jV b a' (kE c (qI cE op k n O)) h E:=by
 have p:=jV.push (c:=c) ag bt [[.int o op,.int o k,.int o n,v]];obtain⟨F,b0,g5⟩:=aqw p.D op k n v h.n fU (.agg [.int o op,.int o k,.int o n,v]) (.int o O) .aD .aD .aD .aD .aD [(.ops [tk,(.i (.v 4) yY)]),(.block 0 [(.ops [(.i .l (.bin (.int o) .eql (.v 4) (.c (.int o 4)))),lF]),(.cond (.v 5) [(.ops [aX,nf,bc,uy,cU,xL,pJ,(.g (.l 2) R .l (.a' (.v 2))),(.g (.l 3) R .l (.bin (.int o) .geq (.l 1) (.l 0))),(.i .l Bf),(.i .l (.call (.c (.fn 102 [] [])) [(.l 9),(.l 0),(.c (.int o 1))]))])] [(.ops [(.i .l (.bin (.int o) .eql (.v 4) (.c (.int o 6)))),nG]),(.cond (.v 6) [(.ops [aX,nf,bc,GG,cU,xL,pJ,KA,Gv,(.i .l (.call (.c (.fn 102 [] [])) [(.l 8),(.l 0),(.c (.int o 1))]))])] [(.ops [(.i .l (.bin (.int o) .eql (.v 4) (.c (.int o 15)))),mM]),(.cond (.v 7) [(.ops [aX,nf,bc,J1,s9,(.i .l (.call (.c (.fn 102 [] [])) [(.l 4),(.l 0),(.c (.int o 1))]))])] [(.ops [(.i .l (.bin (.int o) .eql (.v 4) (.c (.int o 18)))),qn]),(.cond (.v 8) [(.ops [aX,nf,bc,uy,cU,xL,pJ,KY,(.g (.l 3) R .l (.lv (.l 0))),(.g (.l 4) R .l (.dG 0 (.l 0))),(.g (.l 5) R .l (.dG 0 (.l 0))),GK,(.g (.l 7) R .l GJ),(.g (.l 8) R .l (.bin (.int o) .geq (.l 6) (.l 0))),(.i .l (.pick (.l 9) (.c (.bool Q)) (.l 0))),(.i .l (.call (.c (.fn 102 [] [])) [(.l 14),(.l 0),(.c (.int o 1))]))])] [(.ops [aX,nf,bc,q7,(.i .l (.call (.c (.fn 102 [] [])) [(.l 3),(.l 0),(.c (.int o 5))]))])])])])])])] [];obtain⟨J,bK,fV⟩:=aqx g5.D hm ra op k n O v h.n (by rw[g5.fu h.n (by simp[ad.push]) (by omega)];exact fU) h (.agg [.int o op,.int o k,.int o n,v]) .aD .aD .aD .aD .aD;refine⟨J,?_,?_⟩
 ·refine bd aqi rfl ?_;unfold adc;rw[OS,JB (by simp only[ap,aw,aA,ar,U]) (by simp only[ap,aw,aA,ar]),OV];exact(congrArg (qY R [] h) b0).trans bK
 ·rw[aqu,<-aqt];exact(p.trans g5).trans fV
end
theorem bk.Ch(cE:Int)(x:bk)(O:Int):x.fault cE O=kE (sv cE x.op x.k x.n x.l.length O) (pm cE x.op 0 x.l O):=by
 cases x with
 |mk op k n l=>simp only[bk.fault,bk.op,bk.k,bk.n,bk.l,kE];by_cases bz:sv cE op k n l.length O=0<;>simp[bz]
theorem aqz(cE k n:Int)(len:Nat):sv cE 5 k n len 12≠0:=by
 unfold sv;split
 ·decide
 ·split
  ·decide
  ·split
   ·assumption
   ·simp
theorem adl(cE op:Int)(i:Nat)(x:bk)(l:List bk)(O:Int):pm cE op i (x::l) O=kE (x.fault cE (if op=5/\i=1 then O+1 else O)) (pm cE op (i+1) l O):=by simp only[pm,kE];by_cases bz:x.fault cE (if op=5/\i=1 then O+1 else O)=0<;>simp[bz]
theorem aqA(cE op k n:Int)(len:Nat)(O:Int):sv cE op k n len O=kE (kE (kE (if decide (fX op<0)=Q then 2 else 0) (if(!decide ((len:Int)=fX op))=Q then 5 else 0)) (qI cE op k n O)) (if(decide (op=5)&&decide (O=12))=Q then 3 else 0):=by
 unfold sv kE;by_cases F:fX op<0
 ·simp[F]
 ·by_cases J:(len:Int)=fX op
  ·by_cases af:qI cE op k n O=0<;>simp[F,J,af]
  ·simp[F,J]
section
variable{h:ad}{b:Nat}{a':I}
theorem aqB(hE:b<h.n)(cE:Int)(x:bk)(v:I)(m:∀h,l0 h v x.l)(df:x.l.length<=100000)(O:Int)(au:0<=O)(tW:O<=12)(H:ad)(bn:∀y∈x.l,∀(q:List I) (h:ad) (O:Int),j9 y q->0<=O->O<=12->h.cell b=j [[a',.int o 0]]->b<h.n->∃E,aM ak T 105 [.ptr b 0 0,.agg q,.int o O] h=j (.inl (.bx []),E)/\jV b a' (y.fault cE O) h E)(v1 v4:I):∀(l pre:List bk) (E:ad) (c:Int) (v5 v6 v10 v11 v12:I),x.l=pre++l->jV b a' c h E->h.n<E.n->E.cell h.n=j [[.int o x.op,.int o x.k,.int o x.n,v]]->(x.op=5->O=12->c≠0)->∃eT,qY R [] H (bu (aM ak T) 13 [.ff DJ,.bQ [],.b1 0,.bQ []] [.ptr b 0 0,v1,.int o O,.ptr h.n 0 0,v4,v5,v6,v,.int o x.l.length,.int o pre.length,v10,v11,v12] [] E)=j (.inl (.bx []),eT)/\jV b a' (kE c (pm cE x.op pre.length l O)) h eT:=by
 intro l;induction l with
 |nil=>
   intro pre E c v5 v6 v10 v11 v12 e D aq an aO;have ej:x.l=pre:=by simpa using e
   have bt:¬((pre.length:Int)<(x.l.length:Int)):=by rw[ej];omega
   refine⟨E,?_,by simp only[pm,Rk];exact D⟩;rw[dd DJ.eq_1];simp only[ap,aw,aA,ar,cz,bt]
 |cons y l aW=>
   intro pre E c v5 v6 v10 v11 v12 e D aq an aO;have bt:(pre.length:Int)<(x.l.length:Int):=by rw[e];simp;omega
   obtain⟨a,q,eW,i2,i3⟩:=(m E).bR pre.length y (by rw[e];simp);have q':=i2 _ (aK.refl E);obtain⟨bO,bC⟩:=i3.one;have p:=jV.push D.D (Nat.lt_trans hE aq) [q];have aa:=p.D;have rH:(E.push [q]).cell h.n=j [[.int o x.op,.int o x.k,.int o x.n,v]]:=(eG aq).trans an;have hw:=gD (n:=(pre.length:Int)+1) (by rw[e]at df;simp at df;omega) (by rw[e]at df;simp at df;omega);by_cases al:c=0
   ·subst al;have n5:E.n+1=(E.push [q]).n:=rfl;have K4:∀{gy:Int},x.op=5->O=12->gy≠0:=λF J=>absurd rfl (aO F J);have bs:((pre++[y]).length:Int)=(pre.length:Int)+1:=by simp
    have cq:(pre++[y]).length=pre.length+1:=by simp
    have ab:∀(F:ad) (gy:Int),jV b a' gy (E.push [q]) F->F.cell h.n=j [[.int o x.op,.int o x.k,.int o x.n,v]]/\h.n<F.n:=λF gy g5=>
     ⟨(g5.fu h.n (by simp only[ek];omega) (by omega)).trans rH,eF (by simp only[ek];omega) g5.n⟩
    by_cases gt:x.op=5/\pre.length=1
    ·obtain⟨iW,wM⟩:=gt;have aAG:O<=11:=by
      rcases Int.lt_or_eq_of_le tW with F|F
      ·omega
      ·exact absurd rfl (aO iW F)
     have aqC:(pre.length:Int)=1:=by omega
     have aqD:=gD (n:=O+1) (by omega) (by omega);obtain⟨F,b0,g5⟩:=bn y (by rw[e];simp) q (E.push [q]) (O+1) i3 (by omega) (by omega) aa (by simp only[ek];omega);obtain⟨J,bK,fV⟩:=aW (pre++[y]) F (y.fault cE (O+1)) (.int o pre.length) (.ptr E.n 0 0) (.bool Q) (.bool R) (.bool Q) (by simp[e]) ((D.trans p).trans g5) (ab F _ g5).2 (ab F _ g5).1 K4;rw[bs]at bK;refine⟨J,?_,?_⟩
     ·rw[iW]at rH;have aqE:decide ((pre.length:Int)=1)=Q:=by simp[aqC]
      rw[dd DJ.eq_1];simp only[ap,aw,aA,ar,cz,bt,eW,q',bO,bC,aa,rH,aqE,aqD,b0,hw];exact bK
     ·rw[adl,if_pos ⟨iW,wM⟩,K3];rw[cq]at fV;exact fV
    ·obtain⟨F,b0,g5⟩:=bn y (by rw[e];simp) q (E.push [q]) O i3 (by omega) (by omega) aa (by simp only[ek];omega);have a1:(decide (x.op=5)&&decide ((pre.length:Int)=1))=R:=by
      rw[Bool.and_eq_false_iff,decide_eq_false_iff_not,decide_eq_false_iff_not];by_cases bw:x.op=5
      ·exact .inr (λhp=>gt ⟨bw,by omega⟩)
      ·exact .inl bw
     obtain⟨J,bK,fV⟩:=aW (pre++[y]) F (y.fault cE O) (.int o pre.length) (.ptr E.n 0 0) (.bool Q) (.bool R) (.bool R) (by simp[e]) ((D.trans p).trans g5) (ab F _ g5).2 (ab F _ g5).1 K4;rw[bs]at bK;refine⟨J,?_,?_⟩
     ·rw[dd DJ.eq_1];cases bw:decide (x.op=5)
      ·simp only[ap,aw,aA,ar,cz,bt,eW,q',bO,bC,aa,rH,bw,b0,hw];exact bK
      ·rw[bw,Bool.true_and]at a1;simp only[ap,aw,aA,ar,cz,bt,eW,q',bO,bC,aa,rH,bw,a1,b0,hw];exact bK
     ·rw[adl,if_neg gt,K3];rw[cq]at fV;exact fV
   ·refine⟨E.push [q],?_,by rw[adk al];exact D.trans p⟩;rw[dd DJ.eq_1];simp only[ap,aw,aA,ar,cz,bt,eW,q',bO,bC,aa,al]
theorem aqF(cE:Nat)(hm:gY a'=j cE)(ra:∀s,ko s (j fh) a'=Q):∀(N:Nat) (x:bk),mV x<=N->x.size<=100000->∀(r:List I) (h:ad) (O:Int),j9 x r->0<=O->O<=12->h.cell b=j [[a',.int o 0]]->b<h.n->∃E,aM ak T 105 [.ptr b 0 0,.agg r,.int o O] h=j (.inl (.bx []),E)/\jV b a' (x.fault cE O) h E:=by
 intro N;induction N with
 |zero=>intro x an;have:=x.pZ;omega
 |succ N aW=>
   intro x an dY r h O he au tW ag bt;obtain⟨v,es,e,U,ai⟩:=he.row;have m:∀h,l0 h v x.l:=λh=>l0.of U ai;have bO:=(m h).one;have b5:=(m h).len;have f1:=(m h).fits;have hlen:=x.yl;subst e;have p:=jV.push ag bt [[.int o x.op,.int o x.k,.int o x.n,v]];have K5:(h.push [[.int o x.op,.int o x.k,.int o x.n,v]]).cell h.n=j [[.int o x.op,.int o x.k,.int o x.n,v]]:=fU;have hE:h.n≠b:=by omega
   obtain⟨F,b0,g5⟩:=tm p.D (decide (fX x.op<0)) 2;have cg:=(g5.fu h.n (by simp only[ek];omega) hE).trans K5;have ep:h.n<F.n:=eF (by simp only[ek];omega) g5.n;obtain⟨J,bK,fV⟩:=tm g5.D (!decide ((x.l.length:Int)=fX x.op)) 5;have dS:=(fV.fu h.n ep hE).trans cg;have gC:h.n<J.n:=eF ep fV.n;obtain⟨af,gl,uK⟩:=aqy fV.D (by omega) hm ra x.op x.k x.n O v bO;have jl:=(uK.fu h.n gC hE).trans dS;have jS:h.n<af.n:=eF gC uK.n;obtain⟨aB,gU,K6⟩:=tm uK.D (decide (x.op=5)&&decide (O=12)) 3;have hk:=(K6.fu h.n jS hE).trans jl;have pG:h.n<aB.n:=eF jS K6.n;rw[K3,<-aqA]at K6;have aqG:=(((p.trans g5).trans fV).trans uK).trans K6;obtain⟨bw,ot,adm⟩:=aqB (h:=h) bt cE x v m (by omega) O au tW h (λy bq q h O aE=>aW y (by have:=bk.pj bq;omega) (by have:=bk.tI bq;omega) q h O aE) (.agg [.int o x.op,.int o x.k,.int o x.n,v]) (.int o (fX x.op)) x.l [] aB _ .aD .aD .aD .aD .aD rfl aqG pG hk (λbw zU=>by rw[bw,zU];exact aqz _ _ _ _);simp only[ey,mn]at ot;rw[ey,<-bk.Ch]at adm;refine⟨bw,?_,adm⟩;have rb:=Rj (h:=h.push [[.int o x.op,.int o x.k,.int o x.n,v]]) x.op;refine bd aqj rfl ?_;unfold adg;cases eX:decide (x.op=5)<;>cases GM:decide (O=12)<;>simp only[eX,GM,s3,Bool.and_false]at gU<;> (simp only[ap,aw,aA,ar,bO,rb,b0,cg,b5,f1,bK,dS,gl,jl,eX,GM,gU,hk];exact ot)
end
theorem adn(cE:Int)(i:Nat)(x:bk)(l:List bk):p1 cE i (x::l)=if oK cE x≠0 then(oK cE x,(i:Int))else p1 cE (i+1) l:=rfl
section
variable{h:ad}
theorem aqH(v:I)(L:List bk)(m:l0 h v L)(df:L.length<=100000)(az:∀x∈L,x.size<=100000)(v0 v6:I):∀(l pre:List bk) (E:ad) (v3 v4 v5 v10 v11 v12:I),L=pre++l->aK h E->h.n+1<E.n->E.cell h.n=j [[v]]->E.cell (h.n+1)=j [[.int o 0,.int o 0]]->qY Q [.cell Q 2 2] h (bu (aM ak T) 13 [.ff K0,.bQ [],.b1 0,.bQ [(.ops [xK,tl]),.ret]] [v0,.ptr h.n 0 0,.ptr (h.n+1) 0 0,v3,v4,v5,v6,v,.int o L.length,.int o pre.length,v10,v11,v12] [] E)=j (.inl (.agg [.int o (p1 L.length pre.length l).1,.int o (p1 L.length pre.length l).2]),h):=by
 intro l;induction l with
 |nil=>
   intro pre E v3 v4 v5 v10 v11 v12 e g aq a6 c2;have ej:L=pre:=by simpa using e
   have bt:¬((pre.length:Int)<(L.length:Int)):=by rw[ej];omega
   rw[dd K0.eq_1];simp only[ap,aw,aA,ar,cz,c2,bt,p1,e8 (g.set (show h.n<=h.n+1 by omega)) (rfl:dP (.agg [.int o 0,.int o 0])=_)]
 |cons y l aW=>
   intro pre E v3 v4 v5 v10 v11 v12 e g aq a6 c2;have bt:(pre.length:Int)<(L.length:Int):=by rw[e];simp;omega
   obtain⟨a,q,eW,i2,i3⟩:=m.bR pre.length y (by rw[e];simp);have q':=i2 _ g;obtain⟨bO,bC⟩:=i3.one;have ado:=az y (by rw[e];simp);have zb:=m.one;have d1:(E.push [q]).cell h.n=j [[v]]:=(eG (by omega)).trans a6;have hw:=gD (n:=(pre.length:Int)+1) (by rw[e]at df;simp at df;omega) (by rw[e]at df;simp at df;omega);have bs:((pre++[y]).length:Int)=(pre.length:Int)+1:=by simp
   have cq:(pre++[y]).length=pre.length+1:=by simp
   have rc:∀a b:Int,dP (.agg [.int o a,.int o b])=j (.agg [.int o a,.int o b]):=λa b=>rfl;have aqI:aK h ((E.push [q]).push [[v,.int o 0]]):=(g.trans (aK.push E [q])).trans (aK.push _ _);have aqJ:((E.push [q]).push [[v,.int o 0]]).cell (E.n+1)=j [[v,.int o 0]]:=vQ;have fd:=aqr _ y (bS _) ado q ((E.push [q]).push [[v,.int o 0]]) 30 i3 (by omega) (by omega);have fs:∀{F J:ad} {c:Int},jV (E.n+1) v c F J->E.n+1<F.n->F.cell E.n=j [q]->F.cell h.n=j [[v]]->F.cell (h.n+1)=j [[.int o 0,.int o 0]]->J.cell E.n=j [q]/\J.cell h.n=j [[v]]/\J.cell (h.n+1)=j [[.int o 0,.int o 0]]/\E.n+1<J.n:=λ{F J c} D ep c8 c6 fN=>
    ⟨(D.fu _ (by omega) (by omega)).trans c8,(D.fu _ (by omega) (by omega)).trans c6,(D.fu _ (by omega) (by omega)).trans fN,eF ep D.n⟩
   have hh:((E.push [q]).push [[v,.int o 0]]).cell E.n=j [q]:=AI;have c8:((E.push [q]).push [[v,.int o 0]]).cell h.n=j [[v]]:=(eG (by simp only[ek];omega)).trans d1;have c6:((E.push [q]).push [[v,.int o 0]]).cell (h.n+1)=j [[.int o 0,.int o 0]]:=(eG (by simp only[ek];omega)).trans ((eG aq).trans c2);have aqK:E.n+1<((E.push [q]).push [[v,.int o 0]]).n:=by simp only[ek];omega
   obtain⟨F,b0,g5⟩:=tm aqJ (!decide ((y.depth:Int)<=30)) 4;obtain⟨hd,dU,g8,DK⟩:=fs g5 aqK hh c8 c6;have g1:=jV.hS aqI (by omega) g5;have kF:=aqo _ y (bS _) q F 120 i3 (by omega) (by omega);rw[adn];rw[dd K0.eq_1];by_cases a1:30<y.depth
   ·have xM:¬(y.depth:Int)<=30:=by omega
    have re:oK L.length y=4:=by simp[oK,a1]
    rw[re,if_pos (by decide)];have av:kE 0 (if(!decide ((y.depth:Int)<=30))=Q then 4 else 0)=4:=by simp[kE,xM]
    rw[av]at g5;obtain⟨J,bK,fV⟩:=tm g5.D R 3;rw[if_neg (by simp),Rk]at fV;obtain⟨eR,aY,bf,Rm⟩:=fs fV DK hd dU g8;have et:=(jV.hS g1 (by have:=g.n;omega) fV).set (b:=h.n+1) (es:=j [[.int o 4,.int o pre.length]]) (by omega);have bT:=g5.D;have bM:=fV.D;simp only[xM,decide_false,Bool.not_false]at b0;simp only[ap,aw,aA,ar,ct,cz,bt,eW,q',bO,bC,zb,d1,fd,xM,hh,b0,bT,eZ,bK,bM,eR,bf,e8 et (rc _ _)]
   ·have xM:(y.depth:Int)<=30:=by omega
    have av:kE 0 (if(!decide ((y.depth:Int)<=30))=Q then 4 else 0)=0:=by simp[kE,xM]
    rw[av]at g5;have bT:=g5.D;obtain⟨J,bK,fV⟩:=tm g5.D (decide (max (120 - (y.size:Int)) (-1)<0)) 3;rw[K3]at fV;obtain⟨eR,aY,bf,Rm⟩:=fs fV DK hd dU g8;have cK:=jV.hS g1 (by have:=g.n;omega) fV;simp only[xM,decide_true,Bool.not_true]at b0;by_cases al:120<y.size
    ·have jJ:max (120 - (y.size:Int)) (-1)<0:=by omega
     have re:oK L.length y=3:=by simp[oK,a1,al]
     rw[re,if_pos (by decide)];rw[if_pos (by simpa using jJ)]at fV;have bM:=fV.D;have et:=cK.set (b:=h.n+1) (es:=j [[.int o 3,.int o pre.length]]) (by omega);simp only[jJ,decide_true]at bK;simp only[ap,aw,aA,ar,ct,cz,bt,eW,q',bO,bC,zb,d1,fd,xM,hh,b0,hd,bT,eq_self,kF,jJ,eZ,bK,bM,eR,bf,e8 et (rc _ _)]
    ·have jJ:¬max (120 - (y.size:Int)) (-1)<0:=by omega
     have re:oK L.length y=y.fault L.length 0:=by simp[oK,a1,al]
     rw[re];rw[if_neg (by simpa using jJ)]at fV;have bM:=fV.D;simp only[jJ,decide_false]at bK;obtain⟨af,gl,uK⟩:=aqF (b:=E.n+1) L.length m.len m.fits _ y (bS _) ado q J 0 i3 (by omega) (by omega) fV.D Rm;obtain⟨t0,t1,t2,kT⟩:=fs uK Rm eR aY bf;have du:=uK.D;have et:=jV.hS cK (by have:=g.n;omega) uK;by_cases bn:y.fault L.length 0=0
     ·rw[if_neg (by simp[bn])];have mP:=aW (pre++[y]) af (.int o pre.length) (.ptr E.n 0 0) (.ptr (E.n+1) 0 0) (.bool Q) (.bool Q) (.bool R) (by simp[e]) et (by have:=g.n;omega) t1 t2;rw[bs,cq]at mP;rw[bn]at du;simp only[ap,aw,aA,ar,ct,cz,bt,eW,q',bO,bC,zb,d1,fd,xM,hh,b0,hd,bT,eq_self,kF,jJ,bK,bM,eR,gl,du,hw];exact mP
     ·rw[if_pos bn];have lO:=et.set (b:=h.n+1) (es:=j [[.int o (y.fault L.length 0),.int o pre.length]]) (by omega);simp only[ap,aw,aA,ar,ct,cz,bt,eW,q',bO,bC,zb,d1,fd,xM,hh,b0,hd,bT,eq_self,kF,jJ,bK,bM,eR,gl,du,bn,t2,e8 lO (rc _ _)]
theorem adp(v:I)(L:List bk)(m:l0 h v L)(df:L.length<=100000)(az:∀x∈L,x.size<=100000):aM ak T 74 [.agg [v]] h=j (.inl (.agg [.int o (fw L).1,.int o (fw L).2]),h):=by
 have bO:=m.one;have b5:=m.len;have f1:=m.fits;have cK:aK h ((h.push [[v]]).push [[.int o 3,.int o (-1)]]):=(aK.push h _).trans (aK.push _ _);have rc:∀a b:Int,dP (.agg [.int o a,.int o b])=j (.agg [.int o a,.int o b]):=λa b=>rfl;refine bd aqk rfl ?_;unfold adi;by_cases am:L.length=0
 ·have K7:decide ((L.length:Int)=0)=Q:=by simp[am]
  have e:fw L=(3, -1):=by simp[fw,am]
  rw[e];simp only[ap,aw,aA,ar,ct,bO,b5,f1,K7,e8 cK (rc _ _)]
 ·have K7:decide ((L.length:Int)=0)=R:=by rw[decide_eq_false_iff_not];omega
  by_cases cc:6<L.length
  ·have xN:(6:Int)<(L.length:Int):=by omega
   have e:fw L=(3, -1):=by simp[fw,cc]
   rw[e];simp only[ap,aw,aA,ar,ct,bO,b5,f1,K7,xN,e8 cK (rc _ _)]
  ·have xN:¬(6:Int)<(L.length:Int):=by omega
   have e:fw L=p1 L.length 0 L:=by simp only[fw,am,cc,or_self,if_false]
   rw[e];have b0:=aqH (h:=h) v L m df az (.agg [v]) (.bool R) L [] ((h.push [[v]]).push [[.int o 0,.int o 0]]) .aD .aD .aD .aD .aD .aD rfl ((aK.push h _).trans (aK.push _ _)) (by simp only[ek];omega) AI vQ;simp only[ey,mn]at b0;simp only[ap,aw,aA,ar,ct,bO,b5,f1,K7,xN];exact b0
end
abbrev jW:aU:=239
abbrev adq:aU:=222
abbrev fL(x:cY):List I:=[.int o x.op,.int o x.k,.int o x.n]
def adr(v:I)(l:List cY)(h:ad):Prop:=(l=[]/\v= .aC)\/∃q,l≠[]/\q<h.n/\v= .br q 0 l.length jW/\h.cell q=j (l.map fL)
structure qo(b:Nat)(l:List cY)(h:ad):Prop where
 lt:b<h.n
 s:∃v,h.cell b=j [[v]]/\adr v l h
structure nL(b:Nat)(h E:ad):Prop where
 n:h.n<=E.n
 ids:h.ids<=E.ids
 hw:∀k,k<h.ids->E.hw k=h.hw k
 fu:∀k,k<h.n->k≠b->(∀m,h.cell b≠j [[.br k 0 m jW]])->E.cell k=h.cell k
 cur:∀k,k<h.n->∀m,E.cell b=j [[.br k 0 m jW]]->∃aZ,h.cell b=j [[.br k 0 aZ jW]]
theorem nL.trans{b:Nat}{h E eT:ad}(x:nL b h E)(y:nL b E eT):nL b h eT:=by
 refine⟨ee x.n y.n,ee x.ids y.ids,λk ab=>(y.hw k (eF ab x.ids)).trans (x.hw k ab),λk ab ag al=>?_,λk ab m e=>?_⟩
 ·refine(y.fu k (eF ab x.n) ag λm e=>?_).trans (x.fu k ab ag al);obtain⟨aZ,ej⟩:=x.cur k ab m e;exact al aZ ej
 ·obtain⟨aZ,ej⟩:=y.cur k (eF ab x.n) m e;exact x.cur k ab aZ ej
theorem nL.push{b:Nat}{h:ad}(ag:b<h.n)(es:List (List I)):nL b h (h.push es):=⟨by simp[ad.push],by simp[ad.push],λ_ _=>rfl,λk ab _ _=>eG ab,λk ab m e=>⟨m,(eG ag).symm.trans e⟩⟩
theorem qo.push{b:Nat}{l:List cY}{h:ad}(m:qo b l h)(es:List (List I)):qo b l (h.push es):=by
 obtain⟨ag,v,U,az⟩:=m;refine⟨by simp only[ek];omega,v,(eG ag).trans U,?_⟩;rcases az with az|⟨q,F,J,af,aB⟩
 ·exact .inl az
 ·exact .inr ⟨q,F,by simp only[ek];omega,af,(eG J).trans aB⟩
structure Own(b c:Nat)(r:List (List I))(h:ad):Prop where
 lt:c<h.n
 ne:c≠b
 GN:∀m,h.cell b≠j [[.br c 0 m jW]]
 c:h.cell c=j r
theorem Own.on{b c:Nat}{r:List (List I)}{h E:ad}(O:Own b c r h)(x:nL b h E):Own b c r E:=⟨eF O.lt x.n,O.ne,λm e=>(x.cur c O.lt m e).elim λaZ ej=>O.GN aZ ej,(x.fu c O.lt O.ne O.GN).trans O.c⟩
theorem Own.new{b:Nat}{l:List cY}{h:ad}(m:qo b l h)(r:List (List I)):Own b h.n r (h.push r):=by
 obtain⟨ag,v,U,az⟩:=m;refine⟨by simp[ad.push],by omega,λD e=>?_,fU⟩;rw[eG ag,U]at e;rcases az with⟨_,rfl⟩|⟨q,F,J,rfl,aB⟩
 ·simp at e
 ·simp only[hg,xf,I.br.injEq,and_true]at e;omega
section
variable{h:ad}
theorem aqL{b:Nat}{l:List cY}{v:I}(ag:b<h.n)(U:h.cell b=j [[v]])(az:adr v l h)(ai:l.length<=1000000)(x:cY):∃E,e0 Q jW v (.br h.n 0 1 jW) (h.push [fL x])=j (.br (h.n+1) 0 (l.length+1) jW,E)/\E.cell b=j [[v]]/\qo b (l++[x]) (E.set b (j [[.br (h.n+1) 0 (l.length+1) jW]]))/\nL b h (E.set b (j [[.br (h.n+1) 0 (l.length+1) jW]])):=by
 rcases az with⟨rfl,rfl⟩|⟨q,F,J,rfl,aB⟩
 ·have a6:((h.push [fL x]).push [fL x]).cell b=j [[.aC]]:=(eG (by simp only[ek];omega)).trans ((eG ag).trans U);refine⟨(h.push [fL x]).push [fL x],?_,a6,⟨by simp only[iF,ek];omega,_,i7,.inr ⟨h.n+1,by simp,by simp only[iF,ek];omega,rfl,?_⟩⟩,?_⟩
  ·simp[e0,js,kW,fU,ek,I.one]
  ·rw[dL (by omega)];exact vQ
  ·refine⟨by simp only[iF,ek];omega,bS _,λ_ _=>rfl,λk ab aq _=>(dL aq).trans ((eG (by simp only[ek];omega)).trans (eG ab)),λk ab m e=>?_⟩;rw[i7]at e;simp at e;omega
 ·have CA:q≠b:=by
   intro e;rw[e,U]at aB;cases l with
   |nil=>exact F rfl
   |cons y l=>simp at aB
  have hlen:(l.map fL).length=l.length:=by simp
  have c0:((h.push [fL x]).cell q)=j (l.map fL):=(eG J).trans aB;refine⟨((h.push [fL x]).set q Z).push (l.map fL++[fL x]),?_,?_,⟨by simp only[iF,ek];omega,_,i7,.inr ⟨h.n+1,by simp,by simp only[iF,ek];omega,by simp,?_⟩⟩,?_⟩
  ·simp only[e0,js,if_true,fU,da,fS,gH,bS,List.drop_zero,rU,List.take_zero,Nat.one_ne_zero,if_false,kW];rw[if_pos ⟨by omega,by omega,by simp[I.one]⟩,if_pos ⟨trivial,trivial,ai⟩,c0];have aO:List.take l.length (l.map fL)=l.map fL:=by rw[<-hlen,List.take_length]
   simp[ek,aO]
  ·rw[eG (by simp only[iF,ek];omega),dL (lo CA),eG ag];exact U
  ·rw[dL (by omega)];have:=fU (h:=(h.push [fL x]).set q Z) (es:=l.map fL++[fL x]);simpa[iF,ek]using this
  ·refine⟨by simp only[iF,ek];omega,bS _,λ_ _=>rfl,λk ab aq al=>?_,λk ab m e=>?_⟩
   ·have:k≠q:=by rintro rfl;exact al l.length U
    rw[dL aq,eG (by simp only[iF,ek];omega),dL this,eG ab]
   ·rw[i7]at e;simp at e;omega
theorem Bg{b:Nat}{l:List cY}(m:qo b l h)(ai:l.length<=1000000)(op k n:Int):∃E,aM ak T 135 [.ptr b 0 0,.int o op,.int o k,.int o n] h=j (.inl (.int o l.length),E)/\qo b (l++[⟨op,k,n⟩]) E/\nL b h E:=by
 obtain⟨ag,v,U,az⟩:=m;obtain⟨E,av,a6,m1,t1⟩:=aqL ag U az ai ⟨op,k,n⟩;refine⟨_,?_,m1,t1⟩;have hw:=gD (n:=((l.length+1:Nat):Int) - 1) (by omega) (by omega);have ax:((l.length+1:Nat):Int) - 1=(l.length:Int):=by omega
 rw[ax]at hw;refine bd aqa rfl ?_;unfold acU;simp only[ap,aw,aA,ar,ct,U,av,a6,ax,hw]
theorem ads{b:Nat}{A B:List cY}{x:cY}(m:qo b (A++x::B) h)(ai:(A++x::B).length<=1000000):∃E,aM ak T 139 [.ptr b 0 0,.int o A.length] h=j (.inl (.bx []),E)/\qo b (A++⟨x.op,((A++x::B).length:Nat),x.n⟩::B) E/\nL b h E:=by
 obtain⟨ag,v,U,az⟩:=m;rcases az with⟨e,rfl⟩|⟨q,F,J,rfl,aB⟩
 ·simp at e
 ·have CA:q≠b:=by intro e;rw[e,U]at aB;cases A<;>simp at aB
  have hG:fg (j jW) Z (.br q 0 (A++x::B).length jW) (.int o (A.length:Int))=j (.ptr q A.length 0):=by rw[AF rfl (by simp),gH]
  have a7:((A++x::B).map fL)[A.length]? =j (fL x):=by simp
  have Rn:((A++x::B).map fL).set A.length [.int o x.op,.int o ((A++x::B).length:Int),.int o x.n]=(A++⟨x.op,((A++x::B).length:Nat),x.n⟩::B).map fL:=by simp
  refine⟨h.set q (j ((A++⟨x.op,((A++x::B).length:Nat),x.n⟩::B).map fL)),?_,⟨ag,_,(dL (lo CA)).trans U,.inr ⟨q,by simp,J,by simp,i7⟩⟩,?_⟩
  ·refine bd aqb rfl ?_;unfold acW;simp only[ap,aw,aA,ar,ct,U,hG,aB,a7,Rn]
  ·refine⟨bS _,bS _,λ_ _=>rfl,λk ab aq al=>dL (by rintro rfl;exact al _ U),λk ab m e=>?_⟩;rw[dL (lo CA)]at e;exact⟨m,e⟩
end
theorem adt(f:Nat->List cY):∀(dM:List (Nat->List cY)) (p:Nat),kJ (dM++[f]) p=kJ dM p++f (p+(kJ dM p).length)
 |[],p=>by simp[kJ]
 |g::dM,p=>by simp only[kq,kJ,adt f dM,dy,jA];rw[show p+(g p).length+(kJ dM (p+(g p).length)).length=p+((g p).length+(kJ dM (p+(g p).length)).length) by omega]
theorem aqM{l:List bk}:∀{i:Nat} {y:bk},l[i]? =j y->fO (l.take i)+y.size<=fO l:=by
 induction l with
 |nil=>intro i y h;simp at h
 |cons x l aW=>
   intro i y h;cases i with
   |zero=>
     obtain rfl:x=y:=by simpa using h
     simp[fO]
   |succ i=>have:=aW (i:=i) (y:=y) (by simpa using h);simp only[rU,fO];omega
theorem adu(l:List bk)(p:Nat):(kJ (l.map cB) p).length<=3*fO l:=Nh l p λy _ p=>wN _ y (bS _) p
section
variable{h:ad}
theorem PP(cE:Int):∀(N:Nat) (x:bk),mV x<=N->∀(O:Int),x.fault cE O=0->∀(r:List I) (h:ad) (b:Nat) (l:List cY),j9 x r->qo b l h->l.length+3*x.size<=100000->∃E,aM ak T 134 [.ptr b 0 0,.agg r] h=j (.inl (.bx []),E)/\(qo b (l++cB x l.length) E/\nL b h E):=by
 intro N;induction N with
 |zero=>intro x an;have:=x.pZ;omega
 |succ N aW=>
   intro x an O bn r h b l he m ai;obtain⟨v,es,rfl,gp,U,aq,hG⟩:=he.facts;obtain⟨f1,f2,f3,f4,f5⟩:=Ni bn;have az:=x.size_eq;obtain⟨J,ax,cR,t2⟩:=Bg (m.push [[.int o x.op,.int o x.k,.int o x.n,v]]) (by omega) 100 0 0;have bC:=(Own.new m [[.int o x.op,.int o x.k,.int o x.n,v]]).on t2;have t2:=(nL.push m.lt [[.int o x.op,.int o x.k,.int o x.n,v]]).trans t2;have DL:∀y∈x.l,∀(O:Int),y.fault cE O=0->∀(r:List I) (h:ad) (l:List cY),j9 y r->qo b l h->l.length+3*y.size<=100000->∃E,aM ak T 134 [.ptr b 0 0,.agg r] h=j (.inl (.bx []),E)/\(qo b (l++cB y l.length) E/\nL b h E):=λy bq O bn r h l=>aW y (by have:=bk.pj bq;omega) O bn r h b l;rw[Cm];have ff:∀(i:Nat) (y:bk),x.l[i]? =j y->y∈x.l:=λi y bq=>qV bq;by_cases bw:x.op=5
   ·rw[bw]at f2 f5 ax bC;have py:x.l.length=2:=by simp[fX]at f2;omega
    obtain⟨a,c,hX⟩:=ao3 py;rw[hX]at f5 az;obtain⟨g1,cK⟩:=EK f5;obtain⟨et,_⟩:=EK cK;simp only[Nat.zero_ne_one,and_false,if_false,and_self,if_true,gH]at g1 et;simp only[fO]at az;obtain⟨bT,eW,d1,bY⟩:=hG 0 a (by rw[hX];rfl);obtain⟨bM,i2,d2,db⟩:=hG 1 c (by rw[hX];rfl);have eW:fg (j fh) Z v (.int o 0)=j (.ip bT 0):=eW;have i2:fg (j fh) Z v (.int o 1)=j (.ip bM 0):=i2;obtain⟨af,bs,h5,t3⟩:=DL a (by rw[hX];simp) O (by simpa using g1) bT J _ bY cR (by simp only[dy,fS];omega);have ep:=wN _ a (bS _) (l++[(⟨100,0,0⟩:cY)]).length;have dj:=bC.on t3;obtain⟨aB,cq,m4,t4⟩:=Bg h5 (by simp only[dy,fS]at ep ⊢;omega) 101 0 0;have eQ:=dj.on t4;obtain⟨aqN,eX,xO,t5⟩:=DL c (by rw[hX];simp) (O+1) et bM aB _ db m4 (by simp only[dy,fS]at ep ⊢;omega);have gC:=wN _ c (bS _) (l++[(⟨100,0,0⟩:cY)]++cB a (l++[(⟨100,0,0⟩:cY)]).length++[(⟨101,0,0⟩:cY)]).length;obtain⟨cc,jG,uL,t6⟩:=Bg xO (by simp only[dy,fS]at ep gC ⊢;omega) 102 0 0;refine P1 Q6 rfl λb' cf=>?_;unfold KS;simp only[ap,aw,aA,ar,U,ax,bC.c,bw,eZ,eW,d1,bs,cq,eQ.c,i2,d2,eX,jG];refine cf _ _ rfl ⟨?_,(((t2.trans t3).trans t4).trans t5).trans t6⟩;have av:(l++[(⟨100,0,0⟩:cY)]).length=l.length+1:=by simp
    rw[av]at uL;have cq:(l++[(⟨100,0,0⟩:cY)]++cB a (l.length+1)++[(⟨101,0,0⟩:cY)]).length=l.length+1+(cB a (l.length+1)).length+1:=by simp;omega
    rw[cq]at uL;rw[hX,bw];simpa only[tJ,Nf,if_true,gP,kK,jA,kq,j6]using uL
   ·have mc:=It bw f5;by_cases cQ:x.op=7
    ·rw[cQ]at f2 ax bC;have py:x.l.length=3:=by simp[fX]at f2;omega
     obtain⟨a,c,d,hX⟩:=ao4 py;rw[hX]at az mc;simp only[fO]at az;obtain⟨bT,eW,d1,bY⟩:=hG 0 a (by rw[hX];rfl);obtain⟨bM,i2,d2,db⟩:=hG 1 c (by rw[hX];rfl);obtain⟨du,i3,d3,e3⟩:=hG 2 d (by rw[hX];rfl);have eW:fg (j fh) Z v (.int o 0)=j (.ip bT 0):=eW;have i2:fg (j fh) Z v (.int o 1)=j (.ip bM 0):=i2;have i3:fg (j fh) Z v (.int o 2)=j (.ip du 0):=i3;obtain⟨af,bs,h5,t3⟩:=DL a (by rw[hX];simp) O (mc a (by simp)) bT J _ bY cR (by simp only[dy,fS];omega);have ep:=wN _ a (bS _) (l++[(⟨100,0,0⟩:cY)]).length;generalize e7:l++[(⟨100,0,0⟩:cY)]++cB a (l++[(⟨100,0,0⟩:cY)]).length=A at h5;have aAH:A.length<=l.length+1+3*a.size:=by rw[<-e7];simp only[dy,fS]at ep ⊢;omega
     have dj:=bC.on t3;obtain⟨aB,cq,m4,t4⟩:=Bg h5 (by omega) 103 0 0;have eQ:=dj.on t4;obtain⟨aqN,eX,xO,t5⟩:=DL c (by rw[hX];simp) O (mc c (by simp)) bM aB _ db m4 (by simp only[dy,fS];omega);have gC:=wN _ c (bS _) (A++[(⟨103,0,0⟩:cY)]).length;generalize sF:cB c (A++[(⟨103,0,0⟩:cY)]).length=B at xO gC;have jj:=eQ.on t5;obtain⟨cc,jG,uL,t6⟩:=Bg xO (by simp only[dy,fS];omega) 104 0 0;have rL:=jj.on t6;obtain⟨Ro,kS,GO,t7⟩:=ads (A:=A) (x:=(⟨103,0,0⟩:cY)) (B:=B++[(⟨104,0,0⟩:cY)]) (by simpa using uL) (by simp only[dy,dw,ey];omega);have pC:=rL.on t7;obtain⟨g7,mQ,zc,t8⟩:=DL d (by rw[hX];simp) O (mc d (by simp)) du Ro _ e3 GO (by simp only[dy,dw,ey];omega);obtain⟨nt,uM,GP,t9⟩:=ads (A:=A++⟨103,((A++(⟨103,0,0⟩:cY)::(B++[(⟨104,0,0⟩:cY)])).length:Nat),0⟩::B) (x:=(⟨104,0,0⟩:cY)) (B:=cB d (A++⟨103,((A++(⟨103,0,0⟩:cY)::(B++[(⟨104,0,0⟩:cY)])).length:Nat),0⟩::(B++[(⟨104,0,0⟩:cY)])).length) (by simpa using zc) (by have:=wN _ d (bS _) (A++⟨103,((A++(⟨103,0,0⟩:cY)::(B++[(⟨104,0,0⟩:cY)])).length:Nat),0⟩::(B++[(⟨104,0,0⟩:cY)])).length;simp only[dy,dw,ey]at this ⊢;omega);have GQ:((A++⟨103,((A++(⟨103,0,0⟩:cY)::(B++[(⟨104,0,0⟩:cY)])).length:Nat),0⟩::B).length:Int)=((A++[(⟨103,0,0⟩:cY)]++B).length:Int):=by simp
     rw[GQ]at uM;refine P1 Q6 rfl λb' cf=>?_;unfold KS;simp only[ap,aw,aA,ar,U,ax,bC.c,cQ,eZ,eW,d1,bs,cq,eQ.c,i2,d2,eX,jG,kS,pC.c,i3,d3,mQ,uM];refine cf _ _ rfl ⟨?_,(((((((t2.trans t3).trans t4).trans t5).trans t6).trans t7).trans t8).trans t9)⟩;rw[hX];have adv:A.length=l.length+1+(cB a (l.length+1)).length:=by rw[<-e7];simp;omega
     have K8:cB c (l.length+1+(cB a (l.length+1)).length+1)=B:=by rw[<-sF];congr 1;simp only[dy,fS,adv]
     have kr:pn (cB a) (cB c) l.length=A.length+1+B.length+1:=by unfold pn;rw[K8,adv]
     have GR:∀X:List cY,A++X=l++(⟨100,0,0⟩:cY)::(cB a (l.length+1)++X):=λX=>by rw[<-e7];simp
     have aqO:(A++(⟨103,0,0⟩:cY)::(B++[(⟨104,0,0⟩:cY)])).length=A.length+1+B.length+1:=by simp;omega
     rw[cQ];simp only[tJ,show ¬((7:Int)=5) by decide,if_false,if_true,gP,kK,Ng,kr,K8];rw[aqO]at GP;have K9:(A++⟨103,((A.length+1+B.length+1:Nat):Int),0⟩::(B++[(⟨104,0,0⟩:cY)])).length=A.length+1+B.length+1:=by simp;omega
     rw[K9]at GP;have ir:l++(⟨100,0,0⟩:cY)::(cB a (l.length+1)++⟨103,((A.length+1+B.length+1:Nat):Int),0⟩::(B++⟨104,((A.length+1+B.length+1+(cB d (A.length+1+B.length+1)).length:Nat):Int),0⟩::cB d (A.length+1+B.length+1)))=A++⟨103,((A.length+1+B.length+1:Nat):Int),0⟩::B++⟨104,((A++⟨103,((A.length+1+B.length+1:Nat):Int),0⟩::B++(⟨104,0,0⟩:cY)::cB d (A.length+1+B.length+1)).length:Nat),0⟩::cB d (A.length+1+B.length+1):=by
      rw[jA,kq,GR];have:A.length+1+B.length+1+(cB d (A.length+1+B.length+1)).length=(A++⟨103,((A.length+1+B.length+1:Nat):Int),0⟩::B++(⟨104,0,0⟩:cY)::cB d (A.length+1+B.length+1)).length:=by simp;omega
      rw[this]
     rw[ir];exact GP
    ·have df:x.l.length<=100000:=by have:=x.yl;omega
     refine P1 Q6 rfl λb' cf=>?_;unfold KS;simp only[ap,aw,aA,ar,U,ax,bC.c,bw,cQ,gp.len,gp.fits];refine td (λi V E=>∃v5 v10,V=[.ptr b 0 0,.agg [.int o x.op,.int o x.k,.int o x.n,v],.ptr h.n 0 0,.aD,.aD,v5,.int o x.op,v,.int o es.length,.int o (i:Nat),v10,.bool R,.bool R]/\qo b (l++(⟨100,0,0⟩:cY)::kJ ((x.l.take i).map cB) (l.length+1)) E/\nL b h E/\Own b h.n [[.int o x.op,.int o x.k,.int o x.n,v]] E) x.l.length ⟨_,_,rfl,by simpa[kJ]using cR,t2,bC⟩ ?_ ?_
     ·rintro i V E ae ⟨v5,v10,rfl,h5,t3,dj⟩ next
      obtain⟨y,bq⟩:∃y,x.l[i]? =j y:=⟨_,gd ae⟩;obtain⟨q,eW,d1,bY⟩:=hG i y bq;have bt:(i:Int)<(es.length:Int):=by rw[aq];omega
      have hw:=gD (n:=(i:Int)+1) (by omega) (by omega);have dY:=aqM bq;have Rp:=adu (x.l.take i) (l.length+1);obtain⟨a6,c2⟩:=bY.one;obtain⟨aB,cq,m4,t4⟩:=DL y (ff i y bq) O (by have:=mc y (ff i y bq);simpa using this) q (E.push [q]) _ bY (h5.push [q]) (by simp only[dy,dw];omega);have eQ:=(dj.on (nL.push h5.lt [q])).on t4;rw[dd Q2.eq_1];simp only[ap,aw,aA,ar,reduceCtorEq,cz,bt,eW,d1,a6,c2,cq,hw];refine next _ _ ⟨_,_,rfl,?_,(t3.trans (nL.push h5.lt [q])).trans t4,eQ⟩
      rw[A0 bq,rR,gP,kK,adt];have e:l.length+1+(kJ ((x.l.take i).map cB) (l.length+1)).length=(l++(⟨100,0,0⟩:cY)::kJ ((x.l.take i).map cB) (l.length+1)).length:=by simp;omega
      rw[e];simpa using m4
     ·rintro V E ⟨v5,v10,rfl,h5,t3,dj⟩;have bt:¬((x.l.length:Int)<(es.length:Int)):=by rw[aq];omega
      rw[List.take_length]at h5;have Rp:=adu x.l (l.length+1);obtain⟨aB,cq,m4,t4⟩:=Bg h5 (by simp only[dy,dw];omega) x.op x.k x.n;rw[dd Q2.eq_1];simp only[ap,aw,aA,ar,reduceCtorEq,cz,bt,dj.c,cq];refine cf _ _ rfl ⟨?_,t3.trans t4⟩;simpa[tJ,bw,cQ]using m4
end
theorem aqP(l:List cY):∀r∈l.map fL,r.all s2=Q:=by intro r aj;obtain⟨x,_,rfl⟩:=lR.1 aj;rfl
section
variable{h:ad}
end
def adw(P:cu)(T:gZ)(g:cH)(a aI:Nat)(aT:List Nat)(bQ:List bj)(rs:List nC):Prop:=∃fn c,P.funcs[g]? =j fn/\fn.body=j c/\T.use g=Q/\ga P (T.ba g) (T.ch g) fn.ntmps aT c []=j bQ/\rQ a fn.ntmps (T.aI g) aI aT=Q/\pE P aT fn.results.toList=j rs
section
variable{P:cu}{T:gZ}{aI:Nat}{aT:List Nat}{h:ad}
theorem aqQ(cC:ky P T){g:cH}{a:Nat}{bQ:List bj}{q:(I⊕I)×ad}(bn:adw P T g a aI aT bQ rs)(aN:args.length=a)(aj:qY R rs h (bu (aM P T) aI [.bQ bQ] (args++ar (aT.length - args.length) .aD) [] h)=j q):AC P g args h q:=by
 obtain⟨fn,c,F,J,bw,cc,cQ,g7⟩:=bn;unfold rQ at cQ;simp only[h8,decide_eq_true_eq,iC,j8,beq_iff_eq,bne_iff_ne,ne_eq]at cQ;obtain⟨⟨aP,a2⟩,a3⟩:=cQ;have get:∀D s,aT[D]? =j s->D<aT.length/\aT.getD D 0=s:=λD s aa=>⟨(fR.1 aa).1,by simp[dm,aa]⟩;have s0:aT.Nodup:=by rw[List.nodup_iff_pairwise_ne,List.pairwise_iff_getElem];intro i D ae aa gR e;have:=(a3 D aa).2 i gR;apply this;simp[dm,ae,aa,e]
 have lp:∀D s,aT[D]? =j s->(D<aI↔s<T.aI g):=by intro D s aa;obtain⟨g1,cK⟩:=get D s aa;have:=(a3 D g1).1.1.2;rw[cK]at this;exact decide_eq_decide.1 this
 have b6:gb fn.ntmps aT [] (args++ar (fn.ntmps - args.length) .aD) (args++ar (aT.length - args.length) .aD) []:=by
  refine⟨by simp;omega,by simp;omega,rfl,λD s aa=>?_,λD s aa=>by simp at aa⟩;obtain⟨g1,cK⟩:=get D s aa;obtain⟨⟨⟨dk,_⟩,dH⟩,_⟩:=a3 D g1;rw[cK]at dk dH;refine⟨dk,?_⟩;by_cases al:D<a\/s<a
  ·rw[if_pos al]at dH;have:s=D:=by simpa using dH
   subst this;have bt:s<args.length:=by omega
   simp[dm,ph bt]
  ·have a6:¬D<args.length:=by omega
   have c2:¬s<args.length:=by omega
   simp only[dm,rx (Nat.not_lt.1 a6),rx (Nat.not_lt.1 c2),List.getElem?_replicate];split<;>split<;>rfl
 generalize jM:bu (aM P T) aI [.bQ bQ] (args++ar (aT.length - args.length) .aD) [] h=x at aj;cases x with
 |none=>cases aj
 |some r=>
   have hm:=(Jt (n:=fn.ntmps) (f:=g) s0 lp _ _ _ _ _ jM).1 [.code c] _ (.bQ [c] bQ [] [] (by simp[mi,cc]) .nil) b6;obtain⟨cM,av,ax⟩:=hm;have a7:=Oy cC F J bw (Ji cC _ _ _ _ _ av).dg;obtain⟨x,cv,E⟩:=r;cases x with
   |panic v=>have aj:m2 R h (.inr v,E)=j q:=aj;rw[yt]at aj;injection aj with aj;subst aj;exact a7 _ rfl
   |halt K=>cases aj
   |ret=>
     rw[AE]at aj;cases U:(iS cv E rs).map iY with
     |none=>rw[U]at aj;cases aj
     |some v=>rw[U,zY,yt]at aj;injection aj with aj;subst aj;refine a7 _ ?_;have:=CU (h:=E) ax g7;simp only[Cq,nV,this,U,g3]
end
mutual
def rf:Nat->ad->I->Option (I×ad)
 |0,_,_=>Z
 |N+1,h,.br b O n e=>if O=0 then(h.cell b).bind λrows=>if n<=rows.length/\n≠0 then(r7 N (h.set b Z) (rows.take n)).map λq=>(.bN Z e q.1,q.2)else Z else Z
 |N+1,h,.agg cs=>(r8 N h cs).map λq=>(.agg q.1,q.2)
 |N+1,h,.bx cs=>(r8 N h cs).map λq=>(.bx q.1,q.2)
 |_+1,h,v=>j (v,h)
def r8:Nat->ad->List I->Option (List I×ad)
 |0,_,_=>Z
 |_+1,h,[]=>j ([],h)
 |N+1,h,v::l=>(rf N h v).bind λq=>(r8 N q.2 l).map λr=>(q.1::r.1,r.2)
def r7:Nat->ad->List (List I)->Option (List (List I)×ad)
 |0,_,_=>Z
 |_+1,h,[]=>j ([],h)
 |N+1,h,v::l=>(r8 N h v).bind λq=>(r7 N q.2 l).map λr=>(q.1::r.1,r.2)
end
section
variable{P:cu}{m:dq}{h:ad}{w:cd}
theorem bW.still(hw:bW P m h w){b:Nat}{cs:Array bH}(ag:h.cell b=j es)(al:iZ w (m.b1 b) (m.fI b) cs):∃aZ,Ext m h aZ (h.set b Z)/\bW P aZ (h.set b Z) w/\(∀O v,cs[O]? =j v->aZ.dI (m.b1 b) O=j v)/\aZ.b1=m.b1/\aZ.fI=m.fI:=by
 have an:Ext m h {m with dI:=λg O=>if g=m.b1 b then cs[O]? else m.dI g O} (h.set b Z):=by
  refine⟨rfl,bS _,bS _,λ_ _=>⟨rfl,rfl,rfl⟩,λg O v ae=>?_,λ_ _=>⟨rfl,bS _,λ_=>⟨rfl,rfl⟩⟩,λ_ _ h=>h⟩;show(if g=m.b1 b then cs[O]? else m.dI g O)=j v;by_cases e:g=m.b1 b
  ·rw[e,hw.sep b es ag O]at ae;cases ae
  ·rw[if_neg e];exact ae
 refine⟨_,an,?_,λO v U=>by simp[U],rfl,rfl⟩;have up:∀q x,(h.set b Z).cell q=j x->q≠b/\h.cell q=j x:=by
  intro q x aE;by_cases e:q=b
  ·subst e;simp[ad.set]at aE
  ·exact⟨e,by simpa[ad.set,e]using aE⟩
 refine⟨hw.size,λq x aE=>hw.lt q x (up q x aE).2,λq x aE=>?_,λq hi x hV aE sO=>hw.inj q hi x hV (up q x aE).2 (up hi hV sO).2,λg O v ae=>?_,λq x aE O=>?_,hw.oP,λk ab O au=>?_,λk ab q x aE=>hw.l9 k ab q x (up q x aE).2,hw.nY,hw.dg,λg x aa=>?_⟩
 ·obtain⟨hP,a6,c2,c3,c4,c5⟩:=hw.live q x (up q x aE).2;refine⟨hP,a6,c2,c3,c4,λi ae D aa=>?_⟩;obtain⟨v,v1,v2⟩:=c5 i ae D aa;exact⟨v,v1,v2.ext an⟩
 ·have ae:(if g=m.b1 b then cs[O]? else m.dI g O)=j v:=ae;by_cases e:g=m.b1 b
  ·rw[if_pos e]at ae;rw[e,al.cell];exact ae
  ·rw[if_neg e]at ae;exact hw.dI g O v ae
 ·obtain⟨cP,aE⟩:=up q x aE;show(if m.b1 q=m.b1 b then cs[O]? else m.dI (m.b1 q) O)=Z;rw[if_neg λe=>cP (hw.inj q b x es aE ag e)];exact hw.sep q x aE O
 ·show(if m.iB k=m.b1 b then cs[O]? else m.dI (m.iB k) O)=Z;rw[if_neg λe=>hw.l9 k ab b es ag e.symm];exact hw.nw k ab O au
 ·obtain⟨aP,a2,a3,a4,a5⟩:=hw.fo g x aa;refine⟨aP,a2,λq y aE=>a3 q y (up q y aE).2,a4,λO=>?_⟩;show(if g=m.b1 b then cs[O]? else m.dI g O)=Z;rw[if_neg λe=>a3 b es ag e.symm];exact a5 O
theorem Rq:∀N:Nat,(∀(m:dq) (h:ad) (w:cd) (v:I) (u:bH) (bg:I) (J:ad),bW P m h w->bF P m h v u->rf N h v=j (bg,J)->∃cR,Ext m h cR J/\bW P cR J w/\bF P cR J bg u)/\(∀(m:dq) (h:ad) (w:cd) (l:List I) (ah:Nat->bH) (q:List I) (J:ad),bW P m h w->(∀D (aa:D<l.length),bF P m h l[D] (ah D))->r8 N h l=j (q,J)->∃cR,Ext m h cR J/\bW P cR J w/\q.length=l.length/\∀D (aa:D<q.length),bF P cR J q[D] (ah D))/\(∀(m:dq) (h:ad) (w:cd) (l:List (List I)) (ah:Nat->Nat->bH) (q:List (List I)) (J:ad),bW P m h w->(∀i (ae:i<l.length) D (aa:D<l[i].length),bF P m h l[i][D] (ah i D))->r7 N h l=j (q,J)->∃cR,Ext m h cR J/\bW P cR J w/\q.length=l.length/\(∀i (ae:i<q.length) (ev:i<l.length),q[i].length=l[i].length)/\∀i (ae:i<q.length) D (aa:D<q[i].length),bF P cR J q[i][D] (ah i D)):=by
 intro N;induction N with
 |zero=>exact⟨λ_ _ _ _ _ _ _ _ _ e=>by simp[rf]at e,λ_ _ _ _ _ _ _ _ _ e=>by simp[r8]at e,λ_ _ _ _ _ _ _ _ _ e=>by simp[r7]at e⟩
 |succ N aW=>
   obtain⟨aqR,K',adx⟩:=aW;refine⟨?_,?_,?_⟩
   ·intro m h w v u bg J hw U e;have same:rf (N+1) h v=j (v,h)->∃cR,Ext m h cR J/\bW P cR J w/\bF P cR J bg u:=by intro ax;rw[ax]at e;simp only[hg,iQ]at e;obtain⟨rfl,rfl⟩:=e;exact⟨m,Ext.refl _ _,hw,U⟩
    cases U with
    |br b O n t cap ag he jt aq ju=>
      simp only[rf]at e;split at e
      ·rename_i au;subst au;obtain⟨rows,rP,e⟩:=dt.1 e;split at e
       ·rename_i Ag;obtain⟨⟨q,af⟩,aE,e⟩:=dl.1 e;simp only[iQ]at e;obtain⟨rfl,rfl⟩:=e;obtain⟨cs,a6,c2,c3,c4,c5⟩:=hw.live b rows rP;obtain⟨m1,bY,cg,eW,dk,t1⟩:=hw.still rP a6;have ai:(rows.take n).length=n:=by rw[List.length_take];omega
        obtain⟨cR,db,dS,ca,bK,v2⟩:=adx m1 (h.set b Z) w (rows.take n) (λi D=>cs.getD (i*P.cellsOf (m.fI b)+D) fy) q af cg (λi ae D aa=>by
         rw[ai]at ae;have ev:i<rows.length:=by omega
         simp only[List.getElem_take]at aa ⊢;obtain⟨v,c8,c6⟩:=c5 i ev D aa;have:cs.getD (i*P.cellsOf (m.fI b)+D) fy=v:=by simp[h9,c8]
         rw[this];exact c6.ext bY) aE
        refine⟨cR,bY.trans db,dS,?_⟩;have Aq:q.length=n:=by rw[ca,ai]
        have k0:∀i (ae:i<q.length),q[i].length=P.cellsOf t:=by intro i ae;rw[bK i ae (by omega),List.getElem_take,<-he];exact c3 _ (hf _)
        have key:=bF.bN (P:=P) (m:=cR) (h:=af) Z t q (m.b1 b) 0 cap (λi D=>cs.getD (i*P.cellsOf (m.fI b)+D) fy) (λr aj=>by
         obtain⟨i,ae,rfl⟩:=List.getElem_of_mem aj;exact k0 i ae) (λi ae D aa=>by
         have ev:i<rows.length:=by omega
         have di:D<rows[i].length:=by rw[c3 _ (hf _),he];exact aa
         obtain⟨v,c8,c6⟩:=c5 i ev D di;have av:cs.getD (i*P.cellsOf (m.fI b)+D) fy=v:=by simp[h9,c8]
         show cR.dI (m.b1 b) (0+(i*P.cellsOf t+D))=j (cs.getD (i*P.cellsOf (m.fI b)+D) fy);rw[av,gH,<-he];exact db.dI _ _ _ (eW _ _ c8)) v2 (by omega) (λk ab=>by cases ab)
        rw[Aq]at key;simpa using key
       ·cases e
      ·cases e
    |agg l b8 F af=>
      simp only[rf]at e;obtain⟨⟨q,aB⟩,aE,e⟩:=dl.1 e;simp only[iQ]at e;obtain⟨rfl,rfl⟩:=e;obtain⟨cR,db,dS,ca,v2⟩:=K' m h w l (λD=>b8.getD D fy) q aB hw (λD aa=>by
       have di:D<b8.length:=by omega
       have:=af D aa di;simpa[dm,di]using this) aE
      exact⟨cR,db,dS,.agg q b8 (by omega) λD aa di=>by have:=v2 D aa;simpa[dm,di]using this⟩
    |bx l b8 F af=>
      simp only[rf]at e;obtain⟨⟨q,aB⟩,aE,e⟩:=dl.1 e;simp only[iQ]at e;obtain⟨rfl,rfl⟩:=e;obtain⟨cR,db,dS,ca,v2⟩:=K' m h w l (λD=>b8.getD D fy) q aB hw (λD aa=>by
       have di:D<b8.length:=by omega
       have:=af D aa di;simpa[dm,di]using this) aE
      exact⟨cR,db,dS,.bx q b8 (by omega) λD aa di=>by have:=v2 D aa;simpa[dm,di]using this⟩
    |_=>exact same rfl
   ·intro m h w l ah q J hw U e;cases l with
    |nil=>simp only[r8,hg,iQ]at e;obtain⟨rfl,rfl⟩:=e;exact⟨m,Ext.refl _ _,hw,rfl,λD aa=>by simp at aa⟩
    |cons v l=>
      simp only[r8]at e;obtain⟨⟨v1,af⟩,av,e⟩:=dt.1 e;obtain⟨⟨bM,aB⟩,ax,e⟩:=dl.1 e;simp only[iQ]at e;obtain⟨rfl,rfl⟩:=e;obtain⟨m1,bY,cg,b0⟩:=aqR m h w v (ah 0) v1 af hw (U 0 (by simp)) av;obtain⟨cR,db,dS,ca,bK⟩:=K' m1 af w l (λD=>ah (D+1)) bM aB cg (λD aa=>(U (D+1) (by simpa using aa)).ext bY) ax;refine⟨cR,bY.trans db,dS,by simp[ca],λD aa=>?_⟩;cases D with
      |zero=>exact b0.ext db
      |succ D=>exact bK D (by simpa using aa)
   ·intro m h w l ah q J hw U e;cases l with
    |nil=>simp only[r7,hg,iQ]at e;obtain⟨rfl,rfl⟩:=e;exact⟨m,Ext.refl _ _,hw,rfl,λi ae=>by simp at ae,λi ae=>by simp at ae⟩
    |cons v l=>
      simp only[r7]at e;obtain⟨⟨v1,af⟩,av,e⟩:=dt.1 e;obtain⟨⟨bM,aB⟩,ax,e⟩:=dl.1 e;simp only[iQ]at e;obtain⟨rfl,rfl⟩:=e;obtain⟨m1,bY,cg,c8,b0⟩:=K' m h w v (ah 0) v1 af hw (U 0 (by simp)) av;obtain⟨cR,db,dS,ca,c6,bK⟩:=adx m1 af w l (λi=>ah (i+1)) bM aB cg (λi ae D aa=>(U (i+1) (by simpa using ae) D aa).ext bY) ax;refine⟨cR,bY.trans db,dS,by simp[ca],λi ae ev=>?_,λi ae D aa=>?_⟩
      ·cases i with
       |zero=>exact c8
       |succ i=>exact c6 i (by simpa using ae) (by simpa using ev)
      ·cases i with
       |zero=>exact(b0 D aa).ext db
       |succ i=>exact bK i (by simpa using ae) D aa
end
end Go.Proofs.YtaodiaofbeblbaaGreatDoor
