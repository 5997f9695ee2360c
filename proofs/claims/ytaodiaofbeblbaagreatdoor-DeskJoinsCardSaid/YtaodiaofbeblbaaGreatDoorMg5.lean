/- compile.Make, known by another road: its instructions turn no more. -/
import Derived.Test.YtaodiaofbeblbaaGreatDoorMg4
import Derived.Test.YtaodiaofbeblbaaGreatDoorRows
import Derived.Deep.QuietTactic
import Derived.BigQuiet
import Derived.Lib.SliceRun
import Derived.WalkLawsBesides
set_option linter.unusedSimpArgs false
set_option linter.unusedVariables false
set_option maxHeartbeats 4000000
set_option maxRecDepth 1000000
open List renaming replicate→ar,length_append→dy,length_cons→dw,getElem?_eq_some_iff→fR,getElem?_eq_getElem→gd,length_singleton→fS,length_nil→ey,getD→dm,length_map→gG,getElem_mem→hf,map_cons→gP,mem_cons→gW,append_assoc→jA,getElem?_eq_none→lN,cons_append→kq,nil_append→j6,length_eq_zero_iff→mF,getElem?_append_left→ph,append_nil→me,map_nil→kK,mem_map→lR,getElem?_cons_zero→qT,getElem?_append_right→rx,mem_of_getElem?→qV,mem_append→pq,take_succ_cons→rU,getElem?_take_of_lt→t',map_append→rR,getD_cons_zero→uO,drop_succ_cons→vR,mem_singleton→vp,getElem?_set→wi
open Option renaming some→j,none→Z,bind_eq_some_iff→dt,bind_some→da,map_some→g3,getD_some→ns
open Nat renaming reduceAdd→aw,reduceSub→aA,reduceLeDiff→ct,le_refl→bS,lt_of_lt_of_le→eF,le_trans→ee,zero_add→gH,reduceLT→oo,lt_or_ge→oI,add_assoc→p0,le_of_eq→p3
open Go.IntKind renaming i64→o,wrap→hq
open Go.Proofs.Tryz renaming prog→ak
open Bool renaming false→R,true→Q,and_eq_true→h8,false_eq_true→nx,and_true→s3
open Go renaming TypeId→aU,Program→cu,Value→bH,Oper→bb,FuncId→cH,World→cd,Frame→eO,undef→fy,Code→ef,lone→ew,IntKind→kf
open Option.some renaming injEq→hg,inj→tR
open Int renaming reduceEq→eZ,natCast_zero→mn,toNat_natCast→rV
open Prod.mk renaming injEq→iQ
open Go.Frame renaming enter→jO
open SizeOf renaming sizeOf→mV
open Ne renaming symm→lo
open List.cons renaming injEq→xf
open Iff renaming rfl→mN
open Go.Act renaming put→px
namespace Go.Proofs.YtaodiaofbeblbaaGreatDoor
open Go
variable{E J:ad}{e:aU}{es:List (List I)}{cs aV:List Int}{bV cN:I}{row V t:List I}{k op:Int}{cn:ad->Prop}{l st:List ay}{f:h2}{fp gN:Nat}{gK gg:bH}
def ks(x:bk):List cY:=cB x 0++[⟨105,0,0⟩]
structure aqS(am h:ad)(v:I)(rows:List (List I))(L:List bk):Prop where
 acc:Acc am h adq v rows
 g:aK am h
 len:rows.length=L.length
 bR:∀(i:Nat) (x:bk),L[i]? =j x->∃q,rows[i]? =j [.br q 0 (ks x).length jW]/\am.n<=q/\q<h.n/\h.cell q=j ((ks x).map fL)/\∀D hi m,D<i->rows[D]? =j [.br hi 0 m jW]->hi≠q
theorem nL.hS{b:Nat}{am h:ad}(g:aK am h)(ag:am.n<=b)(al:∀k,k<am.n->∀m,h.cell b≠j [[.br k 0 m jW]])(x:nL b h E):aK am E:=⟨ee g.n x.n,ee g.ids x.ids,λk ab=>(x.fu k (eF ab g.n) (by omega) (al k ab)).trans (g.cell k ab),λk ab=>(x.hw k (eF ab g.ids)).trans (g.hw k ab)⟩
theorem Acc.on{am h:ad}{v:I}{acc:List (List I)}(a:Acc am h e v acc)(F:h.ids<=E.ids)(J:∀k,k<h.ids->E.hw k=h.hw k):Acc am E e v acc:=by
 rcases a with a|⟨id,a0,aP,a2,a3,a4⟩
 ·exact .inl a
 ·exact .inr ⟨id,a0,aP,eF a2 F,(J id a2).trans a3,a4⟩
theorem ady{cE:Int}:∀{L:List bk} {i:Nat},(p1 cE i L).1=0->p1 cE i L=(0,0)/\∀x∈L,oK cE x=0
 |[],i,_=>⟨rfl,by simp⟩
 |x::L,i,h=>by
   rw[adn]at h ⊢;by_cases bn:oK cE x=0
   ·rw[if_neg (by simp[bn])]at h ⊢;obtain⟨a,b⟩:=ady h;refine⟨a,λy bq=>?_⟩;rcases gW.1 bq with e|bq
    ·rw[e];exact bn
    ·exact b y bq
   ·rw[if_pos bn]at h;exact absurd h bn
theorem Rr{L:List bk}(h:(fw L).1=0):fw L=(0,0)/\L.length<=6/\∀x∈L,x.fault L.length 0=0/\x.size<=120:=by
 unfold fw at h ⊢;split at h
 ·cases h
 ·rename_i ai;rw[if_neg ai];obtain⟨a,b⟩:=ady h;refine⟨a,by omega,λx an=>?_⟩;have:=b x an;unfold oK at this;split at this
  ·cases this
  ·split at this
   ·cases this
   ·exact⟨this,by omega⟩
theorem aqT{L:List bk}(h:(fw L).1=0):L≠[]:=by rintro rfl;simp[fw]at h
section
variable{P:cu}
theorem AC.aqU{g:cH}{args:List I}{id:Option Nat}{gz:List (List I)}{v2:I}{h:ad}{N:Nat}(hX:AC P g args h (.inl (.bx [.bN id e es,v2]),E))(bn:r7 N E es=j (gz,J)):AC P g args h (.inl (.bx [.bN Z e gz,v2]),J):=by
 intro m w bl hw e1;refine(hX m w bl hw e1).mono λgI aJ ⟨aZ,bY,db,e3,u,he,bE⟩=>?_;simp only at bY db bE;cases bE with
 |bx _ b8 bT bM=>
   obtain⟨u1,u2,rfl⟩:∃u1 u2,b8=[u1,u2]:=by
    match b8,bT with
    |[a,b],_=>exact⟨a,b,rfl⟩
   have v1:=bM 0 (by simp) (by simp);have zd:=bM 1 (by simp) (by simp);simp only[List.getElem_cons_zero,List.getElem_cons_succ]at v1 zd;have key:∃cR,Ext aZ E cR J/\bW P cR J aJ/\bF P cR J (.bN Z e gz) u1:=by
    cases v1 with
    |bN _ _ _ g O cap ah ai ae U al aO=>
      obtain⟨cR,fv,fT,km,hF,n9⟩:=(Rq N).2.2 aZ E aJ es ah gz J db U bn;refine⟨cR,fv,fT,?_⟩;have k0:∀i (ae:i<gz.length),gz[i].length=P.cellsOf e:=λi ae=>by rw[hF i ae (by omega)];exact ai _ (hf _)
      have key:=bF.bN (P:=P) (m:=cR) (h:=J) Z e gz g O cap ah (λr aj=>by obtain⟨i,ae,rfl⟩:=List.getElem_of_mem aj;exact k0 i ae) (λi ev D aa=>fv.dI _ _ _ (ae i (by omega) D aa)) n9 (by omega) (λk ab=>by cases ab);rwa [km]at key
    |mB _ a cap=>obtain⟨cR,fv,fT,km,hF,n9⟩:=(Rq N).2.2 aZ E aJ [] (λ_ _=>fy) gz J db (λi ae=>by simp at ae) bn;have:gz=[]:=mF.1 (by simpa using km);subst this;exact⟨cR,fv,fT,.mB e a cap⟩
   obtain⟨cR,fv,fT,km⟩:=key;refine⟨cR,bY.trans fv,fT,e3,_,he,?_⟩;exact .bx _ _ rfl λD aa di=>by
    match D,aa with
    |0,_=>exact km
    |1,_=>exact zd.ext fv
end
theorem aqV:adw ak T 125 1 13 [0,1,2,3,4,5,7,8,13,16,17,18,19] KT [(.v 2),(.cell Q 2 3)]:=⟨_,_,Tryz.func125,rfl,by kernel_rfl,by kernel_rfl,by kernel_rfl,by kernel_rfl⟩
theorem aqW:∀(N:Nat),(∀(x y:bk) (r:List I),mV x<=N->j9 x r->j9 y r->x=y)/\(∀(l b8:List bk) (es:List (List I)),mV l<=N->hy l es->hy b8 es->l=b8):=by
 intro N;induction N with
 |zero=>exact⟨λx _ _ an=>by have:=x.pZ;omega,λl _ _ ai=>by cases l<;>simp at ai⟩
 |succ N aW=>
   refine⟨λx y r an F J=>?_,λl b8 es ai F J=>?_⟩
   ·cases x with
    |mk op k n l=>
      cases y with
      |mk aAI dn b4 b8=>
        obtain⟨v,es,av,aY,bT⟩:=F;obtain⟨bg,gz,ax,bf,bM⟩:=J;rw[av]at ax;simp only[xf,I.int.injEq,true_and,and_true]at ax;obtain⟨rfl,rfl,rfl,rfl⟩:=ax;have:es=gz:=by
         rcases aY with⟨rfl,rfl⟩|⟨i,rfl⟩<;>rcases bf with⟨rfl,e⟩|⟨D,e⟩
         ·rfl
         ·cases e
         ·cases e
         ·injection e
        subst this;simp only[bk.mk.sizeOf_spec]at an;rw[aW.2 l b8 es (by omega) bT bM]
   ·cases l with
    |nil=>
      simp only[hy]at F;subst F;cases b8 with
      |nil=>rfl
      |cons y b8=>obtain⟨_,_,e,_⟩:=J;cases e
    |cons x l=>
      obtain⟨r,rs,rfl,aP,a2⟩:=F;cases b8 with
      |nil=>simp only[hy]at J;cases J
      |cons y b8=>obtain⟨bZ,vL,e,dk,dH⟩:=J;injection e with av ax;subst av;subst ax;simp only[List.cons.sizeOf_spec]at ai;rw[aW.1 x y r (by omega) aP dk,aW.2 l b8 rs (by omega) a2 dH]
section
variable{h:ad}
theorem adz:∀(rows:List (List I)) (L:List bk) (h:ad) (N:Nat),rows.length=L.length->5*L.length+3000<=N->(∀(i:Nat) (x:bk),L[i]? =j x->∃q,rows[i]? =j [.br q 0 (ks x).length jW]/\h.cell q=j ((ks x).map fL)/\(ks x).length<=1000/\∀D hi m,D<i->rows[D]? =j [.br hi 0 m jW]->hi≠q)->∃J,r7 N h rows=j (L.map λx=>[.bN Z jW ((ks x).map fL)],J)/\J.n=h.n/\J.ids=h.ids/\J.hw=h.hw/\∀k,(∀(i m:Nat),rows[i]?≠j [I.br k 0 m jW])->J.cell k=h.cell k
 |[],L,h,N,ai,eV,_=>by have:L=[]:=mF.1 (by simpa using ai.symm);subst this;obtain⟨N,rfl⟩:∃ou,N=ou+1:=⟨N - 1,by omega⟩;exact⟨h,rfl,rfl,rfl,rfl,λ_ _=>rfl⟩
 |r::rows,[],h,N,ai,eV,_=>by simp at ai
 |r::rows,x::L,h,N,ai,eV,an=>by
   obtain⟨N,rfl⟩:∃ou,N=ou+3:=⟨N - 3,by omega⟩;obtain⟨q,gI,c0,gL,_⟩:=an 0 x rfl;simp only[qT,hg]at gI;subst gI;have ne:(ks x).length≠0:=by simp[ks]
   have flat:∀(l:List cY) (M:Nat) (g:ad),5+l.length<=M->r7 M g (l.map fL)=j (l.map fL,g):=by
    intro l;induction l with
    |nil=>intro M g nM;obtain⟨M,rfl⟩:∃ou,M=ou+1:=⟨M - 1,by omega⟩;rfl
    |cons y l aW=>intro M g nM;simp only[dw]at nM;obtain⟨M,rfl⟩:∃ou,M=ou+5:=⟨M - 5,by omega⟩;have:=aW (M+4) g (by omega);simp only[gP,r7,r8,rf,da,g3,this]
   have ze:((ks x).map fL).take (ks x).length=(ks x).map fL:=List.take_of_length_le (by simp);have e7:rf (N+1) h (.br q 0 (ks x).length jW)=j (.bN Z jW ((ks x).map fL),h.set q Z):=by simp only[rf,if_true,c0,da,gG];rw[if_pos ⟨bS _,ne⟩,ze,flat (ks x) N _ (by simp only[dw]at eV;omega)];rfl
   obtain⟨J,f1,f2,f3,f4,f5⟩:=adz rows L (h.set q Z) (N+2) (by simpa using ai) (by simp only[dw]at eV;omega) λi y bq=>by obtain⟨bM,ax,c2,ca,d2⟩:=an (i+1) y (by simpa using bq);refine⟨bM,by simpa using ax,?_,ca,λD hi m aa aE=>d2 (D+1) hi m (by omega) (by simpa using aE)⟩;rw[dL (lo (d2 0 q _ (by omega) rfl))];exact c2
   refine⟨J,?_,f2,f3,f4,λk ab=>?_⟩
   ·have Bh:r8 (N+2) h [.br q 0 (ks x).length jW]=j ([.bN Z jW ((ks x).map fL)],h.set q Z):=by simp only[r8,e7,da,g3]
    simp only[r7,Bh,da,f1,g3,gP]
   ·rw[f5 k λi m hm=>ab (i+1) m (by simpa using hm),dL λe=>ab 0 (ks x).length (by rw[e];rfl)]
def Bi(h:ad)(L:List bk)(gS:I)(E:ad):Prop:=if(fw L).1=0 then ∃rows,(∃id,gS= .bN id adq rows)/\rows.length=L.length/\∀(i:Nat) (x:bk),L[i]? =j x->∃q,rows[i]? =j [.br q 0 (ks x).length jW]/\h.n<=q/\E.cell q=j ((ks x).map fL)/\∀(D hi m:Nat),D<i->rows[D]? =j [.br hi 0 m jW]->hi≠q else gS= .aC
theorem aqX(v:I)(L:List bk)(m:∀h,l0 h v L)(df:L.length<=100000)(az:∀x∈L,x.size<=100000):∃cv E gS,bu (aM ak T) 13 [.bQ KT] ([.agg [v]]++ar ([0,1,2,3,4,5,7,8,13,16,17,18,19].length - [I.agg [v]].length) .aD) [] h=j (.ret,cv,E)/\(iS cv E [(.v 2),(.cell Q 2 3)]).map iY=j (.bx [gS,.agg [.int o (fw L).1,.int o (fw L).2]])/\aK h E/\Bi h L gS E:=by
 suffices key:∀b':k3->Prop,(∀cv E gS,(iS cv E [(.v 2),(.cell Q 2 3)]).map iY=j (.bx [gS,.agg [.int o (fw L).1,.int o (fw L).2]])->aK h E->Bi h L gS E->b' (j (.ret,cv,E)))->b' (bu (aM ak T) 13 [.bQ KT] ([.agg [v]]++ar ([0,1,2,3,4,5,7,8,13,16,17,18,19].length - [I.agg [v]].length) .aD) [] h) from key (λx=>∃cv E gS,x=j (.ret,cv,E)/\(iS cv E [(.v 2),(.cell Q 2 3)]).map iY=j (.bx [gS,.agg [.int o (fw L).1,.int o (fw L).2]])/\aK h E/\Bi h L gS E) λcv E gS a b c=>⟨cv,E,gS,rfl,a,b,c⟩;intro b' cf;have bO:=(m h).one;have b5:=(m h).len;have f1:=(m h).fits;have bU:=λh=>adp (h:=h) v L (m h) df az;unfold KT;by_cases am:(fw L).1=0
 ·obtain⟨e,Rs,an⟩:=Rr am;have cP:=aqT am;rw[e]at bU cf;unfold Bi at cf;rw[e]at cf;simp only[if_true]at cf;simp only[ap,aw,aA,ar,bO,b5,f1,bU,eq_self];refine td (λi V E=>∃v5 v6 dz v12 rows,V=[.agg [v],.ptr h.n 0 0,.aC,.ptr (h.n+1) 0 0,.ptr (h.n+1+1) 0 0,v5,v6,dz,.bool R,v,.int o L.length,.int o (i:Nat),v12]/\aqS h E v5 rows (L.take i)/\h.n+1<E.n/\E.cell (h.n+1)=j [[.int o 0,.int o 0]]) L.length ⟨_,_,_,_,[],rfl,⟨vO _ _ _,(by repeat (first|exact aK.refl _|refine aK.trans ?_ (aK.push _ _)|refine aK.trans ?_ (aK.fresh _ _))),by simp,λi x an=>by simp at an⟩,by simp only[ek];omega,?_⟩ ?_ ?_
  ·simp only[ap,eG,aoP]
  ·rintro i V E ae ⟨v5,v6,dz,v12,rows,rfl,nh,aq,a6⟩ next
   obtain⟨y,bq⟩:∃y,L[i]? =j y:=⟨_,gd ae⟩;have aqY:y∈L:=qV bq;obtain⟨aqZ,ap4⟩:=an y aqY;obtain⟨a,q,eW,i2,i3⟩:=(m E).bR i y bq;have q':=i2 _ (aK.refl E);obtain⟨dU,g8⟩:=i3.one;have bt:(i:Int)<(L.length:Int):=by omega
   have hw:=gD (n:=(i:Int)+1) (by omega) (by omega);have mY:qo (E.n+1) [] ((E.push [q]).push [[.aC]]):=⟨by simp[ad.push],.aC,vQ,.inl ⟨rfl,rfl⟩⟩;have GN:∀k m,((E.push [q]).push [[.aC]]).cell (E.n+1)≠j [[.br k 0 m jW]]:=λk m e=>by rw[vQ]at e;simp at e
   obtain⟨aB,cq,m4,t4⟩:=PP L.length _ y (bS _) 0 aqZ q _ _ _ i3 mY (by simp only[ey];omega);have zf:=wN _ y (bS _) 0;obtain⟨bw,eX,xO,t5⟩:=Bg m4 (by simp only[dy,ey];omega) 105 0 0;have t:=t4.trans t5;have re:([]:List cY)++cB y ([]:List cY).length++[⟨105,0,0⟩]=ks y:=rfl;rw[re]at xO;obtain⟨NI,w,c5,cT⟩:=xO;obtain⟨hi, -,sO,rfl,DM⟩:∃hi,ks y≠[]/\hi<bw.n/\w= .br hi 0 (ks y).length jW/\bw.cell hi=j ((ks y).map fL):=by
    rcases cT with⟨e,_⟩|cT
    ·simp[ks]at e
    ·exact cT
   have aAJ:E.n+2<=hi:=by
    rcases oI hi ((E.push [q]).push [[.aC]]).n with DN|tP
    ·obtain⟨aZ,ej⟩:=t.cur hi DN _ c5;exact absurd ej (GN _ _)
    ·simpa[ad.push]using tP
   have Au:aK E ((E.push [q]).push [[.aC]]):=(by repeat (first|exact aK.refl _|refine aK.trans ?_ (aK.push _ _)|refine aK.trans ?_ (aK.fresh _ _)));have p4:aK E bw:=nL.hS Au (by omega) (λk _ m=>GN k m) t;have a5:=nh.acc.on p4.ids p4.hw;have gB:rows.length<=1000000:=by rw[nh.len,List.length_take];omega
   obtain⟨aAK,cc,jG,iI,hT,iD,n6⟩:=vP a5 (nh.g.trans p4) (row:=[.br hi 0 (ks y).length jW]) rfl gB;have fp:cc.cell (h.n+1)=j [[.int o 0,.int o 0]]:=by rw[iD,p4.cell _ aq];exact a6
   rw[dd Q7.eq_1];simp only[ap,aw,aA,ar,cz,bt,eW,q',dU,g8,cq,eX,c5,jG,hw];refine next _ _ ⟨_,_,_,_,_,rfl,⟨iI,hT,?_,λD x aa=>?_⟩,by have:=p4.n;omega,fp⟩
   ·rw[A0 bq,dy,dy,nh.len];rfl
   ·rw[A0 bq]at aa;by_cases uf:D<(L.take i).length
    ·rw[ph uf]at aa;obtain⟨p,cJ,z0,z2,z3,z4⟩:=nh.bR D x aa;refine⟨p,by rw[ph (by rw[nh.len];exact uf)];exact cJ,z0,by have:=p4.n;omega,by rw[iD,p4.cell _ z2];exact z3,λfV bM cR p' qb=>z4 fV bM cR p' ?_⟩;rwa [ph (by rw[nh.len];omega)]at qb
    ·rw[rx (by omega)]at aa;have qf:D - (L.take i).length=0:=by have:=(fR.1 aa).1;simp at this;simp;omega
     rw[qf]at aa;obtain rfl:y=x:=by simpa using aa
     refine⟨hi,by rw[rx (by rw[nh.len];omega),nh.len,qf];rfl,by have:=nh.g.n;omega,by omega,by rw[iD];exact DM,λfV bM cR p' qb=>?_⟩;have adA:fV<rows.length:=by rw[nh.len];omega
     rw[ph adA]at qb;obtain⟨z,aR⟩:∃z,(L.take i)[fV]? =j z:=⟨_,gd (by rw[<-nh.len];exact adA)⟩;obtain⟨p,cJ,z0,z2,z3,z4⟩:=nh.bR fV z aR;rw[cJ]at qb;simp only[hg,xf,I.br.injEq,and_true]at qb;omega
  ·rintro V E ⟨v5,v6,dz,v12,rows,rfl,nh,aq,a6⟩;have bt:¬((L.length:Int)<(L.length:Int)):=by omega
   rw[List.take_length]at nh;have aq0:rows≠[]:=λe=>cP (mF.1 (by rw[<-nh.len,e];rfl));rw[dd Q7.eq_1];simp only[ap,aw,aA,ar,cz,bt,a6];refine cf _ _ v5 (by simp only[ap,g3,da,dw,ey]) (nh.g.set (by omega)) ⟨rows,?_,nh.len,λi x an=>?_⟩
   ·rcases nh.acc with⟨e,_⟩|⟨id,_,_,_,_,e⟩
    ·exact absurd e aq0
    ·exact⟨_,e⟩
   ·obtain⟨q,cJ,z0,z2,z3,z4⟩:=nh.bR i x an;have rg:q≠h.n+1:=by
     rintro rfl;rw[a6]at z3;unfold ks at z3;cases al:cB x 0 with
     |nil=>rw[al]at z3;simp[fL]at z3
     |cons y l=>rw[al]at z3;simp[fL]at z3
    exact⟨q,cJ,z0,(dL rg).trans z3,z4⟩
 ·unfold Bi at cf;simp only[am,if_false]at cf;simp only[ap,aw,aA,ar,bO,b5,f1,bU,am];exact cf _ _ .aC (by simp only[ap,g3,da,dw,ey]) (by refine aK.set ?_ (by omega);exact(by repeat (first|exact aK.refl _|refine aK.trans ?_ (aK.push _ _)|refine aK.trans ?_ (aK.fresh _ _)))) rfl
theorem aq1(L:List bk):dP (lB L)=j (lB L):=by
 unfold lB;simp only[dP];have key:∀L:List bk,ki (L.map λx=>[I.bN Z jW ((cB x 0++[(⟨105,0,0⟩:cY)]).map λi:cY=>[.int o i.op,.int o i.k,.int o i.n])])=j (L.map λx=>[I.bN Z jW ((cB x 0++[(⟨105,0,0⟩:cY)]).map λi:cY=>[.int o i.op,.int o i.k,.int o i.n])]):=by
  intro L;induction L with
  |nil=>rfl
  |cons x L aW=>have Rt:ki ((cB x 0++[(⟨105,0,0⟩:cY)]).map λi:cY=>[I.int o i.op,.int o i.k,.int o i.n])=j ((cB x 0++[(⟨105,0,0⟩:cY)]).map λi:cY=>[I.int o i.op,.int o i.k,.int o i.n]):=CX (aqP _);simp only[gP,ki,lP,dP,Rt,g3,aW]
 rw[key L];rfl
theorem aq2(v:I)(L:List bk)(m:∀h,l0 h v L)(df:L.length<=100000)(az:∀x∈L,x.size<=100000):AC ak 125 [.agg [v]] h (.inl (AP L),h):=by
 obtain⟨cv,E,gS,av,ax,g,bs⟩:=aqX (h:=h) v L m df az;have hX:AC ak 125 [.agg [v]] h (.inl (.bx [gS,.agg [.int o (fw L).1,.int o (fw L).2]]),E):=aqQ cC aqV rfl (by rw[av,AE,ax,zY,yt]);unfold AP;by_cases am:(fw L).1=0
 ·unfold Bi at bs;rw[if_pos am]at bs ⊢;obtain⟨rows,⟨id,rfl⟩,ai,an⟩:=bs;obtain⟨_,Rs,dY⟩:=Rr am;obtain⟨J,f1,f2,f3,f4,f5⟩:=adz rows L E 100000 ai (by omega) λi x ae=>by obtain⟨q,cJ,z0,z2,z3⟩:=an i x ae;have zf:=wN _ x (bS _) 0;have:=(dY x (qV ae)).2;exact⟨q,cJ,z2,by simp only[ks,dy,fS];omega,z3⟩
  have a2:=AC.aqU hX f1;have ob:aK h J:=⟨by rw[f2];exact g.n,by rw[f3];exact g.ids,λk ab=>by
   refine(f5 k λi m hm=>?_).trans (g.cell k ab)
   ·obtain⟨x,ae⟩:∃x,L[i]? =j x:=⟨_,gd (by rw[<-ai];exact(fR.1 hm).1)⟩;obtain⟨q,cJ,z0,_⟩:=an i x ae;rw[cJ]at hm;simp only[hg,xf,I.br.injEq,and_true]at hm;omega,λk ab=>by rw[f4];exact g.hw k ab⟩
  refine AC.forget (p:=Q) a2 (e8 ob ?_);have:=aq1 L;unfold lB ks at*;simp only[dP,lP,g3]at this ⊢;rw[this];rfl
 ·unfold Bi at bs;rw[if_neg am]at bs ⊢;subst bs;exact AC.forget (p:=Q) hX (e8 g rfl)
theorem aq3{v:I}{L:List bk}(U:fH fh v es)(ai:hy L es)(m:∀h,l0 h v L)(df:L.length<=100000)(az:∀x∈L,x.size<=100000):aM ak T 125 [.agg [v]] h=j (.inl (AP L),h):=by
 have H:∃L:List bk,(∃bg es,[I.agg [v]]=[.agg [bg]]/\fH fh bg es/\hy L es)/\AC ak 125 [.agg [v]] h (.inl (AP L),h):=⟨L,⟨v,es,rfl,U,ai⟩,aq2 v L m df az⟩;have an:T.ext 125=j JG:=by show i8 125=_;unfold i8;rw[if_neg (by decide),if_neg (by decide),if_pos rfl]
 unfold aM;rw[an];simp only[JG];rw[dif_pos H];obtain⟨⟨bg,gz,av,aY,bT⟩,_⟩:=Classical.choose_spec H;have:L=Classical.choose H:=by
  injection av with av;injection av with av;injection av with av;subst av;have:es=gz:=by
   rcases U with⟨rfl,rfl⟩|⟨i,rfl⟩<;>rcases aY with⟨rfl,e⟩|⟨D,e⟩
   ·rfl
   ·cases e
   ·cases e
   ·injection e
  subst this;exact(aqW _).2 _ _ _ (bS _) ai bT
 rw[<-this]
end
open Go.RowKit
theorem aq4:(ak.info? 2).map (λi=>(i.zero,i.size,i.bytes))=j (j (.int o 0),1,8):=by kernel_rfl
theorem aq5(A:Option Addr)(n cap:Nat)(xs:List bH)(w:cd)(aj:kj w 1 A n cap xs)(F:∀u∈xs,u.oneCell'=Q)(aq:n<=1000000):Calls ak 80 #[.slice A n cap] w λe aJ=>∃wg rD,e= .returned (.slice wg n rD)/\aJ.ownsRow w.heap.size 2 1 (.slice wg n rD) n xs/\hL w aJ:=by
 obtain⟨i0,ae,lQ,yB,og⟩:=info_parts aq4;have aE:∀(w:cd) (a:Option Addr) (l c:Nat),(binOp .eql 55 (.slice a l c) (.slice Z 0 0)).run ak w= .ok (.bool a.isNone) w:=λw a l c=>Lib.run_eql_slice_nil w _ _ a l c 0 0 Tryz.underlying55;rcases A with _|a
 ·have al:=aj.2.2.1 rfl;have hle:=aj.2.1;obtain rfl:n=0:=by omega
  subst al;obtain rfl:xs=[]:=List.eq_nil_of_length_eq_zero (by simpa using aj.1)
  go_enter Tryz.func80,Tryz.ntmps80
  go_wp2
  go_ret
  exact⟨_,_,rfl,World.ownsRow_nil _ _ _ _,ci.refl _ _⟩
 ·have aq6:(w.alloc (.cells #[] 2)).ownsRow w.heap.size 2 1 (.slice (j ⟨w.heap.size,0,Z⟩) 0 0) 0 []:=World.ownsRow_lit w #[] 0 (bS _) (by unfold maxLen;omega) (by simp);have vC:kj (w.alloc (.cells #[] 2)) 1 (j a) n cap xs:=aj.new ((ci.refl _ _).alloc _)
  go_enter Tryz.func80,Tryz.ntmps80
  go_wp2_with (at_builtin;refine akN rfl (.tmp 5) (.tmp 6) 55 rfl w.heap.size 2 i0 _ 1 8 Tryz.underlying55 ae lQ yB og rfl (by decide) _ 0 [] _ rfl aq6 (j a) n cap xs rfl vC F (by unfold maxLen;omega) (by omega) (by simp) ?_)
  intro v cg ul xj U aq7;have au:hL w cg:=((ci.refl _ w).alloc (.cells #[] 2)).step xj (by intro k ab;simp;omega)
  try simp only[gH,j6]at ul
  obtain⟨wg,rD,rfl⟩:∃wg rD,v= .slice wg n rD:=by
   rcases ul.2 with⟨rfl,rfl⟩|⟨g,rD,_,rfl,_⟩
   ·exact⟨_,_,rfl⟩
   ·exact⟨_,_,rfl⟩
  clear aq7 U
  go_wp2
  go_ret
  exact⟨_,_,rfl,ul,au⟩
open Go Go.RowKit
theorem aq8(g O:Nat)(xs:List bH)(w:cd)(aj:kj w 1 (j ⟨g,O,Z⟩) 12 12 xs)(F:∀u∈xs,u.oneCell'=Q):Calls ak 56 #[.pointer (j ⟨g,O,Z⟩)] w λe aJ=>∃wg rD,e= .returned (.slice wg 12 rD)/\aJ.ownsRow w.heap.size 2 1 (.slice wg 12 rD) 12 xs/\hL w aJ:=by
 go_enter Tryz.func56,Tryz.ntmps56
 go_wp2_with (go_at_call 80;refine(aq5 _ 12 12 _ _ aj F (by omega)).mono ?_;rintro e aJ ⟨wg,rD,rfl,fD,au⟩)
 go_ret
 exact⟨_,_,rfl,fD,au⟩
section
variable{P:cu}{m:dq}{h:ad}{w aJ:cd}
theorem bW.aq9(hw:bW P m h w)(au:hL w aJ){g:Nat}(a7:w.heap.size<=g){cA:Nat->Option bH}(xD:∀O v,cA O=j v->aJ.cell? ⟨g,O,Z⟩=j v):∃aZ,Ext m h aZ h/\bW P aZ h aJ/\∀O v,cA O=j v->aZ.dI g O=j v:=by
 have ft:=hw.new au;have an:Ext m h {m with dI:=λfJ O=>if fJ=g then cA O else m.dI fJ O} h:=by refine⟨rfl,bS _,bS _,λ_ _=>⟨rfl,rfl,rfl⟩,λfJ O v ae=>?_,λ_ _=>⟨rfl,bS _,λ_=>⟨rfl,rfl⟩⟩,λ_ _ h=>h⟩;have:=hw.p9 ae;show(if fJ=g then cA O else m.dI fJ O)=j v;rw[if_neg (by omega)];exact ae
 refine⟨_,an,?_,λO v ae=>by show(if g=g then cA O else _)=_;rw[if_pos rfl];exact ae⟩;refine{ft with live:=λb es ag=>?_,dI:=λfJ O v ae=>?_,sep:=λb es ag O=>?_,nw:=λk ab O au=>?_,fo:=λfJ x aa=>?_}
 ·obtain⟨cs,F,J,af,aB,bw⟩:=ft.live b es ag;exact⟨cs,F,J,af,aB,λi ae D aa=>by obtain⟨v,a,c⟩:=bw i ae D aa;exact⟨v,a,c.ext an⟩⟩
 ·have ae:(if fJ=g then cA O else m.dI fJ O)=j v:=ae;by_cases e:fJ=g
  ·rw[if_pos e]at ae;rw[e];exact xD O v ae
  ·rw[if_neg e]at ae;exact ft.dI fJ O v ae
 ·have:=hw.below ag;show(if m.b1 b=g then cA O else m.dI (m.b1 b) O)=Z;rw[if_neg (by omega)];exact ft.sep b es ag O
 ·have:=(hw.qO ab).2;show(if m.iB k=g then cA O else m.dI (m.iB k) O)=Z;rw[if_neg (by omega)];exact ft.nw k ab O au
 ·obtain⟨aP,a2,a3,a4,a5⟩:=ft.fo fJ x aa;refine⟨aP,a2,a3,a4,λO=>?_⟩;have:=hw.tU aa;show(if fJ=g then cA O else m.dI fJ O)=Z;rw[if_neg (by omega)];exact a5 O
end
theorem adB:(ak).cellsOf 2=1:=by kernel_rfl
theorem aq'{h:ad}{b:Nat}(al:h.cell b=j [cs.map (.int o)++[bV]])(ai:cs.length=12):AC ak 56 [.ptr b 0 0] h (.inl (.bN Z 2 (cs.map λx=>[.int o x])),h):=by
 intro m w bl hw e1;obtain⟨u,rfl⟩:∃u,bl=[u]:=by
  match bl,e1.1 with
  |[u],_=>exact⟨u,rfl⟩
 have v0:=e1.2 0 (by simp) (by simp);simp only[List.getElem_cons_zero]at v0;obtain⟨aAL,a6,c2,c3,c4,c5⟩:=hw.live b _ al;have sI:kj w 1 (j ⟨m.b1 b,0,Z⟩) 12 12 (cs.map (Value.int o)):=kj.akL a6 (bS _) (by simp[ai]) λD u bE=>by
  have aa:D<cs.length:=by have:=(fR.1 bE).1;simpa using this
  have p':D<(cs.map (I.int o)++[bV]).length:=by simp;omega
  obtain⟨v,c8,c6⟩:=c5 0 (by simp) D p';have c6:bF ak m h ((cs.map (I.int o)++[bV])[D]'p') v:=c6;rw[List.getElem_append_left (by simpa using aa),List.getElem_map]at c6;cases c6;simp only[List.getElem?_map,gd aa,g3,hg]at bE;rw[<-bE];simpa using c8
 cases v0 with
 |ptr _ _ _ ag=>
   have I9:=aq8 (m.b1 b) 0 (cs.map (Value.int o)) w sI (by intro u bE;obtain⟨x,_,rfl⟩:=lR.1 bE;rfl);have gI:(0*(ak).cellsOf (m.fI b)+0)=0:=by omega
   simp only[gI];refine I9.mono ?_;rintro e aJ ⟨wg,rD,rfl,fD,au⟩;have gp:=kj.NA fD;obtain⟨g,O,rfl⟩:=gp.some_ (by omega);have a7:w.heap.size<=g:=(fD.lt g rfl).1;have xD:∀(p:Nat) (v:bH),(if O<=p then(cs.map (Value.int o))[p - O]? else Z)=j v->aJ.cell? ⟨g,p,Z⟩=j v:=by
    intro p v U;split at U
    ·rename_i iW;have:=gp.U0 (p:=p - O) U;rw[show O+(p - O)=p by omega]at this;exact this
    ·cases U
   obtain⟨aZ,bY,db,e3⟩:=hw.aq9 au a7 (cA:=λp=>if O<=p then(cs.map (Value.int o))[p - O]? else Z) xD;refine⟨aZ,bY,db,ci.below au (λ_ h=>h.elim) hw.size,_,rfl,?_⟩;have key:=bF.bN (P:=ak) (m:=aZ) (h:=h) Z 2 (cs.map λx=>[.int o x]) g O rD (λi _=>.int o (cs.getD i 0)) (λr aj=>by
     obtain⟨x,_,rfl⟩:=lR.1 aj;rw[adB];rfl) (λi ae D aa=>by
     rw[adB]at aa ⊢;have qf:D=0:=by omega
     subst qf;refine e3 _ _ ?_;have ev:i<cs.length:=by simpa using ae
     show(if O<=O+(i*1+0)then(cs.map (Value.int o))[O+(i*1+0) - O]? else Z)=_;rw[if_pos (by omega),show O+(i*1+0) - O=i by omega];simp[ev,dm]) (λi ae D aa=>by
     have ev:i<cs.length:=by simpa using ae
     have qf:D=0:=by simp only[List.getElem_map,fS]at aa;omega
     subst qf;have e:(cs.map λx=>[I.int o x])[i][0]= .int o (cs.getD i 0):=by simp[dm,ev]
     rw[e];exact .int _ _) (by rw[gG,ai];exact gp.2.1) (λk ab=>by cases ab)
   rw[gG,ai]at key;exact key
theorem ara{gA:List Int}{zg:I}(F:cs.length=12)(J:gA.length=12)(e:cs.map (I.int o)++[bV]=gA.map (I.int o)++[zg]):cs=gA:=by have:=List.append_inj_left e (by simp[F,J]);refine List.ext_getElem? λi=>?_;have af:=congrArg (·[i]?) this;simp only[List.getElem?_map]at af;cases an:cs[i]? <;>cases bq:gA[i]? <;>simp_all
theorem arb{h:ad}{b:Nat}(al:h.cell b=j [cs.map (.int o)++[bV]])(ai:cs.length=12):aM ak T 56 [.ptr b 0 0] h=j (.inl (.bN Z 2 (cs.map λx=>[.int o x])),h):=by
 have H:∃cs:List Int,(∃c1 bV,[I.ptr b 0 0]=[.ptr c1 0 0]/\h.cell c1=j [cs.map (.int o)++[bV]]/\cs.length=12)/\AC ak 56 [.ptr b 0 0] h (.inl (.bN Z 2 (cs.map λx=>[.int o x])),h):=⟨cs,⟨b,bV,rfl,al,ai⟩,aq' al ai⟩;have an:T.ext 56=j JH:=by show i8 56=_;unfold i8;rw[if_neg (by decide),if_neg (by decide),if_neg (by decide),if_pos rfl]
 unfold aM;rw[an];simp only[JH];rw[dif_pos H];obtain⟨⟨c1,zg,av,ax,bs⟩,_⟩:=Classical.choose_spec H;have:cs=Classical.choose H:=by injection av with av;injection av with av;subst av;rw[al]at ax;injection ax with ax;injection ax with ax;exact ara ai bs ax
 rw[<-this]
section
variable{h:ad}{ah ao:Nat->Prop}{b:Nat}{G:be}
theorem arc(g:gE h ah ao b G)(d':G.dE)(c r k:Int):∃E,aM ak T 108 [.ptr b 0 0,.int o c,.int o r,.int o k] h=j (.inl (.bx [.int o (G.lL c r k).2.1,.int o (G.lL c r k).2.2]),E)/\ic h ah ao b E (G.lL c r k).1:=by
 unfold be.lL;cases al:wL c
 ·rw[if_neg (by simp)];refine⟨h,?_,ic.same g⟩;refine bd aau rfl ?_;unfold PJ;simp only[ap,aw,aA,ar,ct,Ka,al]
 ·rw[if_pos rfl];obtain⟨E,e,d⟩:=P4 g d' ⟨-1,k,r,c, -1,0⟩;simp only[bi]at e;refine⟨E,?_,d⟩;refine bd aau rfl ?_;unfold PJ;simp only[ap,aw,aA,ar,ct,Ka,al,e]
theorem ard(p f:Int):(EI p f=Q/\decide (p<0)=R/\decide (4<=p)=R/\decide (f<0)=R/\decide (6<=f)=R)\/(EI p f=R/\(decide (p<0)=Q\/decide (p<0)=R/\decide (4<=p)=Q\/decide (p<0)=R/\decide (4<=p)=R/\decide (f<0)=Q\/decide (p<0)=R/\decide (4<=p)=R/\decide (f<0)=R/\decide (6<=f)=Q)):=by simp only[EI,decide_eq_true_eq,decide_eq_false_iff_not];omega
theorem are(g:gE h ah ao b G)(d':G.dE)(p f r k:Int):∃E,aM ak T 110 [.ptr b 0 0,.int o p,.int o f,.int o r,.int o k] h=j (.inl (.bx [.int o (G.lM p f r k).2.1,.int o (G.lM p f r k).2.2]),E)/\ic h ah ao b E (G.lM p f r k).1:=by
 unfold be.lM;rcases ard p f with⟨al,F,J,af,aB⟩|⟨al,an⟩
 ·rw[if_pos al];obtain⟨E,e,d⟩:=P4 g d' ⟨-1,k,r,0,p,f⟩;simp only[bi]at e;refine⟨E,?_,d⟩;refine bd aaw rfl ?_;unfold PM;simp only[ap,aw,aA,ar,ct,F,J,af,aB,e]
 ·rw[if_neg (by simp[al])];refine⟨h,?_,ic.same g⟩;refine bd aaw rfl ?_;unfold PM;rcases an with F|⟨F,J⟩|⟨F,J,af⟩|⟨F,J,af,aB⟩
  ·simp only[ap,aw,aA,ar,ct,F]
  ·simp only[ap,aw,aA,ar,ct,F,J]
  ·simp only[ap,aw,aA,ar,ct,F,J,af]
  ·simp only[ap,aw,aA,ar,ct,F,J,af,aB]
theorem adC(g:gE h ah ao b G)(d':G.dE)(p r k:Int):∃E,aM ak T 172 [.ptr b 0 0,.int o p,.int o r,.int o k] h=j (.inl (.bx [.int o (G.derive p r k).2.1,.int o (G.derive p r k).2.2]),E)/\ic h ah ao b E (G.derive p r k).1:=by
 unfold be.derive;cases al:G.has p
 ·rw[if_neg (by simp)];refine⟨h,?_,ic.same g⟩;refine bd aay rfl ?_;unfold PN;simp only[ap,aw,aA,ar,ct,FZ g,al]
 ·rw[if_pos rfl];obtain⟨E,e,d⟩:=P4 g d' ⟨p,k,r,0, -1,0⟩;simp only[bi]at e;refine⟨E,?_,d⟩;refine bd aay rfl ?_;unfold PN;simp only[ap,aw,aA,ar,ct,FZ g,al,e]
theorem arf:∃E,aM ak T 36 [] h=j (.inl (.ptr h.n 0 0),E)/\E=h.push [[.aC,.aC]]:=by refine⟨_,?_,rfl⟩;refine bd aom rfl ?_;unfold aaR;simp only[ap,aw,aA,ar]
theorem arh(h:ad):gE (h.push [[.aC,.aC]]) (λk=>k=h.n) (λ_=>False) h.n ⟨[],[]⟩:=⟨⟨rfl,by simp[ad.push]⟩,⟨λk ab=>by rw[ab];simp[ad.push],λ_=>False.elim⟩,.aC,.aC,fU,.inl ⟨rfl,rfl⟩,.inl ⟨rfl,rfl⟩⟩
end
section
variable{h E am:ad}{ah ao aL aF:Nat->Prop}{L:List b2}
theorem GS:∀{ms:dQ} {kept:List ay} {aV:List (List I)},fb kept aV->ms.length=kept.length->(nb ms aV).length=5*ms.length
 |[],[],aV,h,_=>by simp only[fb]at h;subst h;rfl
 |m::ms,k::kept,aV,h,ai=>by obtain⟨r,rs,rfl,F,J⟩:=h;have aW:=GS (ms:=ms) J (by simpa using ai);simp only[nb,kq,dw,dy,aW,F.dx.1];omega
 |[],_::_,_,_,ai=>by simp at ai
 |_::_,[],_,_,ai=>by simp at ai
theorem adD:∀{ms:dQ} {kept:List ay} {aV:List (List I)} {p:Nat},fb kept aV->ms.length=kept.length->p<ms.length->(nb ms aV)[p*5]? =j (.bool (ms.getD p Z).isSome)/\(nb ms aV)[p*5+1]? =j (qm (ms.getD p Z))/\∃r,((nb ms aV).drop (p*5+2)).take 3=r/\ck (kept.getD p cp) r/\((nb ms aV).drop (p*5)).take 5= .bool (ms.getD p Z).isSome::qm (ms.getD p Z)::r
 |[],kept,aV,p,_,_,hp=>by simp at hp
 |m::ms,[],aV,p,_,ai,_=>by simp at ai
 |m::ms,k::kept,aV,p,h,ai,hp=>by
   obtain⟨r,rs,rfl,F,J⟩:=h;have af:=F.dx.1
   match r,af with
   |[a,b,c],_=>
     cases p with
     |zero=>exact⟨rfl,rfl,[a,b,c],rfl,F,rfl⟩
     |succ p=>
       obtain⟨bT,bM,bZ,du,eB,n'⟩:=adD (ms:=ms) (p:=p) J (by simpa using ai) (by simpa using hp);have av:∀D,(nb (m::ms) ([a,b,c]::rs))[(p+1)*5+D]? =(nb ms rs)[p*5+D]? :=λD=>by
        have:(p+1)*5+D=p*5+D+5:=by omega
        rw[this];rfl
       have ax:∀D,(nb (m::ms) ([a,b,c]::rs)).drop ((p+1)*5+D)=(nb ms rs).drop (p*5+D):=λD=>by
        have:(p+1)*5+D=p*5+D+5:=by omega
        rw[this];rfl
       have f1:=av 0;have f2:=ax 0;rw[Nat.add_zero,Nat.add_zero]at f1 f2;exact⟨f1.trans bT,(av 1).trans bM,bZ,by rw[ax 2];exact du,eB,by rw[f2];exact n'⟩
theorem adE:∀{ms:dQ} {kept:List ay} {aV:List (List I)} {p:Nat} {v:ay} {r:List I},fb kept aV->ms.length=kept.length->p<ms.length->ck v r->∃qp,fb (kept.set p v) qp/\dO (nb ms aV) (p*5+2) r=nb ms qp
 |[],kept,aV,p,_,_,_,_,hp,_=>by simp at hp
 |m::ms,[],aV,p,_,_,_,ai,_,_=>by simp at ai
 |m::ms,k::kept,aV,p,v,r,h,ai,hp,U=>by
   obtain⟨gS,rs,rfl,F,J⟩:=h;have af:=F.dx.1;have aB:=U.dx.1
   match gS,af,r,aB with
   |[a,b,c],_,[x,y,z],_=>
     cases p with
     |zero=>exact⟨[x,y,z]::rs,⟨_,_,rfl,U,J⟩,rfl⟩
     |succ p=>
       obtain⟨qp,bT,bM⟩:=adE (ms:=ms) (p:=p) J (by simpa using ai) (by simpa using hp) U;refine⟨[a,b,c]::qp,⟨_,_,rfl,F,bT⟩,?_⟩;have:(p+1)*5+2=p*5+2+5:=by omega
       rw[this];unfold dO at bM ⊢;simp only[nb,kq,j6,rU,dw,ey];rw[show p*5+2+5+(0+1+1+1)=p*5+2+3+5 by omega];simp only[vR];rw[<-bM];simp
theorem La{b cl cr:Nat}{ms:dQ}{kept:List ay}(x:(ha b cl cr ms kept).A h ah ao)(ai:ms.length=kept.length):∃row,h.cell b=j [row]/\b<h.n/\row[0]? =j (.ptr cl 0 0)/\row[1]? =j (.ptr cr 0 0)/\row.length=2+5*ms.length/\∀p:Nat,p<ms.length->row[2+p*5]? =j (.bool (ms.getD p Z).isSome)/\row[2+p*5+1]? =j (qm (ms.getD p Z))/\∃r,gX Q 3 row (2+p*5+2)=j (.agg r)/\ck (kept.getD p cp) r/\gX Q 5 row (2+p*5)=j (.agg (.bool (ms.getD p Z).isSome::qm (ms.getD p Z)::r)):=by
 obtain⟨aV,ab,_,_,F,J⟩:=x;refine⟨_,J,F,rfl,rfl,by simp only[nc,dw,GS ab ai];omega,λp hp=>?_⟩;obtain⟨bT,bM,r,du,eB,n'⟩:=adD ab ai hp;have e:∀D,(nc cl cr ms aV)[2+p*5+D]? =(nb ms aV)[p*5+D]? :=λD=>by rw[show 2+p*5+D=p*5+D+1+1 by omega];rfl
 have ax:∀D,(nc cl cr ms aV).drop (2+p*5+D)=(nb ms aV).drop (p*5+D):=λD=>by rw[show 2+p*5+D=p*5+D+1+1 by omega];rfl
 have hlen:=GS ab ai;have f0:=e 0;have f2:=ax 0;rw[Nat.add_zero,Nat.add_zero]at f0 f2;refine⟨f0.trans bT,(e 1).trans bM,r,?_,eB,?_⟩
 ·unfold gX;rw[if_pos rfl,if_pos (by simp only[nc,dw,hlen];omega),ax 2,du]
 ·unfold gX;rw[if_pos rfl,if_pos (by simp only[nc,dw,hlen];omega),f2,n']
theorem ari{b cl cr:Nat}{ms:dQ}{kept:List ay}(s:aQ am aL aF h L)(i:Nat)(ae:L[i]? =j (ha b cl cr ms kept))(ai:ms.length=kept.length){p:Nat}(hp:p<ms.length){v:ay}{r:List I}(U:ck v r):∃E,eN 3 h (.ptr b 0 (2+p*5+2)) (.agg r)=j E/\aQ am aL aF E (L.set i (ha b cl cr ms (kept.set p v))):=by
 refine s.call (cn:=λE=>eN 3 h (.ptr b 0 (2+p*5+2)) (.agg r)=j E) i ae λah ao x=>?_;obtain⟨aV,ab,aP,a2,a3,a4⟩:=x;obtain⟨qp,bT,bM⟩:=adE ab ai hp U;have hlen:=GS ab ai;refine⟨_,lV (es:=[nc cl cr ms aV]) (e:=nc cl cr ms aV) a4 rfl U.dx.2 U.dx.1 (by simp only[nc,dw,hlen];omega),ah,ao,⟨qp,bT,aP,a2,a3,?_⟩,⟨bS _,bS _,λk _ oT=>dL λe=>oT ((aP k).2 e),λ_ _ _=>rfl⟩,λ_=>.inl,λ_=>.inl⟩;rw[i7,List.set_cons_zero];have:dO (nc cl cr ms aV) (2+p*5+2) r=nc cl cr ms qp:=by unfold nc;rw[<-bM];unfold dO;rw[show 2+p*5+2=p*5+2+1+1 by omega];simp only[rU,kq];rw[show p*5+2+1+1+r.length=p*5+2+r.length+1+1 by omega];simp only[vR]
 simp only[I.cells,this]
theorem GU{v:I}{rows:List (List I)}(x:(k6 e v rows).A h ah ao)(F:row.all I.one=Q)(ai:rows.length<=1000000):∃bg E,e0 R e v (.bN (j h.ids) e [row]) (h.fresh 1)=j (bg,E)/\bg.one=Q/\bg.cells=[bg]/\en h ah ao E (k6 e bg (rows++[row]))/\E.n=h.n/\E.cell=h.cell:=by
 have n8:([row].all λx=>x.all I.one)=Q:=by simpa using F
 rcases x with⟨⟨rfl,rfl⟩,av,ax⟩|⟨id,⟨cP,rfl⟩,aP,a2,a3,a4⟩
 ·refine⟨.bN (j (h.ids+1)) e [row],(h.fresh 1).fresh 1,?_,rfl,rfl,⟨λ_=>False,λD=>D=h.ids+1,.inr ⟨h.ids+1,⟨by simp,rfl⟩,λ_ h=>h,λ_=>mN,by simp[ad.fresh],by simp[ad.fresh]⟩,((aK.fresh h 1).trans (aK.fresh _ 1)).vW _ _,λ_ h=>h.elim,λD aa=>.inr (by omega)⟩,rfl,rfl⟩;simp only[e0,js,if_true,da,fS,Nat.one_ne_zero,if_false,kW];rw[if_pos ⟨by omega,by omega,n8⟩];rfl
 ·have arj:id≠h.ids:=by omega
  refine⟨.bN (j id) e (rows++[row]),(h.fresh 1).grow id (rows.length+1),?_,rfl,rfl,⟨λ_=>False,λD=>D=id,.inr ⟨id,⟨by simp,rfl⟩,λ_ h=>h,λ_=>mN,by simp[ad.grow,ad.fresh];omega,by simp[ad.grow]⟩,⟨bS _,by simp[ad.grow,ad.fresh],λ_ _ _=>rfl,λD aa fZ=>?_⟩,λ_ h=>h.elim,λD aa=>.inl ((a2 D).2 aa)⟩,rfl,rfl⟩
  ·simp only[e0,js,if_true,da,fS,Nat.one_ne_zero,if_false,kW];rw[if_pos ⟨by omega,by omega,n8⟩,FA arj,a4];simp only[true_and,ai,if_true]
  ·rw[Ye λe=>fZ ((a2 D).2 e),FA (by omega)]
theorem Lb{b:Nat}{cells:List Int}{log:List jI}(x:(bv b cells log).A h ah ao):∃v,aQ h ah ao h [bm b [cells.map (.int o)++[v]],k6 j' v (log.map g')]:=by obtain⟨v,x⟩:=x;exact⟨v,aQ.start (cX.two x)⟩
theorem adF{b:Nat}{cells:List Int}{log:List jI}{v:I}(s:aQ am aL aF h [bm b [cells.map (.int o)++[v]],k6 j' v (log.map g')]):en am aL aF h (bv b cells log):=en.imp (λ_ _ _ x=>by obtain⟨eH,eI,dX,eb,bY,db,r⟩:=x;exact⟨v,eH,eI,dX,eb,bY,cX.uE db,r⟩) s
theorem GV{cells:List Int}{v:I}(ai:cells.length=12){D:Nat}(aa:D<12):(cells.map (I.int o)++[v])[D]? =j (.int o (cells.getD D 0))/\(cells.map (I.int o)++[v])[12]? =j v/\(cells.map (I.int o)++[v]).length=13:=by
 refine⟨?_,?_,by simp[ai]⟩
 ·rw[ph (by simp;omega)];simp[dm,show D<cells.length by omega]
 ·rw[rx (by simp;omega)];simp[ai]
theorem ark{b:Nat}{cells:List Int}{log:List jI}(eR:aQ am aL aF h L)(i:Nat)(ae:L[i]? =j (bv b cells log))(ai:cells.length=12)(aq:log.length<=1000000){c:Int}(al:0<=c/\c<12)(p n:Int):∃E,aM ak T 170 [.ptr b 0 0,.int o p,.int o c,.int o n] h=j (.inl (.bx [.int o (cells.getD c.toNat 0),.bool Q]),E)/\aQ am aL aF E (L.set i (bv b cells (log++[⟨p,c,1,n⟩]))):=by
 refine eR.call (cn:=λE=>aM ak T 170 [.ptr b 0 0,.int o p,.int o c,.int o n] h=j (.inl (.bx [.int o (cells.getD c.toNat 0),.bool Q]),E)) i ae λah ao x=>?_;obtain⟨v,s⟩:=Lb x;obtain⟨a6,c2⟩:=s.cell 0 rfl;obtain⟨D,rfl⟩:=Int.eq_ofNat_of_zero_le al.1;have aa:D<12:=by omega
 obtain⟨g1,cK,et⟩:=GV (v:=v) ai aa;obtain⟨F,bg,⟨av,bO,bC,ep,c8⟩,aY⟩:=s.uF (cn:=λE bg=>e0 R j' v (.bN (j h.ids) j' [g' ⟨p,D,1,n⟩]) (h.fresh 1)=j (bg,E)/\bg.one=Q/\bg.cells=[bg]/\E.n=h.n/\E.cell=h.cell) 1 rfl (Y:=λbg=>k6 j' bg (log.map g'++[g' ⟨p,D,1,n⟩])) λah ao y=>by obtain⟨bg,E,aP,a2,a3,a4,a5,iI⟩:=GU y (row:=g' ⟨p,D,1,n⟩) rfl (by simpa using aq);exact⟨E,bg,⟨aP,a2,a3,a5,iI⟩,a4⟩
 have bR:∀q:kf,fg Z (j (12,1)) (.ptr b 0 0) (.int q (D:Int))=j (.ptr b 0 D):=λq=>by simp[fg,aa]
 have vw:wL (D:Int)=Q:=by simp[wL];omega
 have c3:=(aY.cell 0 rfl).1;have bJ:dO (cells.map (I.int o)++[v]) 12 [bg]=cells.map (I.int o)++[bg]:=by unfold dO;rw[List.take_left' (by simp[ai]),List.drop_of_length_le (by simp[ai])];simp
 have st:=lV (n:=1) (x:=bg) (off:=12) (i:=0) c3 rfl (by rw[bC];simpa using bO) (by rw[bC];rfl) (by omega);rw[bC,bJ,List.set_cons_zero]at st;have bf:=aY.set 0 rfl [cells.map (I.int o)++[bg]];have lO:=(GV (v:=bg) ai aa).1;refine⟨_,?_,adF (v:=bg) (log:=log++[⟨p,D,1,n⟩]) (by rw[rR];exact bf)⟩;have ja:∀(x:ad) (k:Nat) (u:I),(cells.map (I.int o)++[u])[D]? =j (.int o (cells.getD D 0))->x.cell b=j [cells.map (I.int o)++[u]]->cO R k x (.ptr b 0 D)=j (.int o (cells.getD D 0)):=λx k u bE an=>by rw[gm,an,da,qT,da,qi,bE]
 have Ru:∀k:Nat,cO R k h (.ptr b 0 12)=j v:=λk=>by rw[gm,a6,da,qT,da,qi,cK]
 have f12:b9 12 (.ptr b 0 0)=j (.ptr b 0 12):=rfl;have wd:=ja _ 1 bg lO (bf.cell 0 rfl).1;simp only[g']at av;refine bd apd rfl ?_;unfold ab1;simp only[ap,aw,aA,ar,ct,cx,Ka,vw,f12,Ru,av,st,bR,wd]
theorem arl{b:Nat}{cells:List Int}{log:List jI}(eR:aQ am aL aF h L)(i:Nat)(ae:L[i]? =j (bv b cells log))(ai:cells.length=12)(aq:log.length<=1000000){c:Int}(al:0<=c/\c<12)(p n z:Int):∃E,aM ak T 171 [.ptr b 0 0,.int o p,.int o c,.int o n,.int o z] h=j (.inl (.bool Q),E)/\aQ am aL aF E (L.set i (bv b (cells.set c.toNat z) (log++[⟨p,c,2,n⟩]))):=by
 refine eR.call (cn:=λE=>aM ak T 171 [.ptr b 0 0,.int o p,.int o c,.int o n,.int o z] h=j (.inl (.bool Q),E)) i ae λah ao x=>?_;obtain⟨v,s⟩:=Lb x;obtain⟨a6,c2⟩:=s.cell 0 rfl;obtain⟨D,rfl⟩:=Int.eq_ofNat_of_zero_le al.1;have aa:D<12:=by omega
 obtain⟨g1,cK,et⟩:=GV (v:=v) ai aa;obtain⟨F,bg,⟨av,bO,bC,ep,c8⟩,aY⟩:=s.uF (cn:=λE bg=>e0 R j' v (.bN (j h.ids) j' [g' ⟨p,D,2,n⟩]) (h.fresh 1)=j (bg,E)/\bg.one=Q/\bg.cells=[bg]/\E.n=h.n/\E.cell=h.cell) 1 rfl (Y:=λbg=>k6 j' bg (log.map g'++[g' ⟨p,D,2,n⟩])) λah ao y=>by obtain⟨bg,E,aP,a2,a3,a4,a5,iI⟩:=GU y (row:=g' ⟨p,D,2,n⟩) rfl (by simpa using aq);exact⟨E,bg,⟨aP,a2,a3,a5,iI⟩,a4⟩
 have bR:∀q:kf,fg Z (j (12,1)) (.ptr b 0 0) (.int q (D:Int))=j (.ptr b 0 D):=λq=>by simp[fg,aa]
 have vw:wL (D:Int)=Q:=by simp[wL];omega
 have c3:=(aY.cell 0 rfl).1;have bJ:dO (cells.map (I.int o)++[v]) 12 [bg]=cells.map (I.int o)++[bg]:=by unfold dO;rw[List.take_left' (by simp[ai]),List.drop_of_length_le (by simp[ai])];simp
 have st:=lV (n:=1) (x:=bg) (off:=12) (i:=0) c3 rfl (by rw[bC];simpa using bO) (by rw[bC];rfl) (by omega);rw[bC,bJ,List.set_cons_zero]at st;have bf:=aY.set 0 rfl [cells.map (I.int o)++[bg]];have lO:=GV (v:=bg) ai aa;have arn:dO (cells.map (I.int o)++[bg]) D [.int o z]=(cells.set D z).map (I.int o)++[bg]:=by
  have:dO (cells.map (I.int o)++[bg]) D [.int o z]=(cells.map (I.int o)++[bg]).set D (.int o z):=by
   refine List.ext_getElem? λi=>?_;rw[xd _ _ _ _ (by simp only[fS,lO.2.2];omega)];by_cases e:i=D
   ·subst e;rw[if_pos (by simp only[fS];omega),List.getElem?_set_self (by rw[lO.2.2];omega)];simp
   ·rw[if_neg (by simp only[fS];omega),List.getElem?_set_ne (by omega)]
  rw[this,List.set_append_left _ _ (by simp;omega),List.map_set]
 have adG:=lV (n:=1) (x:=.int o z) (off:=D) (i:=0) (bf.cell 0 rfl).1 rfl rfl rfl (by rw[lO.2.2];omega);rw[show(I.int o z).cells=[.int o z] from rfl,arn,List.set_cons_zero]at adG;have bP:=bf.set 0 rfl [(cells.set D z).map (I.int o)++[bg]];refine⟨_,?_,adF (v:=bg) (log:=log++[⟨p,D,2,n⟩]) (by rw[rR];exact bP)⟩;have Ru:∀k:Nat,cO R k h (.ptr b 0 12)=j v:=λk=>by rw[gm,a6,da,qT,da,qi,cK]
 have f12:b9 12 (.ptr b 0 0)=j (.ptr b 0 12):=rfl;simp only[g']at av;refine bd ape rfl ?_;unfold ab5;simp only[ap,aw,aA,ar,ct,cx,Ka,vw,f12,Ru,av,st,bR,adG]
end
def hl(am:ad)(ah ao:Nat->Prop)(b:Nat)(h:ad)(G:be)(C cA:List Nat):Prop:=∃k4 k5,gE h k4 k5 b G/\lA ah ao am h/\(∀k,k4 k->ah k\/am.n<=k)/\(∀D,k5 D->ao D\/am.ids<=D)/\(∀k∈C,am.n<=k/\k<h.n/\¬k4 k)/\(∀D∈cA,am.ids<=D/\D<h.ids/\¬k5 D)
section
variable{am h:ad}{ah ao:Nat->Prop}{b:Nat}{G ei:be}{C cA:List Nat}
theorem hl.start(g:gE h ah ao b G):hl h ah ao b h G [] []:=⟨ah,ao,g,lA.refl _ _ _,λ_=>.inl,λ_=>.inl,by simp,by simp⟩
theorem hl.zh(m:hl am ah ao b h G C cA):ic am ah ao b h G:=by obtain⟨k4,k5,g,c,f,D,_⟩:=m;exact⟨k4,k5,g,c,f,D⟩
theorem hl.aro(m:hl am ah ao b h G C cA):∃k4 k5,gE h k4 k5 b G:=by obtain⟨k4,k5,g,_⟩:=m;exact⟨k4,k5,g⟩
theorem hl.n(m:hl am ah ao b h G C cA):am.n<=h.n:=by obtain⟨_,_,_,c,_⟩:=m;exact c.n
theorem hl.lt(m:hl am ah ao b h G C cA){k:Nat}(ab:k∈C):k<h.n:=by obtain⟨_,_,_,_,_,_,c,_⟩:=m;exact(c k ab).2.1
theorem hl.fu(m:hl am ah ao b h G C cA){k:Nat}(ab:k<am.n)(cW:¬ah k):h.cell k=am.cell k:=by obtain⟨_,_,_,c,_⟩:=m;exact c.cell k ab cW
theorem hl.hS{E:ad}(m:hl am ah ao b h G C cA)(x:aK h E):hl am ah ao b E G C cA:=by
 obtain⟨k4,k5,g,c,f,D,al,ae⟩:=m;refine⟨k4,k5,g.hS x,c.trans (x.vW _ _),f,D,λk ab=>?_,λi ab=>?_⟩
 ·obtain⟨aP,a2,a3⟩:=al k ab;exact⟨aP,eF a2 x.n,a3⟩
 ·obtain⟨aP,a2,a3⟩:=ae i ab;exact⟨aP,eF a2 x.ids,a3⟩
theorem hl.push(m:hl am ah ao b h G C cA)(r:List (List I)):hl am ah ao b (h.push r) G (h.n::C) cA:=by
 have aq:=m.n;obtain⟨k4,k5,g,c,f,D,al,ae⟩:=m.hS (aK.push h r);obtain⟨dX,eb,cK,c2,f2,fV,jJ,hN⟩:=m;refine⟨dX,eb,cK.hS (aK.push h r),c,f2,fV,λk ab=>?_,λi ab=>?_⟩
 ·rcases gW.1 ab with rfl|ab
  ·exact⟨aq,by simp[ad.push],λcW=>by have:=cK.lt.1 _ cW;omega⟩
  ·obtain⟨aP,a2,a3⟩:=jJ k ab;exact⟨aP,by simp only[ek];omega,a3⟩
 ·exact hN i ab
theorem hl.fresh(m:hl am ah ao b h G C cA)(r:Nat):hl am ah ao b (h.fresh r) G C (h.ids::cA):=by
 obtain⟨dX,eb,cK,c2,f2,fV,jJ,hN⟩:=m;refine⟨dX,eb,cK.hS (aK.fresh h r),c2.trans ((aK.fresh h r).vW _ _),f2,fV,jJ,λi ab=>?_⟩;rcases gW.1 ab with rfl|ab
 ·exact⟨c2.ids,by simp[ad.fresh],λcW=>by have:=cK.lt.2 _ cW;omega⟩
 ·obtain⟨aP,a2,a3⟩:=hN i ab;exact⟨aP,by simp only[OX];omega,a3⟩
theorem hl.set(m:hl am ah ao b h G C cA){c:Nat}(ab:c∈C)(es:Option (List (List I))):hl am ah ao b (h.set c es) G C cA:=by obtain⟨dX,eb,cK,c2,f2,fV,jJ,hN⟩:=m;obtain⟨aP,a2,a3⟩:=jJ c ab;have x:lA (λk=>k=c) (λ_=>False) h (h.set c es):=⟨bS _,bS _,λk _ ab=>dL ab,λ_ _ _=>rfl⟩;refine⟨dX,eb,cK.fs x (λk ab e=>a3 (e ▸ ab)) (λ_ _ h=>h),c2.then x (λk e=>.inr (by rw[e];exact aP)) (λ_ h=>h.elim),f2,fV,jJ,hN⟩
theorem hl.grow(m:hl am ah ao b h G C cA){i:Nat}(ab:i∈cA)(r:Nat):hl am ah ao b (h.grow i r) G C cA:=by obtain⟨dX,eb,cK,c2,f2,fV,jJ,hN⟩:=m;obtain⟨aP,a2,a3⟩:=hN i ab;have x:lA (λ_=>False) (λD=>D=i) h (h.grow i r):=⟨bS _,bS _,λ_ _ _=>rfl,λD _ aa=>Ye aa⟩;exact⟨dX,eb,cK.fs x (λ_ _ h=>h) (λD aa e=>a3 (e ▸ aa)),c2.then x (λ_ h=>h.elim) (λD e=>.inr (by rw[e];exact aP)),f2,fV,jJ,hN⟩
theorem hl.Lc(m:hl am ah ao b h G C cA)(c:∀dX eb,gE h dX eb b G->(∀k,k<am.n->¬ah k->¬dX k)->(∀k∈C,¬dX k)->∃E,cn E/\ic h dX eb b E ei):∃E,cn E/\hl am ah ao b E ei C cA/\(∀k∈C,E.cell k=h.cell k)/\(∀k,k<am.n->¬ah k->E.cell k=h.cell k)/\(∀D∈cA,E.hw D=h.hw D):=by
 obtain⟨dX,eb,cK,c2,f2,fV,jJ,hN⟩:=m;obtain⟨E,r,nH,nI,et,c3,f3,uK⟩:=c dX eb cK (λk ab cW J=>by
  rcases f2 k J with h|h
  ·exact cW h
  ·omega) (λk ab=>(jJ k ab).2.2)
 have kF:=c2.then c3 f2 fV;refine⟨E,r,⟨nH,nI,et,kF,λk ab=>?_,λD aa=>?_,λk ab=>?_,λi ab=>?_⟩,λk ab=>c3.cell k (jJ k ab).2.1 (jJ k ab).2.2,λk ab cW=>?_,λD aa=>c3.hw D (hN D aa).2.1 (hN D aa).2.2⟩
 ·rcases f3 k ab with h|h
  ·exact f2 k h
  ·exact .inr (ee c2.n h)
 ·rcases uK D aa with h|h
  ·exact fV D h
  ·exact .inr (ee c2.ids h)
 ·obtain⟨aP,a2,a3⟩:=jJ k ab;refine⟨aP,eF a2 c3.n,λcW=>?_⟩;rcases f3 k cW with h|h
  ·exact a3 h
  ·omega
 ·obtain⟨aP,a2,a3⟩:=hN i ab;refine⟨aP,eF a2 c3.ids,λcW=>?_⟩;rcases uK i cW with h|h
  ·exact a3 h
  ·omega
 ·refine c3.cell k (eF ab c2.n) λGW=>?_;rcases f2 k GW with h|h
  ·exact cW h
  ·omega
theorem hl.call(m:hl am ah ao b h G C cA)(c:∀ah ao,gE h ah ao b G->∃E,cn E/\ic h ah ao b E ei):∃E,cn E/\hl am ah ao b E ei C cA/\(∀k∈C,E.cell k=h.cell k)/\(∀k,k<am.n->¬ah k->E.cell k=h.cell k)/\(∀D∈cA,E.hw D=h.hw D):=m.Lc λdX eb g _ _=>c dX eb g
def uN(e:aU)(cA:List Nat)(h:ad)(v:I)(acc:List (List I)):Prop:=(acc=[]/\v= .aC)\/∃id,id∈cA/\acc≠[]/\h.hw id=acc.length/\v= .bN (j id) e acc
theorem uN.Bj{v:I}{acc:List (List I)}(a:uN e cA h v acc):fH e v acc:=by
 rcases a with a|⟨id,_,_,_,rfl⟩
 ·exact .inl a
 ·exact .inr ⟨_,rfl⟩
theorem uN.cell{v:I}{acc:List (List I)}(a:uN e cA h v acc):v.one=Q/\v.cells=[v]:=by rcases a with⟨_,rfl⟩|⟨id,_,_,_,rfl⟩<;>exact⟨rfl,rfl⟩
theorem uN.fs{v:I}{acc:List (List I)}(a:uN e cA h v acc)(ab:∀D∈cA,E.hw D=h.hw D):uN e cA E v acc:=by
 rcases a with a|⟨id,aP,a2,a3,a4⟩
 ·exact .inl a
 ·exact .inr ⟨id,aP,a2,(ab id aP).trans a3,a4⟩
theorem arp{v:I}{acc:List (List I)}(m:hl am ah ao b h G C cA)(aN:uN e cA h v acc)(F:row.all I.one=Q)(ai:acc.length<=1000000):∃bg E adH,e0 R e v (.bN (j h.ids) e [row]) (h.fresh 1)=j (bg,E)/\uN e adH E bg (acc++[row])/\hl am ah ao b E G C adH/\E.cell=h.cell/\E.n=h.n:=by
 have n8:∀x,x∈row->x.one=Q:=by simpa using F
 rcases aN with⟨rfl,rfl⟩|⟨id,aP,a2,a3,rfl⟩
 ·refine⟨.bN (j (h.ids+1)) e [row],(h.fresh 1).fresh 1,(h.ids+1)::h.ids::cA,?_,.inr ⟨h.ids+1,by simp,by simp,by simp[ad.fresh],by simp⟩,(m.fresh 1).fresh 1,rfl,rfl⟩;simp only[e0,js,if_true,da,fS,Nat.one_ne_zero,if_false,kW];rw[if_pos ⟨by omega,by omega,by simpa using n8⟩];rfl
 ·have bt:id<h.ids:=by obtain⟨_,_,_,_,_,_,_,ae⟩:=m;exact(ae id aP).2.1
  have cP:id≠h.ids:=by omega
  refine⟨.bN (j id) e (acc++[row]),(h.fresh 1).grow id (acc.length+1),h.ids::cA,?_,.inr ⟨id,by simp[aP],by simp,by simp[ad.grow],rfl⟩,(m.fresh 1).grow (by simp[aP]) _,rfl,rfl⟩;simp only[e0,js,if_true,da,fS,Nat.one_ne_zero,if_false,kW];rw[if_pos ⟨by omega,by omega,by simpa using n8⟩,FA cP,a3];simp only[true_and,ai,if_true]
end
theorem arq{x:BitVec 64}:Cf x.toInt 4=gO x.toInt 2:=by
 have aB:(4:Int)=(4#64).toInt:=by decide
 rw[aB,UA,aaT x (by omega)];have e:(4#64)=BitVec.twoPow 64 2:=by decide
 cases ag:x.getLsbD 2
 ·refine decide_eq_false λh=>?_;have:=congrArg (λv:BitVec 64=>v.getLsbD 2) h;simp only[BitVec.getLsbD_and,ag,Bool.false_and]at this;exact absurd this (by decide)
 ·refine decide_eq_true (BitVec.eq_of_getLsbD_eq λi ae=>?_);rw[BitVec.getLsbD_and,e,BitVec.getLsbD_twoPow];by_cases J:2=i
  ·subst J;simp[ag]
  ·simp[J]
section
variable{h:ad}{ah ao:Nat->Prop}{b:Nat}{G:be}
abbrev xP:aU:=252
theorem adI{C:AD}{aI:Nat}{d:oZ}{bI:List aH}{k:List RK}{L:List I}{q:aU}{v:I}:bu C aI (.ops (.i d (.yK (.l 0))::bI)::k) V (.iface q v::L) h=j (.panic (.iface q v),V,h):=yS rfl
theorem ars(c:Int):aM ak T 178 [.bool Q,.int o c] h=j (.inr (.iface xP (.int o c)),h):=by refine bd acF rfl ?_;unfold QS;simp only[ap,aw,aA,ar,Fo,adI,vt (aK.refl h) (rfl:dP (.iface xP (.int o c))=_)]
theorem art(c:Int):aM ak T 178 [.bool R,.int o c] h=j (.inl (.bx []),h):=by refine bd acF rfl ?_;unfold QS;simp only[ap,aw,aA,ar,e8 (aK.refl h) (rfl:dP (.bx [])=_)]
theorem aru(g:be)(d':g.dE)(i:Int):aM ak T 166 [.int o (g.fm i),.int o 4] h=j (.inl (.bool (gO (g.fm i) 2)),h):=by
 obtain⟨x,an⟩:=acM d' i;have e:Cf (g.fm i) 4=gO (g.fm i) 2:=by rw[an];exact arq
 rw[<-e];refine bd acE rfl ?_;unfold QR;simp only[ap,aw,aA,ar];rfl
def Rv(aV:List Int)(G:be)(n:Int)(q:I⊕I):Prop:=((lk aV G n).2.2=0/\q= .inl (.int o (lk aV G n).2.1))\/((lk aV G n).2.2≠0/\q= .inr (.iface xP (.int o (lk aV G n).2.2)))
theorem arv(k:Int)(l:List Int)(G:be)(n:Int):lk (k::l) G n=if(G.derive n 15 k).2.2≠0 then((G.derive n 15 k).1,0,(G.derive n 15 k).2.2)else lk l (G.derive n 15 k).1 (G.derive n 15 k).2.1:=rfl
theorem arw{m:Nat}(g:gE h ah ao b G)(d':G.dE)(hm:m<h.n)(cW:¬ah m)(al:h.cell m=j [[.ptr b 0 0,cN]])(a7:hY 3 cN (gn aV))(ab:aV.length<=1000000)(n:Int):∃q E,aM ak T 168 [.ptr m 0 0,.int o n] h=j (q,E)/\(Rv aV G n q/\ic h ah ao b E (lk aV G n).1):=by
 have ai:=a7.len;have bn:=a7.fits;rw[gG]at ai;refine F3 (fc:=λq E=>Rv aV G n q/\ic h ah ao b E (lk aV G n).1) apT rfl λb' iR eJ=>?_;unfold acG;simp only[ap,aw,aA,ar,al,ai,bn];refine td (λi V E=>∃v3 v4 v5 v9 ei b4,V=[.ptr m 0 0,.int o b4,.int o 0,v3,v4,v5,cN,.int o aV.length,.int o (i:Nat),v9]/\ei.dE/\hl h ah ao b E ei [] []/\lk (aV.drop i) ei b4=lk aV G n) aV.length ⟨_,_,_,_,G,n,rfl,d',hl.start g,rfl⟩ ?_ ?_
 ·rintro i V E ae ⟨v3,v4,v5,v9,ei,b4,rfl,xQ,a',he⟩ next
  have bt:(i:Int)<(aV.length:Int):=by omega
  have hw:=gD (n:=(i:Int)+1) (by omega) (by omega);obtain⟨k,oT⟩:∃k,aV[i]? =j k:=⟨_,gd ae⟩;have eW:=a7.bR o i [.int o k] (by simp[oT]);have a1:aV.drop i=k::aV.drop (i+1):=by obtain⟨ev,rfl⟩:=fR.1 oT;exact List.drop_eq_getElem_cons ev
  have sR:E.cell m=j [[.ptr b 0 0,cN]]:=(a'.fu hm cW).trans al;obtain⟨J,ax,wh, -, -, -⟩:=a'.call λah ao g=>adC g xQ b4 15 k;rw[a1,arv]at he;by_cases aR:(ei.derive b4 15 k).2.2=0
  ·rw[if_neg (by simp[aR])]at he;have re:=λh=>art (h:=h) 0;rw[aR]at ax;rw[dd KH.eq_1];simp only[ap,aw,aA,ar,cz,bt,eW,sR,ax,re,hw];exact next _ _ ⟨_,_,_,_,_,_,rfl,xQ.derive _ _ _,wh,he⟩
  ·rw[if_pos aR]at he;have re:=λh=>ars (h:=h) (ei.derive b4 15 k).2.2;rw[dd KH.eq_1];simp only[ap,aw,aA,ar,cz,bt,eW,sR,ax,aR,re];refine eJ _ _ _ ⟨.inr ?_,?_⟩
   ·rw[<-he];exact⟨aR,rfl⟩
   ·rw[<-he];exact wh.zh
 ·rintro V E ⟨v3,v4,v5,v9,ei,b4,rfl,xQ,a',he⟩;have bt:¬(aV.length:Int)<(aV.length:Int):=by omega
  rw[List.drop_length]at he;rw[dd KH.eq_1];simp only[ap,aw,aA,ar,cz,bt];refine iR _ _ _ rfl ⟨.inl ?_,?_⟩
  ·rw[<-he];exact⟨rfl,rfl⟩
  ·rw[<-he];exact a'.zh
theorem arx{G:be}(d':G.dE)(l:List Int):∀(i:Nat) (n:Int),l[i]? =j n->(l.drop i).any (λn=> !gO (G.fm n) 2)=(!gO (G.fm n) 2||(l.drop (i+1)).any λn=> !gO (G.fm n) 2):=by intro i n aq;obtain⟨ae,rfl⟩:=fR.1 aq;rw[List.drop_eq_getElem_cons ae,List.any_cons]
theorem adJ{x:ay}(h:x.code=0):x.size<=40:=by
 unfold ay.code at h;split at h
 ·cases h
 ·omega
theorem ary(g:gE h ah ao b G)(d':G.dE){x:ay}{r:List I}(an:ck x r):aM ak T 155 [.ptr b 0 0,.agg r] h=j (.inl (.int o (rz G x)),h):=by
 obtain⟨bO,bC⟩:=an.one;have av:=λh=>KN (h:=h) an;unfold rz;by_cases al:x.code=0
 ·have az:=adJ al;have ax:=λh=>ap8 _ x (bS _) (by omega) r h an;rw[if_neg (by simp[al])];cases gc:x.gate
  ·have bs:=λh=>ap2 _ x (bS _) (by omega) r h an;have Rw:=xm 3 (gn x.gj);have ai:=Rw.len;have bn:=Rw.fits;rw[gG]at ai;have nK:=x.Na;simp only[gc]at ax;simp only[nx,if_false];refine jn QW rfl λb' cf=>?_;unfold KL;simp only[ap,aw,aA,ar,bO,bC,jP bC,av,al,ax,bs,ai,bn];refine td (λi V E=>∃v5 v11 v12,V=[.ptr b 0 0,.agg r,.ptr h.n 0 0,.int o 0,.int o 0,v5,.bool R,.bool R,e4 3 (gn x.gj),.int o x.gj.length,.int o (i:Nat),v11,v12]/\aK h E/\(x.gj.drop i).any (λn=> !gO (G.fm n) 2)=x.gj.any λn=> !gO (G.fm n) 2) x.gj.length ⟨_,_,_,rfl,(by repeat (first|exact aK.refl _|refine aK.trans ?_ (aK.push _ _)|refine aK.trans ?_ (aK.fresh _ _))),rfl⟩ ?_ ?_
   ·rintro i V E ae ⟨v5,v11,v12,rfl,Bk,he⟩ next
    have bt:(i:Int)<(x.gj.length:Int):=by omega
    have hw:=gD (n:=(i:Int)+1) (by omega) (by omega);obtain⟨n,aq⟩:∃n,x.gj[i]? =j n:=⟨_,gd ae⟩;have eW:=Rw.bR o i [.int o n] (by simp[aq]);have cq:=aa3 (g.hS Bk) d' n;have eX:=λh=>aru (h:=h) G d' n;rw[arx d' _ _ _ aq]at he;cases ag:gO (G.fm n) 2
    ·rw[ag]at he;simp only[ag]at eX;rw[dd KI.eq_1];simp only[ap,aw,aA,ar,cz,bt,eW,cq,eX];refine cf _ _ _ rfl Bk ?_;rw[<-he];rfl
    ·rw[ag]at he;simp only[ag]at eX;rw[dd KI.eq_1];simp only[ap,aw,aA,ar,cz,bt,eW,cq,eX,hw];exact next _ _ ⟨_,_,_,rfl,Bk,he⟩
   ·rintro V E ⟨v5,v11,v12,rfl,Bk,he⟩;have bt:¬(x.gj.length:Int)<(x.gj.length:Int):=by omega
    rw[List.drop_length]at he;rw[dd KI.eq_1];simp only[ap,aw,aA,ar,cz,bt];refine cf _ _ _ rfl Bk ?_;rw[<-he];rfl
  ·simp only[gc]at ax;simp only[if_true];refine jn QW rfl λb' cf=>?_;unfold KL;simp only[ap,aw,aA,ar,bO,bC,jP bC,av,al,ax];exact cf _ _ _ rfl (by repeat (first|exact aK.refl _|refine aK.trans ?_ (aK.push _ _)|refine aK.trans ?_ (aK.fresh _ _))) rfl
 ·rw[if_pos al];refine jn QW rfl λb' cf=>?_;unfold KL;simp only[ap,aw,aA,ar,bO,bC,jP bC,av,al];exact cf _ _ _ rfl (by repeat (first|exact aK.refl _|refine aK.trans ?_ (aK.push _ _)|refine aK.trans ?_ (aK.fresh _ _))) rfl
end
section
variable{h:ad}{ah ao:Nat->Prop}{b:Nat}{G:be}
def GX(aV:List Int)(G:be)(x:ay)(q:I⊕I):Prop:=((g6 aV x G).2.2=0/\∃bZ,q= .inl (.agg bZ)/\ck (g6 aV x G).2.1 bZ)\/((g6 aV x G).2.2≠0/\q= .inr (.iface xP (.int o (g6 aV x G).2.2)))
theorem arz(aV:List Int)(x:ay)(l:List ay)(G:be):gx aV (x::l) G=if(g6 aV x G).2.2≠0 then((g6 aV x G).1,[],(g6 aV x G).2.2) else((gx aV l (g6 aV x G).1).1,(g6 aV x G).2.1::(gx aV l (g6 aV x G).1).2.1,(gx aV l (g6 aV x G).1).2.2):=rfl
theorem arA{i:Nat}{y:ay}(h:l[i]? =j y):l.drop i=y::l.drop (i+1):=by obtain⟨ae,rfl⟩:=fR.1 h;exact List.drop_eq_getElem_cons ae
theorem arB{m:Nat}(a7:hY 3 cN (gn aV))(ab:aV.length<=1000000):∀(N:Nat) (x:ay),mV x<=N->x.size<=100000->∀(r:List I) (h:ad) (ah ao:Nat->Prop) (G:be),gE h ah ao b G->G.dE->m<h.n->¬ah m->h.cell m=j [[.ptr b 0 0,cN]]->ck x r->∃q E,aM ak T 157 [.ptr m 0 0,.agg r] h=j (q,E)/\(GX aV G x q/\ic h ah ao b E (g6 aV x G).1):=by
 intro N;induction N with
 |zero=>intro x an;have:=x.pZ;omega
 |succ N aW=>
   intro x an dY r h ah ao G g d' hm cW al he;obtain⟨v,es,rfl,gp,U,aq,hG⟩:=he.facts;have hlen:=x.yl;have k':=UE aV x G;have rest:∀(b':k3->Prop) (F:ad) (r9:be) (ep:Int) (cA:List Nat) (v6:I),r9.dE->hl h ah ao b F r9 [h.n+1+1,h.n+1,h.n] cA->F.cell h.n=j [[.int o x.kind,.int o x.n,v]]->F.cell (h.n+1)=j [[.int o 0,.int o 0,.aC]]->F.cell (h.n+1+1)=j [[.int o x.kind,.int o ep,.aC]]->(∀V E v,(iS V E [.cell Q 3 3]).map iY=j v->(gx aV x.l r9).2.2=0->(∃bZ,v= .agg bZ/\ck (.mk x.kind ep (gx aV x.l r9).2.1) bZ)->ic h ah ao b E (gx aV x.l r9).1->b' (j (.ret,V,E)))->(∀V E,(gx aV x.l r9).2.2≠0->ic h ah ao b E (gx aV x.l r9).1->b' (j (.panic (.iface xP (.int o (gx aV x.l r9).2.2)),V,E)))->b' (bu (aM ak T) 11 (.ff Gy::.bQ []::.b1 0::[.bQ [.ops [r3,Dy],.ret]]) [.ptr m 0 0,.agg [.int o x.kind,.int o x.n,v],.ptr h.n 0 0,.ptr (h.n+1) 0 0,.ptr (h.n+1+1) 0 0,.aD,v6,v,.int o es.length,.int o 0,.aD] [] F):=by
    intro b' F r9 ep cA v6 arC Rx d1 d2 d3 iR eJ;refine td (λi V E=>∃v5 v10 acc rows C cA ei dR,V=[.ptr m 0 0,.agg [.int o x.kind,.int o x.n,v],.ptr h.n 0 0,.ptr (h.n+1) 0 0,.ptr (h.n+1+1) 0 0,v5,v6,v,.int o es.length,.int o (i:Nat),v10]/\ei.dE/\(hl h ah ao b E ei C cA/\h.n+1+1∈C/\h.n+1∈C/\h.n∈C)/\E.cell (h.n+1)=j [[.int o 0,.int o 0,.aC]]/\E.cell (h.n+1+1)=j [[.int o x.kind,.int o ep,acc]]/\uN cD cA E acc rows/\fb dR rows/\rows.length=i/\gx aV x.l r9=((gx aV (x.l.drop i) ei).1,dR++(gx aV (x.l.drop i) ei).2.1,(gx aV (x.l.drop i) ei).2.2)) x.l.length ⟨_,_,_,[],_,cA,r9,[],rfl,arC,⟨Rx,by simp,by simp,by simp⟩,d2,d3,.inl ⟨rfl,rfl⟩,rfl,rfl,rfl⟩ ?_ ?_
    ·rintro i V E ae ⟨v5,v10,acc,rows,C,cA,ei,dR,rfl,xQ,⟨a',m1,cR,h5⟩,c2,c3,aN,aj,Ry,aE⟩ next
     have bt:(i:Int)<(es.length:Int):=by rw[aq];omega
     obtain⟨y,bq⟩:=Bc ae;obtain⟨q,eW,g5,bY⟩:=hG i y bq;obtain⟨bO,bC⟩:=bY.one;have hw:=gD (n:=(i:Int)+1) (by omega) (by omega);have GY:=a'.push [q];have sR:(E.push [q]).cell m=j [[.ptr b 0 0,cN]]:=(GY.fu hm cW).trans al;have g8:(E.push [q]).cell (h.n+1)=j [[.int o 0,.int o 0,.aC]]:=(eG (a'.lt cR)).trans c2;have ia:(E.push [q]).cell (h.n+1+1)=j [[.int o x.kind,.int o ep,acc]]:=(eG (a'.lt m1)).trans c3;have Rz:uN cD cA (E.push [q]) acc rows:=aN;obtain⟨J,⟨bM,ax,bK⟩,wh,c8,c6,fN⟩:=GY.Lc (cn:=λJ=>∃bM,aM ak T 157 [.ptr m 0 0,.agg q] (E.push [q])=j (bM,J)/\GX aV ei y bM) (ei:=(g6 aV y ei).1) λdX eb cK GW _=>by obtain⟨bM,J,ax,bK,d2⟩:=aW y (by have:=ay.pj (q9 bq);omega) (by have:=ay.tI (q9 bq);omega) q (E.push [q]) dX eb ei cK xQ (by have:=a'.n;simp only[ek];omega) (GW m hm cW) sR bY;exact⟨J,⟨bM,ax,bK⟩,d2⟩
     rw[arA bq,arz]at aE;have f2:J.cell (h.n+1)=j [[.int o 0,.int o 0,.aC]]:=(c8 _ (by simp[cR])).trans g8;have f3:J.cell (h.n+1+1)=j [[.int o x.kind,.int o ep,acc]]:=(c8 _ (by simp[m1])).trans ia;rcases bK with⟨aR,bZ,rfl,db⟩|⟨aR,rfl⟩
     ·rw[if_neg (by simp[aR])]at aE;obtain⟨dj,eQ⟩:=db.one;obtain⟨o',af,arD,bs,aP,GZ,a3,a4⟩:=arp (e:=cD) wh (Rz.fs fN) (row:=bZ) dj (by rw[Ry];omega);obtain⟨Bl,Ld⟩:=aP.cell;rw[dd Gy.eq_1];simp only[ap,aw,aA,ar,cz,bt,eW,g5,bO,bC,ia,ax,f3,dj,eQ,bs,a3,Bl,Ld,hw];refine next _ _ ⟨_,_,_,_,_,arD,_,dR++[(g6 aV y ei).2.1],rfl,Ck aV y ei xQ,⟨GZ.set (by simp[m1]) _,by simp[m1],by simp[cR],by simp[h5]⟩,?_,i7,aP.fs λ_ _=>rfl,aj.append db,by simp[Ry],?_⟩
      ·rw[dL (by omega),a3];exact f2
      ·rw[aE];simp
     ·rw[if_pos aR]at aE;rw[dd Gy.eq_1];simp only[ap,aw,aA,ar,cz,bt,eW,g5,bO,bC,ia,ax];have bT:(gx aV x.l r9).2.2=(g6 aV y ei).2.2:=by rw[aE]
      have bM:(gx aV x.l r9).1=(g6 aV y ei).1:=by rw[aE]
      rw[<-bT]at aR ⊢;exact eJ _ _ aR (by rw[bM];exact wh.zh)
    ·rintro V E ⟨v5,v10,acc,rows,C,cA,ei,dR,rfl,xQ,⟨a',m1,cR,h5⟩,c2,c3,aN,aj,Ry,aE⟩;have bt:¬((x.l.length:Int)<(es.length:Int)):=by rw[aq];omega
     rw[List.drop_length]at aE;simp only[gx,me]at aE;obtain⟨Bl,Ld⟩:=aN.cell;rw[dd Gy.eq_1];simp only[ap,aw,aA,ar,cz,bt,c3,c2,Bl];refine iR _ _ (.agg [.int o x.kind,.int o ep,acc]) (by simp only[ap,dw,ey,g3,da,uO,List.getD_cons_succ]) ?_ ⟨_,rfl,?_⟩ ?_
     ·rw[aE]
     ·rw[aE];exact ck.mk (x:=.mk x.kind ep dR) aN.Bj aj
     ·rw[aE];exact(a'.set cR _).zh
   have mY:=((hl.start g).push [[.int o x.kind,.int o x.n,v]]).push [[.int o 0,.int o 0,.aC]];have m1:=mY.push [[.int o x.kind,.int o x.n,.aC]];have jU:(((h.push [[.int o x.kind,.int o x.n,v]]).push [[.int o 0,.int o 0,.aC]]).push [[.int o x.kind,.int o x.n,.aC]]).cell m=j [[.ptr b 0 0,cN]]:=(m1.fu hm cW).trans al;refine F3 (fc:=λq E=>GX aV G x q/\ic h ah ao b E (g6 aV x G).1) apU rfl λb' iR eJ=>?_;unfold acJ;by_cases aB:x.kind=4
   ·have bz:jf aV G x.kind x.n=lk aV G x.n:=by rw[jf,if_pos aB]
    rw[bz]at k';rw[aB]at m1 jU rest;obtain⟨J,⟨bM,ax,bK⟩,wh,c8,c6,fN⟩:=m1.Lc (cn:=λJ=>∃bM,aM ak T 168 [.ptr m 0 0,.int o x.n] _=j (bM,J)/\Rv aV G x.n bM) (ei:=(lk aV G x.n).1) λdX eb cK GW _=>by obtain⟨bM,J,ax,bK,d2⟩:=arw cK d' (by simp only[ek];omega) (GW m hm cW) jU a7 ab x.n;exact⟨J,⟨bM,ax,bK⟩,d2⟩
    have f1:J.cell h.n=j [[.int o 4,.int o x.n,v]]:=(c8 _ (by simp[ek])).trans xn;have f2:J.cell (h.n+1)=j [[.int o 0,.int o 0,.aC]]:=(c8 _ (by simp[ek])).trans AK;have f3:J.cell (h.n+1+1)=j [[.int o 4,.int o x.n,.aC]]:=(c8 _ (by simp[ek])).trans AJ;rw[aB]at k';rcases bK with⟨aR,rfl⟩|⟨aR,rfl⟩
    ·rw[if_neg (by simp[aR])]at k';simp only[ap,aw,aA,ar,ct,U,aB,ax,f1,f3,dL (show h.n≠h.n+1+1 by omega),gp.len,gp.fits];refine rest b' _ (lk aV G x.n).1 (lk aV G x.n).2.1 _ _ (UF aV G x.n d') (wh.set (by simp[ek]) _) ?_ ?_ i7 (λV E bg e og aj a1=>?_) (λV E og a1=>?_)
     ·rw[dL (by omega)];exact f1
     ·rw[dL (by omega)];exact f2
     ·obtain⟨bZ,rfl,aj⟩:=aj;rw[if_neg (by simp[og])]at k';refine iR _ _ _ e ⟨.inl ⟨by rw[k'],bZ,rfl,by rw[k'];exact aj⟩,by rw[k'];exact a1⟩
     ·rw[if_pos og]at k';refine eJ _ _ _ ⟨.inr ⟨by rw[k'];exact og,by rw[k']⟩,by rw[k'];exact a1⟩
    ·rw[if_pos aR]at k';simp only[ap,aw,aA,ar,ct,U,aB,ax];refine eJ _ _ _ ⟨.inr ⟨by rw[k'];exact aR,by rw[k']⟩,by rw[k'];exact wh.zh⟩
   ·have bz:jf aV G x.kind x.n=(G,x.n,0):=by rw[jf,if_neg aB]
    rw[bz]at k';rw[if_neg (by simp)]at k';simp only[ap,aw,aA,ar,ct,U,aB,gp.len,gp.fits];refine rest b' _ G x.n _ _ d' m1 xn AK AJ (λV E bg e og aj a1=>?_) (λV E og a1=>?_)
    ·obtain⟨bZ,rfl,aj⟩:=aj;rw[if_neg (by simp[og])]at k';refine iR _ _ _ e ⟨.inl ⟨by rw[k'],bZ,rfl,by rw[k'];exact aj⟩,by rw[k'];exact a1⟩
    ·rw[if_pos og]at k';refine eJ _ _ _ ⟨.inr ⟨by rw[k'];exact og,by rw[k']⟩,by rw[k'];exact a1⟩
theorem qq:ck cp [.int o 0,.int o 0,.aC]:=by simp only[cp,ck];exact⟨_,[],rfl,.inl ⟨rfl,rfl⟩,rfl⟩
end
def Bm(bp aG bh:Nat)(left:Int):b2:=bm bp [[.ptr aG 0 0,.br bh 0 0 fk,.int o left]]
section
variable{h E am:ad}{ah ao aL aF:Nat->Prop}{L:List b2}{bp aG bh:Nat}{left:Int}{below:List h2}{top:h2}
theorem RA:∀{rs:List (List I)} {dM:List h2} {r:List I} {f:h2} {h:ad} {ah ao:Nat->Prop},rs.length=dM.length->((r2 (rs++[r]) (dM++[f])).A h ah ao↔(hj (A1 r f) (r2 rs dM)).A h ah ao)
 |[],[],r,f,h,ah,ao,_=>mN
 |q::rs,g::dM,r,f,h,ah,ao,ai=>by
   have aW:∀{h:ad} {ah ao:Nat->Prop},(r2 (rs++[r]) (dM++[f])).A h ah ao↔(hj (A1 r f) (r2 rs dM)).A h ah ao:=RA (by simpa using ai);constructor
   ·intro x;exact mp (tf (λ_ _ _ y=>y) (λ_ _ _ y=>aW.1 y) x)
   ·intro x;exact tf (λ_ _ _ y=>y) (λ_ _ _ y=>aW.2 y) (mp x)
 |[],_::_,_,_,_,_,_,ai=>by simp at ai
 |_::_,[],_,_,_,_,_,ai=>by simp at ai
structure RB(h:ad)(bp aG bh:Nat)(left:Int)(below:List h2)(top:h2)(a:List I)(ea aI g:I):Prop where
 m:h.cell bp=j [[.ptr aG 0 0,.br bh 0 (below.length+1) fk,.int o left]]
 aAM:bp<h.n
 rd:∀(n D:Nat) (v:I),(gu top a ea aI g)[D]? =j v->cO R n h (.ptr bh below.length D)=j v
 arg:cO Q 3 h (.ptr bh below.length 3)=j (.agg a)
 all:cO Q 10 h (.ptr bh below.length 0)=j (.agg (gu top a ea aI g))
 aN:ck top.arg a
 a7:fH 3 g (gn top.ec)
 ea:ea.one=Q/\ea.cells=[ea]/\gY ea=j top.stack.length/\∀s,ko s (j cD) ea=Q
 aI:aI.one=Q/\aI.cells=[aI]/\gY aI=j top.names.length/\(∀s,ko s (j cD) aI=Q)/\∀(q:kf) (i:Nat) (y:ay),top.names[i]? =j y->∃p r,fg (j cD) Z aI (.int q (i:Int))=j p/\cO Q 3 h p=j (.agg r)/\ck y r
 arE:bh<h.n
theorem pa(eR:aQ am aL aF h L)(i:Nat)(ae:L[i]? =j (iJ bp aG bh left below top)):∃a ea aI g,RB h bp aG bh left below top a ea aI g:=by
 obtain⟨ah,ao,x⟩:=eR.get i ae;obtain⟨rs,ex,a,ea,aI,g,gB,aN,a7,s⟩:=A2 x;have bT:=(s.cell 1 rfl).1;have hT:=oq top a ea aI g aN.dx.1;obtain⟨eH,eI,bY⟩:=s.get 2 rfl;obtain⟨dX,eb,db⟩:=s.get 3 rfl;have b0:=jp bY;have bK:=jp db;refine⟨a,ea,aI,g,(s.cell 0 rfl).1,(s.cell 0 rfl).2,λn D v U=>GD bT gB U,?_,?_,aN,a7,⟨b0.1,b0.2.1,b0.2.2.1,b0.2.2.2.1⟩,bK,(s.cell 1 rfl).2⟩
 ·rw[gm,bT,da,GC gB,da];unfold gX;rw[if_pos rfl,if_pos (by rw[hT.2.1];decide)]
  match a,aN.dx.1 with
  |[x,y,z],_=>rfl
 ·rw[gm,bT,da,GC gB,da];exact jP hT.2.1
theorem RC(eR:aQ am aL aF h L)(i:Nat)(ae:L[i]? =j (iJ bp aG bh left below top))(bo:Nat):∃E,eN 1 h (.ptr bh below.length 2) (.int o (bo:Int))=j E/\aQ am aL aF E (L.set i (iJ bp aG bh left below {top with bo:=bo})):=by refine eR.call (cn:=λE=>eN 1 h (.ptr bh below.length 2) (.int o (bo:Int))=j E) i ae λah ao x=>?_;obtain⟨rs,ex,a,ea,aI,g,gB,aN,a7,s⟩:=A2 x;have hT:=oq top a ea aI g aN.dx.1;have aj:(gu top a ea aI g).set 2 (.int o (bo:Int))=gu {top with bo:=bo} a ea aI g:=rfl;have aY:=s.set 1 rfl (rs++gu {top with bo:=bo} a ea aI g::ex);exact⟨_,KQ (s.cell 1 rfl).1 gB rfl rfl (by rw[hT.2.1];decide) aj,Dx (top:={top with bo:=bo}) aN a7 aY⟩
theorem arF(eR:aQ am aL aF h L)(i:Nat)(ae:L[i]? =j (iJ bp aG bh left below top))(l:Int):∃E,eN 1 h (.ptr bp 0 2) (.int o l)=j E/\aQ am aL aF E (L.set i (iJ bp aG bh l below top)):=by refine eR.call (cn:=λE=>eN 1 h (.ptr bp 0 2) (.int o l)=j E) i ae λah ao x=>?_;obtain⟨rs,ex,a,ea,aI,g,gB,aN,a7,s⟩:=A2 x;have aY:=s.set 0 rfl [[.ptr aG 0 0,.br bh 0 (below.length+1) fk,.int o l]];exact⟨_,lV (s.cell 0 rfl).1 rfl rfl rfl (by simp),Dx aN a7 aY⟩
theorem adK(f:h2)(a:List I)(s n g b4:I)(kG:List ay)(aN:a.length=3):(gu f a s n g).set 7 b4=gu {f with names:=kG} a s b4 g:=by
 match a,aN with
 |[x,y,z],_=>rfl
theorem arG(eR:aQ am aL aF h L)(i:Nat)(ae:L[i]? =j (iJ bp aG bh left below top)){kG:List ay}{v:ay}(aq:top.names=kG++[v]){a:List I}{ea aI g:I}(U:RB h bp aG bh left below top a ea aI g):∃mR E,ku aI Z (j (.int o (kG.length:Int)))=j mR/\mR.one=Q/\mR.cells=[mR]/\eN 1 h (.ptr bh below.length 7) mR=j E/\aQ am aL aF E (L.set i (iJ bp aG bh left below {top with names:=kG})):=by
 obtain⟨E,mR,⟨av,ax,bs,cq⟩,eD⟩:=eR.uF (cn:=λE mR=>ku aI Z (j (.int o (kG.length:Int)))=j mR/\mR.one=Q/\mR.cells=[mR]/\eN 1 h (.ptr bh below.length 7) mR=j E) i ae (Y:=λ_=>iJ bp aG bh left below {top with names:=kG}) λah ao x=>by
  obtain⟨rs,ex,dZ,zi,mR,fJ,gB,aN,a7,s⟩:=A2 x;have hT:=oq top dZ zi mR fJ aN.dx.1;have uP:=GD (n:=1) (s.cell 1 rfl).1 gB hT.2.2.1;have tp:=U.rd 1 7 aI (oq top a ea aI g U.aN.dx.1).2.2.1;rw[uP]at tp;injection tp with tp;subst tp;obtain⟨eH,eI,bY⟩:=s.get 3 rfl;rw[aq]at bY;obtain⟨b,ag⟩:=abg bY (by simp);rw[dy,fS]at ag;subst ag;have aY:=s.set 1 rfl (rs++gu {top with names:=kG} dZ zi (.br b 0 kG.length cD) fJ::ex);have bf:aQ h ah ao _ (F' bp aG bh left below {top with names:=kG} rs ex dZ zi (.br b 0 kG.length cD) fJ):=aY.abh 3 rfl λ_ _ _ x=>by rw[aq]at x;exact abf x
  exact⟨_,.br b 0 kG.length cD,⟨Q0 (by omega),rfl,rfl,KQ (s.cell 1 rfl).1 gB rfl rfl (by rw[hT.2.1];decide) (adK _ _ _ _ _ _ kG aN.dx.1)⟩,Dx (top:={top with names:=kG}) aN a7 bf⟩
 exact⟨mR,E,av,ax,bs,cq,eD⟩
theorem adL{b n:Nat}(x:(i' (.br b 0 n cD) l).A h ah ao){i:Nat}(ae:i<l.length){v:ay}{r:List I}(U:ck v r):∃E,eN 3 h (.ptr b i 0) (.agg r)=j E/\en h ah ao E (i' (.br b 0 n cD) (l.set i v)):=by
 obtain⟨rows,ai,x⟩:=x;have hlen:=ai.len;rcases x with⟨⟨_,e⟩,_⟩|⟨⟨c1,es⟩,⟨e,F,J⟩,aP,a2,a3,a4⟩
 ·cases e
 ·injection e with av _ ax _;simp only at av F J aP a3 a4;subst av;have arH:i<rows.length:=by omega
  have IJ:i<es.length:=by omega
  obtain⟨q,aE⟩:∃q,es[i]? =j q:=⟨_,gd IJ⟩;have ym:q.length=3:=by
   have bw:rows[i]? =j q:=by
    conv=>lhs;rw[J]
    rw[t' arH];exact aE
   obtain⟨y,bq⟩:∃y,l[i]? =j y:=⟨_,gd ae⟩;obtain⟨bZ,cc,cQ⟩:=ai.get bq;rw[bw]at cc;injection cc with cc;rw[cc];exact cQ.dx.1
  have bJ:dO q 0 r=r:=by unfold dO;rw[List.take_zero,j6,List.drop_of_length_le (by have:=U.dx.1;omega),me]
  have Rn:∀{l:List ay} {rows:List (List I)} {i:Nat},fb l rows->i<l.length->fb (l.set i v) (rows.set i r):=by
   intro l;induction l with
   |nil=>intro rows i _ ae;simp at ae
   |cons y l aW=>
     intro rows i ai ae;obtain⟨gS,rs,rfl,bT,bM⟩:=ai;cases i with
     |zero=>exact⟨r,rs,rfl,U,bM⟩
     |succ i=>exact⟨gS,rs.set i r,rfl,bT,aW bM (by simpa using ae)⟩
  refine⟨_,lV (es:=es) (e:=q) a4 aE U.dx.2 U.dx.1 (by omega),ah,ao,⟨rows.set i r,Rn ai ae,.inr ⟨⟨b,es.set i r⟩,⟨by simp only[List.length_set,ax],by simpa using F,?_⟩,aP,a2,a3,?_⟩⟩,⟨bS _,bS _,λk _ ab=>dL λe=>ab ((aP k).2 e),λ_ _ _=>rfl⟩,λ_=>.inl,λ_=>.inl⟩
  ·simp only[List.length_set];rw[List.take_set]
   conv=>lhs;rw[J]
  ·simp only[I.cells,bJ];exact i7
theorem adM{n b i off:Nat}{h:ad}{r:List I}(az:eN n h (.ptr b i off) (.agg r)=j E):cO Q n E (.ptr b i off)=j (.agg r):=by
 unfold eN at az;simp only[dt]at az;obtain⟨es,J,e,af,aB⟩:=az;split at aB
 ·rename_i al;injection aB with aB;subst aB;have ae:=(fR.1 af).1;have c2:=al.2.1;simp only[I.cells]at c2;rw[gm,i7,da,List.getElem?_set_self ae,da];have ai:=As e r off (by omega);simp only[I.cells,gX,if_true];have:((dO e off r).drop off).take n=r:=by unfold dO;rw[jA,List.drop_left' (by simp;omega),List.take_left' c2]
  rw[this];exact if_pos (by omega)
 ·cases aB
theorem arI(eR:aQ am aL aF h L)(i:Nat)(ae:L[i]? =j (iJ bp aG bh left below top)){v:ay}{r:List I}(U:ck v r)(ai:top.names.length<=1000000){jw:Nat}(aR:h.cell jw=j [bB]){a:List I}{ea aI g:I}(a':RB h bp aG bh left below top a ea aI g):∃q F J af,e0 Q cD aI (.br jw 0 1 cD) h=j (.br q 0 (top.names.length+1) cD,F)/\eN 3 F (.ptr q top.names.length 0) (.agg r)=j J/\eN 1 J (.ptr bh below.length 7) (.br q 0 (top.names.length+1) cD)=j af/\cO Q 3 af (.ptr q top.names.length 0)=j (.agg r)/\aQ am aL aF af (L.set i (iJ bp aG bh left below {top with names:=top.names++[v]})):=by
 have Ae:ck cp bB:=qq;obtain⟨af,⟨q,F,J⟩,⟨av,ax,bs,cq⟩,eD⟩:=eR.uF (cn:=λaf (q:Nat×ad×ad)=>e0 Q cD aI (.br jw 0 1 cD) h=j (.br q.1 0 (top.names.length+1) cD,q.2.1)/\eN 3 q.2.1 (.ptr q.1 top.names.length 0) (.agg r)=j q.2.2/\eN 1 q.2.2 (.ptr bh below.length 7) (.br q.1 0 (top.names.length+1) cD)=j af/\cO Q 3 af (.ptr q.1 top.names.length 0)=j (.agg r)) i ae (Y:=λ_=>iJ bp aG bh left below {top with names:=top.names++[v]}) λah ao x=>by
  obtain⟨rs,ex,dZ,zi,mR,fJ,gB,aN,a7,s⟩:=A2 x;have hT:=oq top dZ zi mR fJ aN.dx.1;have uP:=GD (n:=1) (s.cell 1 rfl).1 gB hT.2.2.1;have tp:=a'.rd 1 7 aI (oq top a ea aI g a'.aN.dx.1).2.2.1;rw[uP]at tp;injection tp with tp;subst tp;obtain⟨F,av,aY⟩:=s.app 3 rfl aR Ae ai;obtain⟨J,ax,bf⟩:=aY.call (cn:=λJ=>eN 3 F (.ptr h.n top.names.length 0) (.agg r)=j J) 3 rfl λah ao x=>adL x (i:=top.names.length) (by simp) U;rw[show(top.names++[cp]).set top.names.length v=top.names++[v] from Kc top.names [] cp v rfl]at bf;have st:=KQ (v:=.br h.n 0 (top.names.length+1) cD) (bf.cell 1 rfl).1 gB rfl rfl (by rw[hT.2.1];decide) (adK _ _ _ _ _ _ (top.names++[v]) aN.dx.1);have bP:=bf.set 1 rfl (rs++gu {top with names:=top.names++[v]} dZ zi (.br h.n 0 (top.names.length+1) cD) fJ::ex);obtain⟨r0,r1,f'⟩:=bP.get 3 rfl;obtain⟨p,bZ,dU,g8,ia⟩:=(jp f').2.2.2.2 o top.names.length v (P3 top.names [] v rfl);refine⟨_,(h.n,F,J),⟨av,ax,st,?_⟩,Dx (top:={top with names:=top.names++[v]}) aN a7 bP⟩;obtain⟨y3,y4,fP⟩:=bf.get 3 rfl;have cP:bh≠h.n:=by have:=(s.cell 1 rfl).2;omega
  rw[gm,dL (lo cP),<-gm (agg:=Q) (n:=3)];exact adM ax
 exact⟨q,F,J,af,av,ax,bs,cq,eD⟩
theorem RD(x:(iJ bp aG bh left below top).A h ah ao):∃rs ex row,rs.length=below.length/\row.length=10/\row.all I.one=Q/\aQ h ah ao h [bm bp [[.ptr aG 0 0,.br bh 0 (below.length+1) fk,.int o left]],bm bh (rs++row::ex),A1 row top,r2 rs below]:=by
 obtain⟨⟨rs,row,ex⟩,x⟩:=x;obtain⟨eH,eI,dX,eb,bY,⟨nH,nI,r0,r1,e3,⟨y3,y4,A3,A4,fP,ih,A5⟩,gU⟩,bK⟩:=x;have arJ:=fP;obtain⟨⟨a,s,n,g⟩,⟨e,aN,a7⟩,y⟩:=arJ;simp only at e;have hT:=oq top a s n g aN.dx.1;obtain⟨_,_,_,_,fv,fT,_⟩:=y;have lY:g.one=Q:=by have a7:fH _ g _:=a7;rcases a7 with⟨_,rfl⟩|⟨id,rfl⟩<;>rfl
 refine⟨rs,ex,row,P7 ih,by rw[e];exact hT.2.1,by rw[e];exact KP aN.dx (jp fv).1 (jp fT).1 lY,aQ.start ?_⟩;exact⟨eH,eI,dX,eb,bY,⟨nH,nI,r0,r1,e3,⟨y3,y4,A3,A4,fP,cX.one ih,A5⟩,gU⟩,bK⟩
theorem adN{rs ex:List (List I)}(s:aQ am aL aF h [bm bp [[.ptr aG 0 0,.br bh 0 (below.length+1) fk,.int o left]],bm bh (rs++row::ex),A1 row top,r2 rs below]):en am aL aF h (iJ bp aG bh left below top):=en.imp (λ_ _ _ x=>by obtain⟨eH,eI,dX,eb,bY,⟨nH,nI,r0,r1,e3,⟨y3,y4,A3,A4,fP,ih,A5⟩,gU⟩,bK⟩:=x;exact⟨⟨rs,row,ex⟩,eH,eI,dX,eb,bY,⟨nH,nI,r0,r1,e3,⟨y3,y4,A3,A4,fP,cX.uE ih,A5⟩,gU⟩,bK⟩) s
theorem adO{a:List I}{g:I}(aN:ck f.arg a)(a7:fH 3 g (gn f.ec))(az:f.stack=[])(aq:f.names=[]):(A1 (gu f a .aC .aC g) f).A h (λ_=>False) (λ_=>False):=by
 have e:∀(l:List ay),l=[]->(i' .aC l).A h (λ_=>False) (λ_=>False):=λl ai=>by subst ai;exact⟨[],rfl,.inl ⟨⟨rfl,rfl⟩,λ_ h=>h,λ_ h=>h⟩⟩
 exact⟨⟨a,.aC,.aC,g⟩,⟨rfl,aN,a7⟩,λ_=>False,λ_=>False,λ_=>False,λ_=>False,e _ az,e _ aq,λk=>by simp,λD=>by simp,λ_ h=>h.elim,λ_ h=>h.elim⟩
theorem aQ.front{X:b2}(s:aQ am aL aF h L)(i:Nat)(ae:L[i]? =j X):aQ am aL aF h (X::L.eraseIdx i):=s.imp λ_ _ _ x=>(cX.front ae).1 x
theorem arK(eR:aQ am aL aF h L)(i:Nat)(ae:L[i]? =j (iJ bp aG bh left below top)){a:List I}{g:I}(aN:ck f.arg a)(a7:fH 3 g (gn f.ec))(az:f.stack=[])(aq:f.names=[])(ag:below.length<=1000){jw:Nat}(aR:h.cell jw=j [gu f a .aC .aC g]):∃F J,e0 Q fk (.br bh 0 (below.length+1) fk) (.br jw 0 1 fk) h=j (.br h.n 0 (below.length+2) fk,F)/\eN 1 F (.ptr bp 0 1) (.br h.n 0 (below.length+2) fk)=j J/\aQ am aL aF J (L.set i (iJ bp aG h.n left (below++[top]) f)):=by
 obtain⟨J,F,⟨av,ax⟩,eD⟩:=eR.uF (cn:=λJ F=>e0 Q fk (.br bh 0 (below.length+1) fk) (.br jw 0 1 fk) h=j (.br h.n 0 (below.length+2) fk,F)/\eN 1 F (.ptr bp 0 1) (.br h.n 0 (below.length+2) fk)=j J) i ae (Y:=λ_=>iJ bp aG h.n left (below++[top]) f) λah ao x=>by
  obtain⟨rs,ex,row,gB,adP,au,s⟩:=RD x;have a6:=(s.cell 1 rfl).1;have hT:=oq f a .aC .aC g aN.dx.1;have lY:g.one=Q:=by rcases a7 with⟨_,rfl⟩|⟨id,rfl⟩<;>rfl
  have tW:([gu f a .aC .aC g].all λx=>x.all I.one)=Q:=by simp only[List.all_cons,List.all_nil,s3];exact KP aN.dx rfl rfl lY
  have ze:(rs++row::ex).take (below.length+1)=rs++[row]:=by rw[<-gB,List.take_append];simp[List.take_of_length_le (Nat.le_succ rs.length)]
  have Rz:e0 Q fk (.br bh 0 (below.length+1) fk) (.br jw 0 1 fk) h=j (.br h.n 0 (below.length+2) fk,(h.set bh Z).push (rs++[row]++[gu f a .aC .aC g])):=by
   have he:js h fk (.br jw 0 1 fk)=j [gu f a .aC .aC g]:=by simp[js,aR]
   simp only[e0,he,da,fS];rw[if_neg (by decide)];simp only[kW,a6,da];rw[if_pos ⟨by simp,by simp,tW⟩,if_pos ⟨trivial,trivial,by omega⟩,if_pos (by simp;omega),ze];rfl
  have aY:=s.del 1 rfl;have bf:=aY.push (rs++[row]++[gu f a .aC .aC g]);have n1:(h.set bh Z).n=h.n:=rfl;have st:eN 1 ((h.set bh Z).push (rs++[row]++[gu f a .aC .aC g])) (.ptr bp 0 1) (.br h.n 0 (below.length+2) fk)=j (((h.set bh Z).push (rs++[row]++[gu f a .aC .aC g])).set bp (j [[.ptr aG 0 0,.br h.n 0 (below.length+2) fk,.int o left]])):=lV (n:=1) (i:=0) (x:=.br h.n 0 (below.length+2) fk) (off:=1) (e:=[.ptr aG 0 0,.br bh 0 (below.length+1) fk,.int o left]) (bf.cell 1 rfl).1 rfl rfl rfl (by simp);have bP:=bf.set 1 rfl [[.ptr aG 0 0,.br h.n 0 (below.length+2) fk,.int o left]];refine⟨_,_,⟨Rz,st⟩,adN (rs:=rs++[row]) (ex:=[]) (row:=gu f a .aC .aC g) ?_⟩;rw[dy,fS];have cj:=(bP.front 2 rfl).drop;have cT:aQ _ _ _ _ [r2 (rs++[row]) (below++[top]),bm h.n (rs++[row]++[gu f a .aC .aC g]),bm bp [[.ptr aG 0 0,.br h.n 0 (below.length+2) fk,.int o left]]]:=(((cj.front 2 rfl).front 3 rfl).front 1 rfl).imp λ_ _ _ x=>by have y:=cX.abe x;exact tf (λ_ _ _ z=>(RA gB).2 z) (λ_ _ _ z=>z) y
  have eo:=cT.add (aK.refl _) (adO aN a7 az aq) (λ_ h=>h.elim) (λ_ h=>h.elim);have jb:=(((eo.front 1 rfl).front 1 rfl).front 2 rfl).front 3 rfl;exact jb
 exact⟨F,J,av,ax,eD⟩
theorem arL(eR:aQ am aL aF h L)(i:Nat){t:h2}(ae:L[i]? =j (iJ bp aG bh left (below++[t]) top)):∃E,eN 1 h (.ptr bp 0 1) (.br bh 0 (below.length+1) fk)=j E/\aQ am aL aF E (L.set i (iJ bp aG bh left below t)):=by
 refine eR.call (cn:=λE=>eN 1 h (.ptr bp 0 1) (.br bh 0 (below.length+1) fk)=j E) i ae λah ao x=>?_;obtain⟨rs,ex,row,gB,adP,au,s⟩:=RD x;rw[dy,fS]at gB;obtain⟨vL,q,rfl⟩:∃vL q,rs=vL++[q]:=by refine⟨rs.dropLast,rs.getLast (λe=>by rw[e]at gB;simp at gB),(List.dropLast_concat_getLast _).symm⟩
 have arM:vL.length=below.length:=by simpa using gB
 have st:eN 1 h (.ptr bp 0 1) (.br bh 0 (below.length+1) fk)=j (h.set bp (j [[.ptr aG 0 0,.br bh 0 (below.length+1) fk,.int o left]])):=lV (n:=1) (i:=0) (x:=.br bh 0 (below.length+1) fk) (off:=1) (e:=[.ptr aG 0 0,.br bh 0 ((below++[t]).length+1) fk,.int o left]) (s.cell 0 rfl).1 rfl rfl rfl (by simp);have aY:=s.set 0 rfl [[.ptr aG 0 0,.br bh 0 (below.length+1) fk,.int o left]];have bf:=(aY.front 2 rfl).drop;have bP:=(bf.front 2 rfl).imp λ_ _ _ x=>cX.abd (tf (λ_ _ _ z=>(RA arM).1 z) (λ_ _ _ z=>z) x);have cj:=(((bP.front 1 rfl).front 1 rfl).front 3 rfl).front 3 rfl;exact⟨_,st,adN (rs:=vL) (ex:=row::ex) (row:=q) (by simpa using cj)⟩
theorem arN(eR:aQ am aL aF h L)(i:Nat)(ae:L[i]? =j (iJ bp aG bh left [] top)):∃E,eN 1 h (.ptr bp 0 1) (.br bh 0 0 fk)=j E/\aQ am aL aF E (L.set i (Bm bp aG bh left)):=by refine eR.call (cn:=λE=>eN 1 h (.ptr bp 0 1) (.br bh 0 0 fk)=j E) i ae λah ao x=>?_;obtain⟨rs,ex,row,gB,adP,au,s⟩:=RD x;have st:eN 1 h (.ptr bp 0 1) (.br bh 0 0 fk)=j (h.set bp (j [[.ptr aG 0 0,.br bh 0 0 fk,.int o left]])):=lV (n:=1) (i:=0) (x:=.br bh 0 0 fk) (off:=1) (e:=[.ptr aG 0 0,.br bh 0 1 fk,.int o left]) (s.cell 0 rfl).1 rfl rfl rfl (by simp);have aY:=s.set 0 rfl [[.ptr aG 0 0,.br bh 0 0 fk,.int o left]];have bf:=((aY.front 3 rfl).drop.front 2 rfl).drop;have bP:=(bf.front 1 rfl).drop;exact⟨_,st,en.imp (λ_ _ _ x=>cX.uE x) bP⟩
end
theorem arO{x:BitVec 64}{k:Nat}(ab:k<64){r:Int}(aj:r=(BitVec.twoPow 64 k).toInt):Cf x.toInt r=gO x.toInt k:=by
 rw[aj,UA,aaT x ab];cases ag:x.getLsbD k
 ·refine decide_eq_false λh=>?_;have:=congrArg (λv:BitVec 64=>v.getLsbD k) h;simp only[BitVec.getLsbD_and,ag,Bool.false_and,BitVec.getLsbD_twoPow]at this;simp[ab]at this
 ·refine decide_eq_true (BitVec.eq_of_getLsbD_eq λi ae=>?_);rw[BitVec.getLsbD_and,BitVec.getLsbD_twoPow];by_cases J:k=i
  ·subst J;simp[ag]
  ·simp[J]
section
variable{h E am:ad}{ah ao aL aF:Nat->Prop}{L:List b2}{bp aG bh cl cr:Nat}{left:Int}{below:List h2}{top:h2}{ms:dQ}{kept:List ay}{G:be}
theorem pK(c:Int):aM ak T 143 [.bool Q,.int o c] h=j (.inr (.iface lZ (.int o c)),h):=by refine bd abk rfl ?_;unfold P9;simp only[ap,aw,aA,ar,Fo,adI,vt (aK.refl h) (rfl:dP (.iface lZ (.int o c))=_)]
theorem ov(c:Int):aM ak T 143 [.bool R,.int o c] h=j (.inl (.bx []),h):=by refine bd abk rfl ?_;unfold P9;simp only[ap,aw,aA,ar,e8 (aK.refl h) (rfl:dP (.bx [])=_)]
theorem RE(n:Int):aM ak T 150 [.int o n] h=j (.inl (.agg [.int o 1,.int o n,.aC]),h):=by refine bd apb rfl ?_;unfold abn;simp only[ap,aw,aA,ar,ct];exact e8 (aK.push _ _) rfl
theorem G0(n:Int):ck (l6 n) [.int o 1,.int o n,.aC]:=⟨.aC,[],rfl,.inl ⟨rfl,rfl⟩,rfl⟩
theorem Le(n:Int):ck (oL n) [.int o 4,.int o n,.aC]:=⟨.aC,[],rfl,.inl ⟨rfl,rfl⟩,rfl⟩
theorem arP(n:Int):ck (.mk 5 n []) [.int o 5,.int o n,.aC]:=⟨.aC,[],rfl,.inl ⟨rfl,rfl⟩,rfl⟩
theorem RF{n:Int}{id:Option Nat}(ai:fb l es):ck (.mk k n l) [.int o k,.int o n,.bN id cD es]:=⟨_,es,rfl,.inr ⟨id,rfl⟩,ai⟩
theorem ck.uQ{v:ay}{r:List I}(U:ck v r):∃w,r=[.int o v.kind,.int o v.n,w]/\w.one=Q:=by
 cases v with
 |mk k n l=>obtain⟨w,es,rfl,F,_⟩:=U;exact⟨w,rfl,by rcases F with⟨_,rfl⟩|⟨id,rfl⟩<;>rfl⟩
theorem tq{v:ay}{r:List I}(U:ck v r)(ab:v.kind=k):∃bZ,aM ak T 145 [.agg r,.int o k] h=j (.inl (.agg bZ),h)/\ck v bZ:=by
 obtain⟨bZ,hw,jE⟩:=F8 U;obtain⟨w,rfl,au⟩:=U.uQ;have Be:dP (.agg [.int o v.kind,.int o v.n,w])=j (.agg bZ):=by simp only[dP,hw,g3]
 refine⟨bZ,?_,jE⟩;have d:decide (v.kind=k)=Q:=decide_eq_true ab;refine bd abo rfl ?_;unfold Qb;simp only[ap,aw,aA,ar,cx,d,ov,au];exact e8 (by repeat (first|exact aK.refl _|refine aK.trans ?_ (aK.push _ _)|refine aK.trans ?_ (aK.fresh _ _))) Be
theorem tr{v:ay}{r:List I}(U:ck v r)(ab:v.kind≠k):aM ak T 145 [.agg r,.int o k] h=j (.inr (.iface lZ (.int o 2)),h):=by obtain⟨w,rfl,au⟩:=U.uQ;have d:decide (v.kind=k)=R:=decide_eq_false ab;refine bd abo rfl ?_;unfold Qb;simp only[ap,aw,aA,ar,cx,d,pK,au];exact vt (by repeat (first|exact aK.refl _|refine aK.trans ?_ (aK.push _ _)|refine aK.trans ?_ (aK.fresh _ _))) rfl
theorem adQ{v:ay}{r:List I}(U:ck v r)(ab:v.code=0):∃bZ,aM ak T 152 [.agg r] h=j (.inl (.agg bZ),h)/\ck v bZ:=by
 obtain⟨bZ,hw,jE⟩:=F8 U;have Be:dP (.agg r)=j (.agg bZ):=by simp only[dP,hw,g3]
 refine⟨bZ,?_,jE⟩;have d:decide (v.code=0)=Q:=decide_eq_true ab;have bU:=λh=>KN (h:=h) U;obtain⟨bO,bC⟩:=U.dx;refine bd abp rfl ?_;unfold Qd;simp only[ap,aw,aA,ar,cx,d,ov,bU,bO,bC];exact e8 (by repeat (first|exact aK.refl _|refine aK.trans ?_ (aK.push _ _)|refine aK.trans ?_ (aK.fresh _ _))) Be
theorem adR{v:ay}{r:List I}(U:ck v r)(ab:v.code≠0):aM ak T 152 [.agg r] h=j (.inr (.iface lZ (.int o 3)),h):=by have d:decide (v.code=0)=R:=decide_eq_false ab;have bU:=λh=>KN (h:=h) U;obtain⟨bO,bC⟩:=U.dx;refine bd abp rfl ?_;unfold Qd;simp only[ap,aw,aA,ar,cx,d,pK,bU,bO,bC];exact vt (by repeat (first|exact aK.refl _|refine aK.trans ?_ (aK.push _ _)|refine aK.trans ?_ (aK.fresh _ _))) rfl
theorem G1(s:aQ am aL aF h L){Bn:Nat}(ae:L[Bn]? =j (ha aG cl cr ms kept))(ai:ms.length=kept.length):(∀n:Nat,cO R n h (.ptr aG 0 0)=j (.ptr cl 0 0))/\∀n:Nat,cO R n h (.ptr aG 0 1)=j (.ptr cr 0 0):=by
 obtain⟨ah,ao,x⟩:=s.get Bn ae;obtain⟨row,a6,_,c2,c3,_⟩:=La x ai;refine⟨λn=>?_,λn=>?_⟩
 ·rw[gm,a6,da,qT,da,qi,c2]
 ·rw[gm,a6,da,qT,da,qi,c3]
theorem arQ(d':G.dE)(i:Int){k:Nat}{r:Int}(ab:k<64)(aj:r=(BitVec.twoPow 64 k).toInt):aM ak T 166 [.int o (G.fm i),.int o r] h=j (.inl (.bool (gO (G.fm i) k)),h):=by
 obtain⟨x,an⟩:=acM d' i;have e:Cf (G.fm i) r=gO (G.fm i) k:=by rw[an];exact arO ab aj
 rw[<-e];refine bd acE rfl ?_;unfold QR;simp only[ap,aw,aA,ar];rfl
abbrev arR:cH:=169
abbrev adS:List I:=[.int o 0,.int o 0,.int o 0,.int o 0,.int o 0,.int o 0]
theorem RG(s:aQ am aL aF h L){adT Bn adU:Nat}(hm:L[adT]? =j (iJ bp aG bh left below top))(ag:L[Bn]? =j (ha aG cl cr ms kept))(a7:L[adU]? =j (iG cl G))(ai:ms.length=kept.length)(d':G.dE){v:ay}{r:List I}(U:ck v r){k:Nat}{q:Int}(ab:k<64)(aE:q=(BitVec.twoPow 64 k).toInt):aM ak T arR [.ptr bp 0 0,.agg r,.int o q] h=j (if gO (G.fm v.n) k=Q then .inl (.bx [.int o v.n,.agg (bi (G.target v.n).1)])else .inr (.iface lZ (.int o 9)),h):=by
 obtain⟨w,rfl,au⟩:=U.uQ;have aY:=(s.push [[.int o v.kind,.int o v.n,w]]).push [adS];obtain⟨a,ea,aI,g,a'⟩:=pa aY (adT+2) hm;have gL:∀n:Nat,cO R n _ (.ptr bp 0 0)=j (.ptr aG 0 0):=λn=>by rw[gm,a'.m,da,qT,da,qi];rfl
 have b5:=(G1 aY (Bn:=Bn+2) ag ai).1;obtain⟨ah,ao,zj⟩:=aY.get (adU+2) a7;have mP:=aa3 (zj:gE _ ah ao cl G) d' v.n;have F0:=aoH (zj:gE _ ah ao cl G) d' v.n;have bz:=arQ (h:=(h.push [[.int o v.kind,.int o v.n,w]]).push [adS]) d' v.n ab aE;have f0:b9 0 (.ptr bp 0 0)=j (.ptr bp 0 0):=rfl;have f1:b9 0 (.ptr aG 0 0)=j (.ptr aG 0 0):=rfl;cases adV:gO (G.fm v.n) k with
 |false=>rw[adV]at bz;rw[if_neg (by decide)];refine bd abv rfl ?_;unfold Qf;simp only[ap,aw,aA,ar,cx,au,f0,f1,gL,b5,mP,bz,pK];exact vt (by repeat (first|exact aK.refl _|refine aK.trans ?_ (aK.push _ _)|refine aK.trans ?_ (aK.fresh _ _))) rfl
 |true=>rw[adV]at bz;rw[if_pos rfl];refine bd abv rfl ?_;unfold Qf;simp only[ap,aw,aA,ar,cx,au,f0,f1,gL,b5,mP,bz,ov,F0,bi,eG];exact e8 (aK.set (by repeat (first|exact aK.refl _|refine aK.trans ?_ (aK.push _ _)|refine aK.trans ?_ (aK.fresh _ _))) (by omega)) rfl
end
structure hU where
 (bp aG cl cr:Nat)
 ms:dQ
structure fl where
 bh:Nat
 S:bG
 below:List h2
 top:h2
structure eK(c:hU)(L:List b2)(i:Nat)(n:fl):Prop where
 m:L[i]? =j (iJ c.bp c.aG n.bh (n.S.left:Int) n.below n.top)
 b:L[i+1]? =j (ha c.aG c.cl c.cr c.ms n.S.kept)
 g:L[i+2]? =j (iG c.cl n.S.G)
 w:L[i+3]? =j (bv c.cr n.S.cells n.S.log)
def put(c:hU)(L:List b2)(i:Nat)(n:fl):List b2:=(((L.set i (iJ c.bp c.aG n.bh (n.S.left:Int) n.below n.top)).set (i+1) (ha c.aG c.cl c.cr c.ms n.S.kept)).set (i+2) (iG c.cl n.S.G)).set (i+3) (bv c.cr n.S.cells n.S.log)
theorem ts{c:hU}{L:List b2}{i D:Nat}{n:fl}:(put c L i n)[D]? =if D<L.length then(if D=i+3 then j (bv c.cr n.S.cells n.S.log)else if D=i+2 then j (iG c.cl n.S.G)else if D=i+1 then j (ha c.aG c.cl c.cr c.ms n.S.kept)else if D=i then j (iJ c.bp c.aG n.bh (n.S.left:Int) n.below n.top)else L[D]?)else Z:=by
 unfold put;by_cases aa:D<L.length
 ·rw[if_pos aa];simp only[wi,List.length_set];by_cases af:D=i+3
  ·subst af;simp[aa]
  ·by_cases J:D=i+2
   ·subst J;simp[aa]
   ·by_cases F:D=i+1
    ·subst F;simp[aa]
    ·by_cases am:D=i
     ·subst am;simp[aa]
     ·simp[am,F,J,af,lo am,lo F,lo J,lo af]
 ·rw[if_neg aa,lN (by simpa using aa)]
theorem eK.len{c:hU}{L:List b2}{i:Nat}{n:fl}(a:eK c L i n):i+3<L.length:=(fR.1 a.w).1
theorem eK.put{c:hU}{L:List b2}{i:Nat}{n:fl}(a:eK c L i n)(b4:fl):eK c (put c L i b4) i b4:=by
 have:=a.len;refine⟨?_,?_,?_,?_⟩<;>rw[ts]
 ·rw[if_pos (by omega),if_neg (by omega),if_neg (by omega),if_neg (by omega),if_pos rfl]
 ·rw[if_pos (by omega),if_neg (by omega),if_neg (by omega),if_pos rfl]
 ·rw[if_pos (by omega),if_neg (by omega),if_pos rfl]
 ·rw[if_pos (by omega),if_pos rfl]
theorem Lf{c:hU}{L:List b2}{i:Nat}{n:fl}:(Go.Proofs.YtaodiaofbeblbaaGreatDoor.put c L i n).length=L.length:=by simp[Go.Proofs.YtaodiaofbeblbaaGreatDoor.put]
theorem Bo{L qX:List b2}(h:∀D:Nat,L[D]? =qX[D]?):L=qX:=List.ext_getElem? h
theorem hn{c:hU}{L:List b2}{i:Nat}{n b4:fl}:put c (put c L i n) i b4=put c L i b4:=by
 refine Bo λD=>?_;rw[ts,ts,Lf,ts];by_cases aa:D<L.length
 ·simp only[if_pos aa]
  repeat' (first|rfl|split)
  all_goals first|rfl|omega
 ·simp only[if_neg aa]
theorem eK.same{c:hU}{L:List b2}{i:Nat}{n:fl}(a:eK c L i n):Go.Proofs.YtaodiaofbeblbaaGreatDoor.put c L i n=L:=by
 have:=a.len;refine Bo λD=>?_;rw[ts];split
 ·split
  ·rename_i e;rw[e,a.w]
  ·split
   ·rename_i e;rw[e,a.g]
   ·split
    ·rename_i e;rw[e,a.b]
    ·split
     ·rename_i e;rw[e,a.m]
     ·rfl
 ·rename_i aa;exact(lN (Nat.le_of_not_lt aa)).symm
theorem eK.wj{c:hU}{L:List b2}{i:Nat}{n:fl}(a:eK c L i n)(gV:Nat)(l:Nat)(adW:List h2)(adX:h2):L.set i (iJ c.bp c.aG gV (l:Int) adW adX)=Go.Proofs.YtaodiaofbeblbaaGreatDoor.put c L i ⟨gV,{n.S with left:=l},adW,adX⟩:=by
 have:=a.len;refine Bo λD=>?_;rw[ts,wi];by_cases aa:D<L.length
 ·rw[if_pos aa];by_cases am:i=D
  ·subst am;simp[aa]
  ·rw[if_neg am,if_neg (lo am:¬D=i)];split
   ·rename_i e;rw[e,a.w]
   ·split
    ·rename_i e;rw[e,a.g]
    ·split
     ·rename_i e;rw[e,a.b]
     ·rfl
 ·rw[if_neg aa,if_neg (by omega)];exact lN (Nat.le_of_not_lt aa)
theorem eK.arS{c:hU}{L:List b2}{i:Nat}{n:fl}(a:eK c L i n)(k:List ay):L.set (i+1) (ha c.aG c.cl c.cr c.ms k)=Go.Proofs.YtaodiaofbeblbaaGreatDoor.put c L i {n with S:={n.S with kept:=k}}:=by
 have:=a.len;refine Bo λD=>?_;rw[ts,wi];by_cases aa:D<L.length
 ·rw[if_pos aa];by_cases am:i+1=D
  ·subst am;simp[aa]
  ·rw[if_neg am,if_neg (lo am:¬D=i+1)];split
   ·rename_i e;rw[e,a.w]
   ·split
    ·rename_i e;rw[e,a.g]
    ·split
     ·rename_i e;rw[e,a.m]
     ·rfl
 ·rw[if_neg aa,if_neg (by omega)];exact lN (Nat.le_of_not_lt aa)
theorem eK.arT{c:hU}{L:List b2}{i:Nat}{n:fl}(a:eK c L i n)(G:be):L.set (i+2) (iG c.cl G)=Go.Proofs.YtaodiaofbeblbaaGreatDoor.put c L i {n with S:={n.S with G:=G}}:=by
 have:=a.len;refine Bo λD=>?_;rw[ts,wi];by_cases aa:D<L.length
 ·rw[if_pos aa];by_cases am:i+2=D
  ·subst am;simp[aa]
  ·rw[if_neg am,if_neg (lo am:¬D=i+2)];split
   ·rename_i e;rw[e,a.w]
   ·split
    ·rename_i e;rw[e,a.b]
    ·split
     ·rename_i e;rw[e,a.m]
     ·rfl
 ·rw[if_neg aa,if_neg (by omega)];exact lN (Nat.le_of_not_lt aa)
theorem eK.adY{c:hU}{L:List b2}{i:Nat}{n:fl}(a:eK c L i n)(cells:List Int)(log:List jI):L.set (i+3) (bv c.cr cells log)=Go.Proofs.YtaodiaofbeblbaaGreatDoor.put c L i {n with S:={n.S with cells:=cells,log:=log}}:=by
 have:=a.len;refine Bo λD=>?_;rw[ts,wi];by_cases aa:D<L.length
 ·rw[if_pos aa];by_cases am:i+3=D
  ·subst am;simp[aa]
  ·rw[if_neg am,if_neg (lo am:¬D=i+3)];split
   ·rename_i e;rw[e,a.g]
   ·split
    ·rename_i e;rw[e,a.b]
    ·split
     ·rename_i e;rw[e,a.m]
     ·rfl
 ·rw[if_neg aa,if_neg (by omega)];exact lN (Nat.le_of_not_lt aa)
theorem eK.cons{c:hU}{L:List b2}{i:Nat}{n:fl}(a:eK c L i n)(X:b2):eK c (X::L) (i+1) n:=⟨a.m,a.b,a.g,a.w⟩
theorem eg{c:hU}{L:List b2}{i:Nat}{n:fl}{X:b2}:Go.Proofs.YtaodiaofbeblbaaGreatDoor.put c (X::L) (i+1) n=X::Go.Proofs.YtaodiaofbeblbaaGreatDoor.put c L i n:=rfl
def RH:List bj:=[.ops [Qg,y5,.i (.v 5) Pr]]
def DO:List bj:=[.ops [aX,uH,.i .l (.call (.c (.fn 155 [] [])) [.l 1,.l 0]),nG],.ops [mm,KV],.cond (.v 8) [.ops [v7,mm,.i .n (.store 3 (.v 4) (.l 1)),.i .n (.store 1 (.v 5) (.l 0))],.ret] []]
def RI:List bj:=[adZ,.ops [uz,uH,acI,xE,.i .n (.store 1 (.v 5) (.c (.int o 0)))],.ret]
def Fr:List bj:=[adZ]
def Lg:List bj:=[.ops [g4,ad0],.cond (.v 5) [.ops [g4,.i .l (.CO 252 Q (.l 0)),cU,iu,iv,Gg,jT],.ops [eS,Dm],.cond (.v 6) [.ops [g4,Df]] [],.ops [v7,eY,.i .n (.store 3 (.v 0) (.l 1)),.i .n (.store 1 (.v 1) (.l 0))]] []]
open Go Go.RowKit
abbrev jo:cH:=148
abbrev dT:cH:=156
noncomputable def wk:ef:=Tryz.f148.body.getD .skip
noncomputable def pL:ef:=Tryz.f156.body.getD .skip
theorem ad1:(ak).funcs[dT]? =j Tryz.f156:=Tryz.func156
theorem arU:Tryz.f156.body=j pL:=rfl
theorem arV:pL= .seq (dc pL) (fj pL):=rfl
theorem arW:Tryz.f156.ntmps=18:=rfl
noncomputable def RJ:bb:={dst:=j 5,op:=.call {callee:=.builtin .recover,args:= #[],argTypes:= #[]},type:=((jk (dc pL)).getD 0 default).type,pos:=((jk (dc pL)).getD 0 default).pos,after:= #[],guard:=Z}
noncomputable def RL:bb:={dst:=j 2,op:=.assign (.tmp 5),type:=((jk (dc pL)).getD 1 default).type,pos:=((jk (dc pL)).getD 1 default).pos,after:=((jk (dc pL)).getD 1 default).after,guard:=Z}
theorem arX:dc pL= .region 0 #[RJ,RL] R:=rfl
theorem arY:ga ak (T.ba dT) (T.ch dT) 18 [0,1,2,3,4,7,14] (fj pL) []=j Lg:=by kernel_rfl
theorem arZ:ht (T.ch dT) (T.eu dT) (fj pL)=Q:=by kernel_rfl
theorem ar0:rQ 2 18 (T.aI dT) 7 [0,1,2,3,4,7,14]=Q:=by kernel_rfl
theorem ad2{h:ad}{e:I}{cv:List I}(aj:bu (aM ak T) 7 [.bQ Lg,.halt []] [.ptr fp 0 0,.ptr gN 0 0,e,.aD,.aD,.aD,.aD] [] h=j (.halt [],cv,E)){m:dq}{w:cd}{v:bH}(hw:bW ak m h w)(v6:bF ak m h (.ptr fp 0 0) gK)(dz:bF ak m h (.ptr gN 0 0) gg)(FP:bF ak m h e v){u:FrameMode}(fE:FrameMode)(Po:∀c:eO,c.mode=u->∀cs,(recoverD (c::cs)=j (v,{c with mode:=fE}::cs))\/(recoverD (c::cs)=Z/\v= .nilIface/\fE=u)):CallsD ak dT #[gK,gg] u w λe k8 aJ=>(∃v,e= .returned v)/\k8=fE/\∃aZ,Ext m h aZ E/\bW ak aZ E aJ/\Below m.base w aJ:=by
 intro c cs bE;have e1:dV ak m h [.ptr fp 0 0,.ptr gN 0 0] [gK,gg]:=⟨rfl,λD aa di=>by
  match D,aa with
  |0,_=>exact v6
  |1,_=>exact dz⟩
 have he:=JO ad1 arU [gK,gg] .deferred;have aO:=JP (P:=ak) (h:=h) (k:=18) e1;generalize ag:jO ak dT #[gK,gg] .deferred=b at he;have sH:b.kind= .deferred:=by rw[<-ag];simp[jO]
 have FQ:b.fn=dT:=by rw[<-ag];simp[jO]
 have ux:b.roundOf=Z:=by rw[<-ag];simp[jO]
 rw[arW]at he;generalize aN:([gK,gg]++ar (18 - [gK,gg].length) fy).toArray=bX at he aO;have F:Steps ak (ew b (c::cs) w) (ew (b.at {tmps:=bX,defers:=[]} [.code (dc pL),.code (fj pL)]) (c::cs) w):=by
  rw[<-he]
  conv=>lhs;rw[arV]
  exact .one step_seq
 have dY:bX.size=18:=by rw[aO.1];rfl
 have OQ:(dc pL).wpS ak (λe dZ gA aJ=>e= .normal/\gA={c with mode:=fE}::cs/\aJ=w/\dZ=(({tmps:=bX,defers:=[]}:Act).put (j 5) v).put (j 2) v) {tmps:=bX,defers:=[]} (c::cs) w:=by
  rw[arX];apply wpS_region;rcases Po c bE cs with F|⟨F,J,af⟩
  ·simp[wpOpsS,go_sem,RJ,RL,F,px,Act.eval,dY]
  ·have aB:({c with mode:=fE}:eO)=c:=by rw[af,<-bE]
   simp[wpOpsS,go_sem,RJ,RL,F,px,Act.eval,dY,J,aB]
 obtain⟨av,aP,OM,cg,⟨rfl,rfl,rfl,rfl⟩,xv⟩:=OQ b [.code (fj pL)] sH ux;have C9:=(aO.put (a:={tmps:=bX,defers:=[]}) FP (j 5)).put FP (j 2);have b6:gb 18 [0,1,2,3,4,7,14] [] (eU (eU ([I.ptr fp 0 0,.ptr gN 0 0]++ar (18 - [I.ptr fp 0 0,.ptr gN 0 0].length) .aD) (j 5) e) (j 2) e) [.ptr fp 0 0,.ptr gN 0 0,e,.aD,.aD,.aD,.aD] []:=by
  refine⟨by simp[eU],rfl,rfl,λD s aa=>?_,λD s aa=>by simp at aa⟩
  match D,aa with
  |0,aa|1,aa|2,aa|3,aa|4,aa|5,aa|6,aa=>obtain rfl:=tR aa;exact⟨by decide,rfl⟩
  |D+7,aa=>simp at aa
 obtain⟨cM,hp,aoe⟩:=wn cC (ig ar0) arY arZ aj b6;obtain⟨aZ,aJ,bY,db,e3,dZ,f',fP,ih⟩:=hp m cg _ {b with defers:=[]} ({c with mode:=fE}::cs) hw C9 rfl;have pA:Steps ak (ew b (c::cs) cg) (ew {b.at dZ []with mode:=.returning} ({c with mode:=fE}::cs) aJ):=F.trans (xv.trans (ih.trans (.one step_end)));refine⟨.returned (.tuple #[]),fE,aJ,_,⟨⟨_,rfl⟩,rfl,aZ,bY,db,e3⟩,pA,sH,rfl,fP,Tryz.f156,?_,?_⟩
 ·show(ak).funcs[b.fn]? =_;rw[FQ];exact ad1
 ·simp[results,Tryz.results156]
theorem ar1(c:eO)(h:c.mode= .returning)(cs:List eO):recoverD (c::cs)=Z:=by simp[recoverD,h]
theorem ar2{v:bH}(c:eO)(h:c.mode= .panicking [{v:=v,recovered:=R}])(cs:List eO):recoverD (c::cs)=j (v,{c with mode:=.panicking [{v:=v,recovered:=Q}]}::cs):=by simp[recoverD,h]
theorem ar3{q:aU}{v:I}:yL q Q (.iface q v)=j (.bx [v,.bool Q]):=by simp[yL]
theorem IR{h:ad}{m:dq}{w:cd}(hw:bW ak m h w)(v6:bF ak m h (.ptr fp 0 0) gK)(dz:bF ak m h (.ptr gN 0 0) gg):CallsD ak dT #[gK,gg] .returning w λe k8 aJ=>(∃v,e= .returned v)/\k8= .returning/\∃aZ,Ext m h aZ h/\bW ak aZ h aJ/\Below m.base w aJ:=by refine ad2 (cv:=[.ptr fp 0 0,.ptr gN 0 0,.fC,.aD,.aD,.bool R,.aD]) (e:=.fC) ?_ hw v6 dz .fC .returning λc al cs=>.inr ⟨ar1 c al cs,rfl,rfl⟩;unfold Lg;simp only[ap]
theorem ar4{h:ad}{m:dq}{w:cd}{u:bH}{code x y:Int}{l z:I}(hw:bW ak m h w)(v6:bF ak m h (.ptr fp 0 0) gK)(dz:bF ak m h (.ptr gN 0 0) gg)(Bp:bF ak m h (.iface xP (.int o code)) u)(cc:h.cell fp=j [[.int o x,.int o y,l]])(cQ:h.cell gN=j [[z]])(cP:gN≠fp)(ai:l.one=Q):CallsD ak dT #[gK,gg] (.panicking [{v:=u,recovered:=R}]) w λe k8 aJ=>(∃v,e= .returned v)/\k8= .panicking [{v:=u,recovered:=Q}]/\∃aZ,Ext m h aZ ((h.set fp (j [[.int o 0,.int o 0,.aC]])).set gN (j [[.int o code]]))/\bW ak aZ ((h.set fp (j [[.int o 0,.int o 0,.aC]])).set gN (j [[.int o code]])) aJ/\Below m.base w aJ:=by refine ad2 (cv:=[.ptr fp 0 0,.ptr gN 0 0,.iface xP (.int o code),.int o code,.bool Q,.bool Q,.bool R]) (e:=.iface xP (.int o code)) ?_ hw v6 dz Bp (.panicking [{v:=u,recovered:=Q}]) λc al cs=>.inl (ar2 c al cs);have Ro:(h.set fp (j [[.int o 0,.int o 0,.aC]])).cell gN=j [[z]]:=(dL cP).trans cQ;unfold Lg;simp only[ap,aw,ar3,cc,Ro]
open Go Go.RowKit
theorem ar5:(ak).funcs[jo]? =j Tryz.f148:=Tryz.func148
theorem ar6:Tryz.f148.body=j wk:=rfl
theorem ar7:Tryz.f148.ntmps=25:=rfl
noncomputable abbrev G2:ef:=dc (fj wk)
noncomputable abbrev lC:ef:=fj (fj wk)
noncomputable abbrev lD:ef:=fj lC
theorem ar8:wk= .seq (dc wk) (fj wk):=rfl
theorem ar9:fj wk= .seq G2 lC:=rfl
theorem ar':lC= .seq (dc lC) lD:=rfl
theorem asa:lD= .seq (dc lD) (fj lD):=rfl
theorem asb:fj lD= .seq (dc (fj lD)) .ret:=rfl
abbrev uR:List Nat:=[0,1,2,4,6,7,8,9,14]
theorem Lh:rQ 3 25 (T.aI jo) 9 uR=Q:=by kernel_rfl
theorem asc:ga ak (T.ba jo) (T.ch jo) 25 uR (dc wk) []=j RH:=by kernel_rfl
theorem asd:ga ak (T.ba jo) (T.ch jo) 25 uR G2 []=j DO:=by kernel_rfl
theorem ase:ga ak (T.ba jo) (T.ch jo) 25 uR lD []=j RI:=by kernel_rfl
theorem asf:ga ak (T.ba jo) (T.ch jo) 25 uR (dc lD) []=j Fr:=by kernel_rfl
theorem asg:ht (T.ch jo) (T.eu jo) (dc wk)=Q:=by kernel_rfl
theorem ash:ht (T.ch jo) (T.eu jo) G2=Q:=by kernel_rfl
theorem asi:ht (T.ch jo) (T.eu jo) lD=Q:=by kernel_rfl
theorem asj:ht (T.ch jo) (T.eu jo) (dc lD)=Q:=by kernel_rfl
theorem asl:pE ak uR Tryz.f148.results.toList=j [.cell Q 3 4,.cell R 1 5]:=by kernel_rfl
noncomputable def ad3:bb:={dst:=j 17,op:=.makeFunc (.func dT) #[] #[.tmp 6,.tmp 7],type:=((jk (dc lC)).getD 0 default).type,pos:=((jk (dc lC)).getD 0 default).pos,after:= #[],guard:=Z}
noncomputable def ad4:bb:={dst:=Z,op:=.defer {callee:=.value (.tmp 17),args:= #[],argTypes:= #[]},type:=((jk (dc lC)).getD 1 default).type,pos:=((jk (dc lC)).getD 1 default).pos,after:=((jk (dc lC)).getD 1 default).after,guard:=Z}
theorem asm:dc lC= .region 4 #[ad3,ad4] R:=rfl
section
variable{h:ad}{m:dq}{w:cd}
abbrev mo:List I:=[.int o 0,.int o 0,.aC]
def gq(h:ad)(r:List I):ad:=((h.push [r]).push [mo]).push [[.int o 0]]
theorem asn{b:Nat}{r:List I}{K:List Item}(bO:r.all I.one=Q)(bC:r.length=3):bu (aM ak T) 9 [.bQ RH,.halt K] [.ptr b 0 0,.agg r,cN,.aD,.aD,.aD,.aD,.aD,.aD] [] h=j (.halt K,[.ptr b 0 0,.agg r,cN,.ptr h.n 0 0,.ptr (h.n+1) 0 0,.ptr (h.n+1+1) 0 0,.aD,.aD,.aD],gq h r):=by unfold RH;simp only[ap,bO,bC,gq]
theorem aso(x y z:I):gb 25 uR [] ([x,y,z]++ar (25 - [x,y,z].length) .aD) [x,y,z,.aD,.aD,.aD,.aD,.aD,.aD] []:=by
 refine⟨by simp,rfl,rfl,λD s aa=>?_,λD s aa=>by simp at aa⟩
 match D,aa with
 |0,aa|1,aa|2,aa|3,aa|4,aa|5,aa|6,aa|7,aa|8,aa=>obtain rfl:=tR aa;exact⟨by decide,rfl⟩
 |D+9,aa=>simp at aa
theorem RM{b:Nat}{r:List I}{x:h4}{Bq:List I}(bO:r.all I.one=Q)(bC:r.length=3)(aj:bu (aM ak T) 9 [.bQ DO,.halt [.code lC]] [.ptr b 0 0,.agg r,cN,.ptr h.n 0 0,.ptr (h.n+1) 0 0,.ptr (h.n+1+1) 0 0,.aD,.aD,.aD] [] (gq h r)=j (x,Bq,J))(an:∀v,x≠.panic v){bl:List bH}(hw:bW ak m h w)(e1:dV ak m h [.ptr b 0 0,.agg r,cN] bl)(cs:List eO):∃(eC:eO) (t2:List I),eC.fn=jo/\eC.kind= .normal/\eC.defers=[]/\gb 25 uR [] t2 Bq []/\eA ak (T.eu jo) m h w eC cs (ew (jO ak jo bl.toArray .normal) cs w) (x,t2,J):=by
 have he:=JO ar5 ar6 bl .normal;have aO:=JP (P:=ak) (h:=h) (k:=25) e1;rw[ar7]at he;obtain⟨t1,wM,asp⟩:=wn cC (ig Lh) asc asg (asn (K:=[.code (fj wk)]) (h:=h) (cN:=cN) (b:=b) bO bC) (aso _ _ _);obtain⟨t2,asq,asr⟩:=wn cC (ig Lh) asd ash aj asp;refine⟨jO ak jo bl.toArray .normal,t2,by simp[jO],by simp[jO],by simp[jO],asr,?_⟩;generalize jO ak jo bl.toArray .normal=eC at he ⊢;obtain⟨m1,cg,bY,db,e3,aP,f',fP,ih⟩:=wM m w {tmps:=_,defers:=[]} {eC with defers:=[]} cs hw aO rfl;have fP:aP.defers=[]:=fP;have eR:Steps ak (ew eC cs w) (ew (eC.at aP [.code G2,.code lC]) cs cg):=by
  conv=>lhs;rw[<-he,ar8]
  refine .head step_seq (ih.trans ?_)
  conv=>lhs;rw[ar9]
  exact .one step_seq
 obtain⟨cR,dS,fv,fT,km,hF⟩:=asq m1 cg aP {eC with defers:=[]} cs db f' fP;have n9:eA ak (T.eu jo) m1 (gq h r) cg {eC with defers:=[]} cs (ew (eC.at aP [.code G2,.code lC]) cs cg) (x,t2,J):=⟨cR,dS,fv,fT,km,hF⟩;have tg:=eA.steps eR (eA.after bY e3 n9);have a1:eC.defers=[]:=by rw[<-he];rfl
 have FQ:({eC with defers:=[]}:eO)=eC:=by rw[<-a1]
 rwa [FQ]at tg
theorem RN{h:ad}{v:I}(b6:gb 25 uR [] t V [])(U:(iS V h [.cell Q 3 4,.cell R 1 5]).map iY=j v):nV Tryz.f148 t h ak=j v:=by unfold nV;rw[CU (h:=h) b6 asl];exact U
theorem ass{h:ad}{b:Nat}{es:Option (List (List I))}(al:h.cell b=es):h.set b es=h:=by
 cases h with
 |mk=>
   simp only[ad.set,ad.mk.injEq,and_true,true_and];funext k;by_cases ab:k=b
   ·subst ab;simpa using al.symm
   ·simp[ab]
theorem ast{b:Nat}{r:List I}{c:Int}(bO:r.all I.one=Q)(bC:r.length=3)(al:c≠0)(qr:aM ak T 155 [.ptr b 0 0,.agg r] (gq h r)=j (.inl (.int o c),gq h r)):AC ak jo [.ptr b 0 0,.agg r,cN] h (.inl (.bx [.agg mo,.int o c]),(gq h r).set (h.n+1+1) (j [[.int o c]])):=by
 intro m w bl hw e1 cs;have c4:(gq h r).cell h.n=j [r]:=xn;have fp:(gq h r).cell (h.n+1)=j [mo]:=AK;have gN:(gq h r).cell (h.n+1+1)=j [[.int o 0]]:=AJ;have asu:(gq h r).set (h.n+1) (j [mo])=gq h r:=ass fp;have aj:bu (aM ak T) 9 [.bQ DO,.halt [.code lC]] [.ptr b 0 0,.agg r,cN,.ptr h.n 0 0,.ptr (h.n+1) 0 0,.ptr (h.n+1+1) 0 0,.aD,.aD,.aD] [] (gq h r)=j (.ret,[.ptr b 0 0,.agg r,cN,.ptr h.n 0 0,.ptr (h.n+1) 0 0,.ptr (h.n+1+1) 0 0,.int o c,.aD,.bool Q],(gq h r).set (h.n+1+1) (j [[.int o c]])):=by unfold DO;simp only[ap,aw,c4,jP bC,qr,al,fp,asu,gN]
 obtain⟨eC,t2,dk,dH,g0,b6,aZ,aJ,bY,db,e3,dZ,todo,f',fP,ih⟩:=RM bO bC aj (λv=>by simp) hw e1 cs;rw[g0]at fP;have kl:=RN (h:=(gq h r).set (h.n+1+1) (j [[.int o c]])) (v:=.bx [.agg mo,.int o c]) b6 (by have mH:((gq h r).set (h.n+1+1) (j [[.int o c]])).cell (h.n+1)=j [mo]:=(dL (by omega)).trans fp;simp only[ap,aw,mH]);obtain⟨u,cQ,g7⟩:=w9 db f' kl;exact⟨.returned u,aJ,_,⟨aZ,bY,db,e3,u,rfl,g7⟩,ih,dk,rfl,fP,dH,_,by simp[Frame.at,dk],cQ⟩
theorem Li{n:Nat}{aT:List Nat}{i:Nat}{v:I}(b6:gb n aT [] t V [])(ae:i ∉ aT):gb n aT [] (eU t (j i) v) V []:=by refine⟨by simpa[eU]using b6.len,b6.bV,b6.uh,λD s aa=>?_,λD s aa=>by simp at aa⟩;obtain⟨F,J⟩:=b6.v D s aa;refine⟨F,?_⟩;rw[<-J];have cP:i≠s:=λe=>ae (by rw[e];exact qV aa);simp[eU,dm,cP]
theorem Lj{n:Nat}{aT:List Nat}(b6:gb n aT [] t V []){D s:Nat}(aa:aT[D]? =j s):s<t.length/\t.getD s .aD=V.getD D .aD:=by obtain⟨F,J⟩:=b6.v D s aa;exact⟨by rw[b6.len];exact F,J⟩
theorem ad5{eC:eO}{a2:Act}{cs:List eO}(dY:a2.tmps.size=25)(cc:a2.tmps.getD 6 fy=gK)(cQ:a2.tmps.getD 7 fy=gg):Steps ak (ew (eC.at a2 [.code lC]) cs w) (ew (eC.at {a2.put (j 17) (.func (.func dT) #[] #[gK,gg])with defers:={target:=.fn (.func dT) #[gK,gg],args:= #[]}::a2.defers} [.code lD]) cs w):=by
 have hw:(dc lC).wp ak (λe dZ aJ=>e= .normal/\aJ=w/\dZ={a2.put (j 17) (.func (.func dT) #[] #[gK,gg])with defers:={target:=.fn (.func dT) #[gK,gg],args:= #[]}::a2.defers}) a2 w:=by have ad6:∀(fn:Fn) (first cap:Array bH) (w:cd),(Instr.makeFunc fn first cap).run ak w= .ok (.func fn first cap) w:=λ_ _ _ _=>rfl;subst cc cQ;rw[asm];apply wp_region;simp[wpOps,go_sem,ad3,ad4,px,Act.eval,dY]
 obtain⟨e,dZ,aJ,⟨rfl,rfl,rfl⟩,xv⟩:=hw eC [.code lD] cs
 conv=>lhs;rw[ar']
 exact .head step_seq xv
theorem ad7{b:Nat}{r:List I}(bC:r.length=3)(qr:aM ak T 155 [.ptr b 0 0,.agg r] (gq h r)=j (.inl (.int o 0),gq h r)):bu (aM ak T) 9 [.bQ DO,.halt [.code lC]] [.ptr b 0 0,.agg r,cN,.ptr h.n 0 0,.ptr (h.n+1) 0 0,.ptr (h.n+1+1) 0 0,.aD,.aD,.aD] [] (gq h r)=j (.halt [.code lC],[.ptr b 0 0,.agg r,cN,.ptr h.n 0 0,.ptr (h.n+1) 0 0,.ptr (h.n+1+1) 0 0,.int o 0,.aD,.bool R],gq h r):=by have c4:(gq h r).cell h.n=j [r]:=xn;unfold DO;simp only[ap,c4,jP bC,qr]
theorem Lk{cR:dq}{t2 Bq:List I}{a2:Act}(b6:gb 25 uR [] t2 Bq [])(aO:dF ak cR J t2 a2.tmps){D s:Nat}(aa:uR[D]? =j s):bF ak cR J (Bq.getD D .aD) (a2.tmps.getD s fy):=by obtain⟨F,av⟩:=Lj b6 aa;rw[<-av];exact Pg aO F
theorem asv{b:Nat}{r bZ:List I}{aB:ad}(bO:r.all I.one=Q)(bC:r.length=3)(dj:bZ.all I.one=Q)(eQ:bZ.length=3)(zk:cN= .aC\/∃id e rows,cN= .bN id e rows)(qr:aM ak T 155 [.ptr b 0 0,.agg r] (gq h r)=j (.inl (.int o 0),gq h r))(xR:aM ak T 157 [.ptr (gq h r).n 0 0,.agg r] ((gq h r).push [[.ptr b 0 0,cN]])=j (.inl (.agg bZ),aB))(iD:aB.cell (h.n+1)=j [mo])(sW:aB.cell (h.n+1+1)=j [[.int o 0]]):AC ak jo [.ptr b 0 0,.agg r,cN] h (.inl (.bx [.agg bZ,.int o 0]),(aB.set (h.n+1) (j [bZ])).set (h.n+1+1) (j [[.int o 0]])):=by
 intro m w bl hw e1 cs;have c4:((gq h r).push [[.ptr b 0 0,cN]]).cell h.n=j [r]:=(eG (by simp only[gq,ek];omega)).trans xn;have ad8:(aB.set (h.n+1) (j [bZ])).cell (h.n+1+1)=j [[.int o 0]]:=(dL (by omega)).trans sW;have qb:bu (aM ak T) 9 [.bQ RI,.halt []] [.ptr b 0 0,.agg r,cN,.ptr h.n 0 0,.ptr (h.n+1) 0 0,.ptr (h.n+1+1) 0 0,.int o 0,.aD,.bool R] [] (gq h r)=j (.ret,[.ptr b 0 0,.agg r,cN,.ptr h.n 0 0,.ptr (h.n+1) 0 0,.ptr (h.n+1+1) 0 0,.int o 0,.ptr (gq h r).n 0 0,.bool R],(aB.set (h.n+1) (j [bZ])).set (h.n+1+1) (j [[.int o 0]])):=by
  unfold RI;rcases zk with rfl|⟨id,e,rows,rfl⟩
  ·simp only[ap,aw,ct,c4,jP bC,xR,iD,dj,eQ,ad8]
  ·simp only[ap,aw,ct,c4,jP bC,xR,iD,dj,eQ,ad8]
 obtain⟨eC,t2,dk,dH,g0,b6,cR,dS,bY,db,e3,a2,f',fP,ih⟩:=RM bO bC (ad7 (cN:=cN) bC qr) (λv=>by simp) hw e1 cs;rw[g0]at fP;have v6:=Lk b6 f' (D:=4) (s:=6) rfl;have dz:=Lk b6 f' (D:=5) (s:=7) rfl;have dY:a2.tmps.size=25:=by rw[f'.1,b6.len]
 have lay:=ad5 (w:=dS) (eC:=eC) (a2:=a2) (cs:=cs) dY rfl rfl;generalize asw:a2.tmps.getD 6 fy=gK at v6 lay;generalize asx:a2.tmps.getD 7 fy=gg at dz lay;rw[fP]at lay;have AT:=f'.put (bF.aD (.func (.func dT) #[] #[gK,gg])) (j 17);have xu:=Li (i:=17) (v:=.aD) b6 (by decide);obtain⟨t5,hp,vX⟩:=wn cC (ig Lh) ase asi qb xu;obtain⟨h5,jl,fv,fT,km,a5,todo,hF,n9,tg⟩:=hp cR dS {a2.put (j 17) (.func (.func dT) #[] #[gK,gg])with defers:=[{target:=.fn (.func dT) #[gK,gg],args:= #[]}]} {eC with defers:=[{target:=.fn (.func dT) #[gK,gg],args:= #[]}]} cs db AT rfl;have pI:Leaves ak Tryz.f148 a5.tmps (λe aJ=>∃aZ,Ext m h aZ ((aB.set (h.n+1) (j [bZ])).set (h.n+1+1) (j [[.int o 0]]))/\bW ak aZ ((aB.set (h.n+1) (j [bZ])).set (h.n+1+1) (j [[.int o 0]])) aJ/\Below m.base w aJ/\∃u,e= .returned u/\bF ak aZ ((aB.set (h.n+1) (j [bZ])).set (h.n+1+1) (j [[.int o 0]])) (.bx [.agg bZ,.int o 0]) u) [{target:=.fn (.func dT) #[gK,gg],args:= #[]}] .returning jl:=by refine leaves_cons (f:=dT) (args:= #[gK,gg]) (by simp) (by simp[go_sem]) ?_;refine(IR fT (v6.ext fv) (dz.ext fv)).mono ?_;rintro e k8 aJ ⟨⟨v,rfl⟩,rfl,m4,cJ,z2,z3⟩;have kl:=RN (h:=(aB.set (h.n+1) (j [bZ])).set (h.n+1+1) (j [[.int o 0]])) (v:=.bx [.agg bZ,.int o 0]) vX (by have mH:((aB.set (h.n+1) (j [bZ])).set (h.n+1+1) (j [[.int o 0]])).cell (h.n+1)=j [bZ]:=(dL (by omega)).trans i7;simp only[ap,mH,jP eQ]);obtain⟨u,cQ,g7⟩:=w9 z2 (hF.ext cJ) kl;refine⟨u,cQ,m4,(bY.trans fv).trans cJ,z2,?_,u,rfl,g7⟩;have bT:cR.base=m.base:=bY.base;have bM:h5.base=cR.base:=fv.base;rw[bM,bT]at z3;rw[bT]at km;exact(e3.trans km).trans z3
 obtain⟨e,hk,uw,iR,az,lu,ai⟩:=leaves_steps [{target:=.fn (.func dT) #[gK,gg],args:= #[]}] .returning jl {(({eC with defers:=[{target:=.fn (.func dT) #[gK,gg],args:= #[]}]}:eO).at a5 todo)with mode:=.returning} cs rfl n9 rfl (by simp[Frame.at,dk]) (by simpa[Frame.at]using dH) pI;exact⟨e,hk,uw,iR,Comes.of_steps (ih.trans (lay.trans tg)) az,lu.trans dk,ai⟩
noncomputable abbrev wl:Array bb:=jk (dc (fj lD))
noncomputable abbrev rL (i:Nat):bb:=wl.getD i default
theorem asy:dc (fj lD)= .region 6 wl R:=rfl
theorem asz:((ak).underlying cD).isNone=R:=by kernel_rfl
theorem asA:j3 ak cD=Q:=by kernel_rfl
theorem asB:c' ak cD=3:=by kernel_rfl
theorem asC(t:List I)(h:ad):Aj ak T jo t h (rL 0) (t.getD 9 .aD) h:=.inl ⟨rfl,rfl⟩
theorem asD{h:ad}{v:I}(ai:cO Q 3 h (t.getD 4 .aD)=j v):Aj ak T jo t h (rL 1) v h:=by refine .inl ⟨rfl,?_⟩;show(if((ak).underlying cD).isNone then Z else(cO (j3 ak cD) (c' ak cD) h (t.getD 4 .aD)).map λv=>(v,h))=_;rw[asz,asA,asB,ai];rfl
theorem asE(t:List I):fr t (rL 2)=j (157,[t.getD 22 .aD,t.getD 23 .aD]):=rfl
theorem asF:∃fn,(ak).funcs[(157:Nat)]? =j fn/\(fn.body.isNone=R/\(fn.name== "runtime.NumGoroutine")=R):=⟨_,Tryz.func157,by kernel_rfl,by kernel_rfl⟩
theorem asG{b:Nat}{r:List I}{aB:ad}{c:Int}(bO:r.all I.one=Q)(bC:r.length=3)(zk:cN= .aC\/∃id e rows,cN= .bN id e rows)(qr:aM ak T 155 [.ptr b 0 0,.agg r] (gq h r)=j (.inl (.int o 0),gq h r))(xR:aM ak T 157 [.ptr (gq h r).n 0 0,.agg r] ((gq h r).push [[.ptr b 0 0,cN]])=j (.inr (.iface xP (.int o c)),aB))(iD:aB.cell (h.n+1)=j [mo])(sW:aB.cell (h.n+1+1)=j [[.int o 0]]):AC ak jo [.ptr b 0 0,.agg r,cN] h (.inl (.bx [.agg mo,.int o c]),(aB.set (h.n+1) (j [mo])).set (h.n+1+1) (j [[.int o c]])):=by
 intro m w bl hw e1 cs;have c4:((gq h r).push [[.ptr b 0 0,cN]]).cell h.n=j [r]:=(eG (by simp only[gq,ek];omega)).trans xn;have asH:bu (aM ak T) 9 [.bQ Fr,.halt [.code (fj lD)]] [.ptr b 0 0,.agg r,cN,.ptr h.n 0 0,.ptr (h.n+1) 0 0,.ptr (h.n+1+1) 0 0,.int o 0,.aD,.bool R] [] (gq h r)=j (.halt [.code (fj lD)],[.ptr b 0 0,.agg r,cN,.ptr h.n 0 0,.ptr (h.n+1) 0 0,.ptr (h.n+1+1) 0 0,.int o 0,.ptr (gq h r).n 0 0,.bool R],(gq h r).push [[.ptr b 0 0,cN]]):=by
  unfold Fr;rcases zk with rfl|⟨id,e,rows,rfl⟩
  ·simp only[ap,aw,ct]
  ·simp only[ap,aw,ct]
 obtain⟨eC,t2,dk,dH,g0,b6,cR,dS,bY,db,e3,a2,f',fP,ih⟩:=RM bO bC (ad7 (cN:=cN) bC qr) (λv=>by simp) hw e1 cs;rw[g0]at fP;have v6:=Lk b6 f' (D:=4) (s:=6) rfl;have dz:=Lk b6 f' (D:=5) (s:=7) rfl;have dY:a2.tmps.size=25:=by rw[f'.1,b6.len]
 have lay:=ad5 (w:=dS) (eC:=eC) (a2:=a2) (cs:=cs) dY rfl rfl;generalize asw:a2.tmps.getD 6 fy=gK at v6 lay;generalize asx:a2.tmps.getD 7 fy=gg at dz lay;rw[fP]at lay;have AT:=f'.put (bF.aD (.func (.func dT) #[] #[gK,gg])) (j 17);have xu:=Li (i:=17) (v:=.aD) b6 (by decide);obtain⟨t5,hp,vX⟩:=wn cC (ig Lh) asf asj asH xu;obtain⟨h5,jl,fv,fT,km,a5,hF,n9,tg⟩:=hp cR dS {a2.put (j 17) (.func (.func dT) #[] #[gK,gg])with defers:=[{target:=.fn (.func dT) #[gK,gg],args:= #[]}]} {eC with defers:=[{target:=.fn (.func dT) #[gK,gg],args:= #[]}]} cs db AT rfl;have aY:Steps ak (ew (eC.at {a2.put (j 17) (.func (.func dT) #[] #[gK,gg])with defers:=[{target:=.fn (.func dT) #[gK,gg],args:= #[]}]} [.code lD]) cs dS) (ew (eC.at a5 [.inRegion wl [0,1,2,3,4],.code .ret]) cs jl):=by
  conv=>lhs;rw[asa]
  refine .head step_seq (tg.trans ?_)
  conv=>lhs;rw[asb]
  refine .head step_seq ?_
  conv=>lhs;rw[asy]
  exact .one step_region
 obtain⟨aAN,uM⟩:=Lj vX (D:=7) (s:=9) rfl;obtain⟨eB,cq⟩:=Lj vX (D:=3) (s:=4) rfl;obtain⟨uL,hZ,u6,d1,d2,d3,d4,d5⟩:=Jg (b:=eC) (cs:=cs) (K:=[.code .ret]) (all:=wl) (i:=0) (rest:=[1,2,3,4]) cC rfl (rfl:h3 wl t5 (rL 0)=j Q) fT hF (asC t5 _);have ad9:=(hF.ext d1).put d3 (j 22);have ad':=Li (i:=22) (v:=t5.getD 9 .aD) vX (by decide);obtain⟨aea,asI⟩:=Lj ad' (D:=3) (s:=4) rfl;obtain⟨GO,hb,u7,f1,f2,f3,f4,f5⟩:=Jg (b:=eC) (cs:=cs) (K:=[.code .ret]) (all:=wl) (i:=1) (rest:=[2,3,4]) (O:=rL 1) (a:=a5.put (j 22) u6) (v:=.agg r) cC rfl (rfl:h3 wl _ (rL 1)=j Q) d2 ad9 (asD (by rw[asI];simp[cO,ad.row,c4,jP bC]));have RO:=(ad9.ext f1).put f3 (j 23);have aeb:=Li (i:=23) (v:=.agg r) ad' (by decide);obtain⟨fn,g1,cK,et⟩:=asF;have aec:(eU (eU t5 (j 22) (t5.getD 9 .aD)) (j 23) (.agg r)).length=25:=aeb.len;have aed:t5.length=25:=vX.len;have aee:=asE (eU (eU t5 (j 22) (t5.getD 9 .aD)) (j 23) (.agg r));have kr:(eU (eU t5 (j 22) (t5.getD 9 .aD)) (j 23) (.agg r)).getD 22 .aD= .ptr (gq h r).n 0 0:=by
  have:(eU (eU t5 (j 22) (t5.getD 9 .aD)) (j 23) (.agg r)).getD 22 .aD=t5.getD 9 .aD:=by simp[eU,dm,aed]
  rw[this,uM];rfl
 have asJ:(eU (eU t5 (j 22) (t5.getD 9 .aD)) (j 23) (.agg r)).getD 23 .aD= .agg r:=by simp[eU,dm,aed]
 rw[kr,asJ]at aee;have hX:=Wh cC xR;obtain⟨asK,v1,v2⟩:=IZ (w:=hb) RO aee g1 et cK;obtain⟨e,iy,iR,bJ⟩:=E5 (b:=eC) (cs:=cs) (k:=[.code .ret]) (rest:=[3,4]) (all:=wl) (i:=2) rfl (yD RO wl (rL 2) (rfl:h3 wl _ (rL 2)=j Q)) v2 (hX GO hb asK f2 v1) (by rintro aJ ⟨aZ,_,_,_,fE,h,_⟩;cases h);obtain⟨zc,cJ,z2,z3,u8,rfl,z5⟩:=iR;rcases bJ with⟨bg,af,_⟩|⟨fe,af,todo,asL⟩
 ·cases af
 injection af with af;subst af;have pI:Leaves ak Tryz.f148 ((a5.put (j 22) u6).put (j 23) u7).tmps (λe aJ=>∃aZ,Ext m h aZ ((aB.set (h.n+1) (j [mo])).set (h.n+1+1) (j [[.int o c]]))/\bW ak aZ ((aB.set (h.n+1) (j [mo])).set (h.n+1+1) (j [[.int o c]])) aJ/\Below m.base w aJ/\∃u,e= .returned u/\bF ak aZ ((aB.set (h.n+1) (j [mo])).set (h.n+1+1) (j [[.int o c]])) (.bx [.agg mo,.int o c]) u) [{target:=.fn (.func dT) #[gK,gg],args:= #[]}] (.panicking [{v:=u8,recovered:=R}]) iy:=by refine leaves_cons (f:=dT) (args:= #[gK,gg]) (by simp) (by simp[go_sem]) ?_;refine(ar4 (code:=c) z2 (((((v6.ext fv).ext d1).ext f1).ext cJ)) (((((dz.ext fv).ext d1).ext f1).ext cJ)) z5 iD sW (by omega) rfl).mono ?_;rintro e k8 aJ ⟨⟨v,rfl⟩,rfl,GP,ep,gC,jS⟩;have kl:=RN (h:=(aB.set (h.n+1) (j [mo])).set (h.n+1+1) (j [[.int o c]])) (v:=.bx [.agg mo,.int o c]) aeb (by have mH:((aB.set (h.n+1) (j [mo])).set (h.n+1+1) (j [[.int o c]])).cell (h.n+1)=j [mo]:=(dL (by omega)).trans i7;simp only[ap,aw,mH]);obtain⟨u,cQ,g7⟩:=w9 gC ((RO.ext cJ).ext ep) kl;refine⟨u,cQ,GP,((((bY.trans fv).trans d1).trans f1).trans cJ).trans ep,gC,?_,u,rfl,g7⟩;have bT:cR.base=m.base:=bY.base;have bM:h5.base=cR.base:=fv.base;have du:uL.base=h5.base:=d1.base;have n':GO.base=uL.base:=f1.base;have mH:zc.base=GO.base:=cJ.base;rw[mH,n',du,bM,bT]at jS;rw[n',du,bM,bT]at z3;rw[du,bM,bT]at f4;rw[bM,bT]at d4;rw[bT]at km;exact((((e3.trans km).trans d4).trans f4).trans z3).trans jS
 have asM:((a5.put (j 22) u6).put (j 23) u7).defers=[{target:=.fn (.func dT) #[gK,gg],args:= #[]}]:=n9;obtain⟨e,ti,uw,iR,az,lu,ai⟩:=leaves_steps [{target:=.fn (.func dT) #[gK,gg],args:= #[]}] (.panicking [{v:=u8,recovered:=R}]) iy {(eC.at ((a5.put (j 22) u6).put (j 23) u7) todo)with mode:=.panicking [{v:=u8,recovered:=R}]} cs rfl asM rfl (by simp[Frame.at,dk]) (by simpa[Frame.at]using dH) pI;exact⟨e,ti,uw,iR,Comes.of_steps (ih.trans (lay.trans (aY.trans (d5.trans (f5.trans asL))))) az,lu.trans dk,ai⟩
end
section
variable{h:ad}{ah ao:Nat->Prop}{b:Nat}{G:be}
theorem RP(g:gE h ah ao b G)(r:List I):hl h ah ao b (gq h r) G [h.n+1+1,h.n+1,h.n] []:=(((hl.start g).push [r]).push [mo]).push [[.int o 0]]
theorem Ll(g:gE h ah ao b G)(d':G.dE){x:ay}{r:List I}(an:ck x r):aM ak T 155 [.ptr b 0 0,.agg r] (gq h r)=j (.inl (.int o (rz G x)),gq h r):=by obtain⟨dX,eb,cK⟩:=(RP g r).aro;exact ary cK d' an
theorem asN{x:ay}(aR:rz G x=0):x.size<=100000:=by
 have:x.code=0:=by
  unfold rz at aR;split at aR
  ·exact aR
  ·rename_i al;simpa using al
 have:=adJ this;omega
theorem RQ(g:gE h ah ao b G)(d':G.dE){x:ay}{r:List I}(an:ck x r)(a7:fH 3 cN (gn aV))(ab:aV.length<=1000000)(aR:rz G x=0):∃aB,(∃q,aM ak T 157 [.ptr (gq h r).n 0 0,.agg r] ((gq h r).push [[.ptr b 0 0,cN]])=j (q,aB)/\GX aV G x q)/\hl h ah ao b aB (g6 aV x G).1 [(gq h r).n,h.n+1+1,h.n+1,h.n] []/\aB.cell (h.n+1)=j [mo]/\aB.cell (h.n+1+1)=j [[.int o 0]]:=by
 have m1:=(RP g r).push [[.ptr b 0 0,cN]];obtain⟨aB,e,cR,k, -, -⟩:=m1.Lc (cn:=λaB=>∃q,aM ak T 157 [.ptr (gq h r).n 0 0,.agg r] ((gq h r).push [[.ptr b 0 0,cN]])=j (q,aB)/\GX aV G x q) (ei:=(g6 aV x G).1) λdX eb cK _ DP=>by obtain⟨q,aB,e,bK,d⟩:=arB a7.iH ab _ x (bS _) (asN aR) r ((gq h r).push [[.ptr b 0 0,cN]]) dX eb G cK d' (by simp only[ek];omega) (DP _ (by simp)) fU an;exact⟨aB,⟨q,e,bK⟩,d⟩
 refine⟨aB,e,cR,(k _ (by simp)).trans ?_,(k _ (by simp)).trans ?_⟩
 ·exact(eG (by simp only[gq,ek];omega)).trans AK
 ·exact(eG (by simp only[gq,ek];omega)).trans AJ
theorem aef{rows:List (List I)}(a7:fH e cN rows):cN= .aC\/∃id e rows,cN= .bN id e rows:=by
 rcases a7 with⟨_,h⟩|⟨id,h⟩
 ·exact .inl h
 ·exact .inr ⟨_,_,_,h⟩
theorem asO(g:gE h ah ao b G)(d':G.dE){x:ay}{r:List I}(an:ck x r)(a7:fH 3 cN (gn aV))(ab:aV.length<=1000000):∃q,AC ak jo [.ptr b 0 0,.agg r,cN] h q/\ZR [.ptr b 0 0,.agg r,cN] h q:=by
 obtain⟨bO,bC⟩:=an.one;have qr:=Ll g d' an;by_cases aR:rz G x=0
 ·rw[aR]at qr;obtain⟨aB,⟨q,xR,lW⟩,a',iD,sW⟩:=RQ g d' an a7 ab aR;rcases lW with⟨og,bZ,rfl,db⟩|⟨og,rfl⟩
  ·obtain⟨dj,eQ⟩:=db.one;refine⟨_,asv bO bC dj eQ (aef a7) qr xR iD sW,?_⟩;rintro dX eb dH wm e3 gl G3 zl e et Br xh Lm Ln;simp only[xf,I.ptr.injEq,I.agg.injEq,and_true]at e;obtain⟨rfl,rfl,rfl⟩:=e;have rh:=Ll et Br xh;rw[qr]at rh;simp only[hg,iQ,Sum.inl.injEq,I.int.injEq,true_and,and_true]at rh;obtain⟨bw,⟨q,Bs,RR⟩,GZ, -, -⟩:=RQ et Br xh Lm Ln rh.symm;rw[xR]at Bs;simp only[hg,iQ]at Bs;obtain⟨rfl,rfl⟩:=Bs;have aN:hJ zl wm e3=g6 zl e3 wm:=by rw[hJ,if_neg (by simp[<-rh])]
   rcases RR with⟨DQ,gU,cq,f'⟩|⟨_,cq⟩
   ·simp only[Sum.inl.injEq,I.agg.injEq]at cq;subst cq;rw[aN];exact⟨bZ,_,by rw[DQ],f',((GZ.set (by simp) _).set (by simp) _).zh⟩
   ·cases cq
  ·refine⟨_,asG bO bC (aef a7) qr xR iD sW,?_⟩;rintro dX eb dH wm e3 gl G3 zl e et Br xh Lm Ln;simp only[xf,I.ptr.injEq,I.agg.injEq,and_true]at e;obtain⟨rfl,rfl,rfl⟩:=e;have rh:=Ll et Br xh;rw[qr]at rh;simp only[hg,iQ,Sum.inl.injEq,I.int.injEq,true_and,and_true]at rh;obtain⟨bw,⟨q,Bs,RR⟩,GZ, -, -⟩:=RQ et Br xh Lm Ln rh.symm;rw[xR]at Bs;simp only[hg,iQ]at Bs;obtain⟨rfl,rfl⟩:=Bs;have aN:hJ zl wm e3=g6 zl e3 wm:=by rw[hJ,if_neg (by simp[<-rh])]
   rcases RR with⟨_,gU,cq,_⟩|⟨DQ,cq⟩
   ·cases cq
   ·simp only[Sum.inr.injEq,I.iface.injEq,I.int.injEq,true_and]at cq;have U:(g6 zl e3 wm).2.1=cp:=by
     rw[UE]at DQ ⊢;split
     ·rfl
     ·rename_i F;rw[if_neg F]at DQ;split
      ·rfl
      ·rename_i J;rw[if_neg J]at DQ;exact absurd rfl DQ
    rw[aN,U];exact⟨mo,_,by rw[cq],qq,((GZ.set (by simp) _).set (by simp) _).zh⟩
 ·refine⟨_,ast bO bC aR qr,?_⟩;rintro dX eb dH wm e3 gl G3 zl e et Br xh Lm Ln;simp only[xf,I.ptr.injEq,I.agg.injEq,and_true]at e;obtain⟨rfl,rfl,rfl⟩:=e;have rh:=Ll et Br xh;rw[qr]at rh;simp only[hg,iQ,Sum.inl.injEq,I.int.injEq,true_and,and_true]at rh;have aN:hJ zl wm e3=(wm,cp,rz wm e3):=by rw[hJ,if_pos (by rw[<-rh];exact aR)]
  rw[aN];exact⟨mo,_,by rw[rh],qq,((RP et r).set (by simp) _).zh⟩
theorem asP:T.ext jo=j FG:=by show i8 jo=_;unfold i8;exact if_pos rfl
theorem aeg(g:gE h ah ao b G)(d':G.dE){x:ay}{r:List I}(an:ck x r)(a7:fH 3 cN (gn aV))(ab:aV.length<=1000000):∃E,(∃bZ,aM ak T 148 [.ptr b 0 0,.agg r,cN] h=j (.inl (.bx [.agg bZ,.int o (hJ aV G x).2.2]),E)/\ck (hJ aV G x).2.1 bZ)/\ic h ah ao b E (hJ aV G x).1:=by
 have H:=asO g d' an a7 ab;have e:aM ak T jo [.ptr b 0 0,.agg r,cN] h=j (Classical.choose H):=by unfold aM;rw[asP];show FG _ _=_;unfold FG;rw[dif_pos H]
 obtain⟨bZ,E,F,J,af⟩:=(Classical.choose_spec H).2 ah ao b G x r cN aV rfl g d' an a7 ab;rw[F]at e;exact⟨E,⟨bZ,e,J⟩,af⟩
end
structure hI(c:hU)(n:fl):Prop where
 ms:c.ms.length=4
 S:n.S.Good
 below:n.below.length<=100
 cV:n.top.stack.length<=100000
 vq:n.top.names.length<=100000
 log:n.S.log.length<=1000000
theorem hI.len{c:hU}{n:fl}(O:hI c n):c.ms.length=n.S.kept.length:=O.ms.trans O.S.kept.symm
def eL(am:ad)(aL aF:Nat->Prop)(c:hU)(L:List b2)(i:Nat)(n:fl)(q:bG×ay×Int)(a8:I⊕I)(E:ad):Prop:=(q.2.2=0/\a8= .inl (.bx [])/\aQ am aL aF E (put c L i {n with S:=q.1,top:={n.top with stack:=n.top.stack++[q.2.1]}}))\/(q.2.2≠0/\a8= .inr (.iface lZ (.int o q.2.2))/\∃b4:fl,b4.S=q.1/\aQ am aL aF E (put c L i b4))
section
variable{h E am:ad}{ah ao aL aF:Nat->Prop}{L:List b2}{c:hU}{i:Nat}{n:fl}
theorem eL.no{S:bG}{k:Int}(ab:k≠0)(b4:fl)(cG:b4.S=S)(s:aQ am aL aF E (put c L i b4)):eL am aL aF c L i n (S.no k) (.inr (.iface lZ (.int o k))) E:=.inr ⟨ab,rfl,b4,cG,s⟩
theorem eL.ok{S:bG}{v:ay}(s:aQ am aL aF E (put c L i {n with S:=S,top:={n.top with stack:=n.top.stack++[v]}})):eL am aL aF c L i n (S.ok v) (.inl (.bx [])) E:=.inl ⟨rfl,rfl,s⟩
theorem eL.fail(a:eK c L i n){k:Int}(ab:k≠0)(s:aQ am aL aF E L):eL am aL aF c L i n (n.S.no k) (.inr (.iface lZ (.int o k))) E:=eL.no ab n rfl (by rw[a.same];exact s)
theorem eL.drop{X:b2}{q:bG×ay×Int}{a8:I⊕I}(r:eL am aL aF c (X::L) (i+1) n q a8 E):eL am aL aF c L i n q a8 E:=by
 rcases r with⟨a,b,s⟩|⟨a,b,b4,e,s⟩
 ·exact .inl ⟨a,b,s.drop⟩
 ·exact .inr ⟨a,b,b4,e,s.drop⟩
theorem pb(s:aQ am aL aF h L)(a:eK c L i n)(ag:n.below.length<=100)(az:n.top.stack.length<=100000){v:ay}{r:List I}(U:ck v r):∃E,aM ak T om [.ptr c.bp 0 0,.agg r] h=j (.inl (.bx []),E)/\aQ am aL aF E (put c L i {n with top:={n.top with stack:=n.top.stack++[v]}}):=by obtain⟨E,e,eD⟩:=ap9 s i a.m U (by omega) (by omega);rw[a.wj]at eD;exact⟨E,e,eD⟩
theorem RS(s:aQ am aL aF h L)(a:eK c L i n){v:ay}(bJ:n.top.stack=st++[v])(ag:n.below.length<=100)(ai:st.length<=100000):∃E r,aM ak T 144 [.ptr c.bp 0 0] h=j (.inl (.agg r),E)/\ck v r/\aQ am aL aF E (put c L i {n with top:={n.top with stack:=st}}):=by obtain⟨E,⟨r,e,U⟩,eD⟩:=ap' s i a.m bJ (by omega) (by omega);rw[a.wj]at eD;exact⟨E,r,e,U,eD⟩
theorem G4(s:aQ am aL aF h L)(a:eK c L i n){ei:be}(kF:∀ah ao,gE h ah ao c.cl n.S.G->∃E,cn E/\ic h ah ao c.cl E ei):∃E,cn E/\aQ am aL aF E (put c L i {n with S:={n.S with G:=ei}}):=by obtain⟨E,r,eD⟩:=s.call (cn:=cn) (Y:=iG c.cl ei) (i+2) a.g kF;rw[a.arT]at eD;exact⟨E,r,eD⟩
theorem qs(s:aQ am aL aF h L)(a:eK c L i n)(ai:c.ms.length=n.S.kept.length):(∀k:Nat,cO R k h (.ptr c.bp 0 0)=j (.ptr c.aG 0 0))/\(∀k:Nat,cO R k h (.ptr c.aG 0 0)=j (.ptr c.cl 0 0))/\∀k:Nat,cO R k h (.ptr c.aG 0 1)=j (.ptr c.cr 0 0):=by obtain⟨dZ,ea,aI,g,a'⟩:=pa s i a.m;obtain⟨dk,dH⟩:=G1 s a.b ai;refine⟨λk=>?_,dk,dH⟩;rw[gm,a'.m,da,qT,da,qi];rfl
theorem ni(s:aQ am aL aF h L)(a:eK c L i n)(ag:n.below.length<=100):aM ak T Ku [.ptr c.bp 0 0] h=j (.inl (.ptr n.bh n.below.length 0),h)/\∀k:Nat,cO R k h (.ptr n.bh n.below.length 0)=j (.int o n.top.bD):=by obtain⟨dZ,ea,aI,g,a'⟩:=pa s i a.m;exact⟨Kw a'.m (by omega),λk=>a'.rd k 0 _ (oq n.top dZ ea aI g a'.aN.dx.1).2.2.2.2.2.1⟩
theorem DR(t:gr):bi t=[.int o t.parent,.int o t.gate,.int o t.fm,.int o t.cell,.int o t.bD,.int o t.func]:=rfl
theorem asQ{p n:Int}{v:ay}{S:bG}:hr p 13 k n [v] S=if v.kind≠4 then S.no 2 else if gO (S.G.fm v.n) 0=R then S.no 9 else if 0<=(S.G.target v.n).1.bD then S.no 2 else({S with log:=S.log++[jI.mk p (S.G.target v.n).1.cell 1 v.n]}:bG).ok (l6 (S.cells.getD (S.G.target v.n).1.cell.toNat 0)):=rfl
theorem aeh{G:be}(d':G.dE){i:Int}{k:Nat}(ag:gO (G.fm i) k=Q)(hp:¬0<=(G.target i).1.bD):0<=(G.target i).1.cell/\(G.target i).1.cell<12:=by
 have bz:G.has i=Q:=by
  cases h:G.has i with
  |true=>rfl
  |false=>
    have:G.fm i=0:=by unfold be.fm;rw[if_pos (.inl (be.yk h))]
    rw[this]at ag;have J:gO 0 k=R:=by unfold gO;rw[Int.zero_ediv];decide
    rw[J]at ag;cases ag
 obtain⟨_,_,F|F⟩:=be.QX d' bz
 ·exact⟨F.2.1,F.2.2.1⟩
 ·omega
theorem asR(s:aQ am aL aF h L)(a:eK c L i n)(O:hI c n){v:ay}{r:List I}(U:ck v r)(k m:Int):∃a8 E,aM ak T 158 [.ptr c.bp 0 0,.agg r] h=j (a8,E)/\eL am aL aF c L i n (hr n.top.bD 13 k m [v] n.S) a8 E:=by
 rw[asQ];have aY:=s.push [r];have aP:=a.cons (bm h.n [r]);obtain⟨bO,bC⟩:=U.dx;by_cases ab:v.kind=4
 ·rw[if_neg (by simpa using ab)];obtain⟨bZ,dN,jg⟩:=tq (h:=h.push [r]) U ab;have mq:=RG aY aP.m aP.b aP.g O.len O.S.wf jg (k:=0) (q:=1) (by decide) (by decide);by_cases ag:gO (n.S.G.fm v.n) 0=Q
  ·rw[if_pos ag]at mq;rw[if_neg (by simp[ag])];have bf:=aY.push [bi (n.S.G.target v.n).1];have a2:=aP.cons (bm (h.push [r]).n [bi (n.S.G.target v.n).1]);by_cases hp:0<=(n.S.G.target v.n).1.bD
   ·rw[if_pos hp];have d:decide (0<=(n.S.G.target v.n).1.bD)=Q:=decide_eq_true hp;refine⟨_,_,?_,eL.fail a (by decide) bf.drop.drop⟩;refine bd Kk rfl ?_;unfold Gd;simp only[ap,aw,aA,ar,cx,bO,bC,dN,mq,DR,d,pK]
   ·rw[if_neg hp];have d:decide (0<=(n.S.G.target v.n).1.bD)=R:=decide_eq_false hp;obtain⟨gL,b5,ca⟩:=qs bf a2 O.len;obtain⟨cZ,j2⟩:=ni bf a2 O.below;obtain⟨af,bs,bP⟩:=ark bf (i+1+1+3) a2.w O.S.cells O.log (aeh O.S.wf ag hp) n.top.bD v.n;rw[a2.adY]at bP;have a3:=a2.put {n with S:={n.S with cells:=n.S.cells,log:=n.S.log++[⟨n.top.bD,(n.S.G.target v.n).1.cell,1,v.n⟩]}};obtain⟨aB,cq,cj⟩:=pb bP a3 O.below O.cV (G0 (n.S.cells.getD (n.S.G.target v.n).1.cell.toNat 0));rw[hn,eg,eg]at cj;refine⟨_,aB,?_,eL.ok cj.drop.drop⟩;have f0:b9 0 (.ptr c.bp 0 0)=j (.ptr c.bp 0 0):=rfl;have f1:b9 1 (.ptr c.aG 0 0)=j (.ptr c.aG 0 1):=rfl;have f2:b9 0 (.ptr n.bh n.below.length 0)=j (.ptr n.bh n.below.length 0):=rfl;rw[DR]at gL b5 ca cZ j2 bs;refine bd Kk rfl ?_;unfold Gd;simp only[ap,aw,aA,ar,cx,bO,bC,dN,mq,DR,d,ov,f0,f1,f2,gL,ca,cZ,j2,bs,RE,cq]
  ·rw[if_neg ag]at mq;rw[if_pos (by simpa using ag)];refine⟨_,_,?_,eL.fail a (by decide) aY.drop⟩;refine bd Kk rfl ?_;unfold Gd;simp only[ap,aw,aA,ar,cx,bO,bC,dN,mq]
 ·rw[if_pos ab];have dN:=tr (h:=h.push [r]) U ab;refine⟨_,_,?_,eL.fail a (by decide) aY.drop⟩;refine bd Kk rfl ?_;unfold Gd;simp only[ap,aw,aA,ar,cx,bO,bC,dN]
theorem asS{p n:Int}{v x:ay}{S:bG}:hr p 14 k n [v,x] S=if v.kind≠4\/x.kind≠1 then S.no 2 else if gO (S.G.fm v.n) 1=R then S.no 9 else if 0<=(S.G.target v.n).1.bD then S.no 2 else({S with log:=S.log++[jI.mk p (S.G.target v.n).1.cell 2 v.n],cells:=S.cells.set (S.G.target v.n).1.cell.toNat x.n}:bG).ok x:=rfl
theorem asT(s:aQ am aL aF h L)(a:eK c L i n)(O:hI c n){v x:ay}{r:List I}(U:ck v r)(an:ck x t)(k m:Int):∃a8 E,aM ak T 159 [.ptr c.bp 0 0,.agg r,.agg t] h=j (a8,E)/\eL am aL aF c L i n (hr n.top.bD 14 k m [v,x] n.S) a8 E:=by
 rw[asS];have aY:=(s.push [r]).push [t];have aP:=(a.cons (bm h.n [r])).cons (bm (h.push [r]).n [t]);obtain⟨bO,bC⟩:=U.dx;obtain⟨dj,eQ⟩:=an.dx;have a6:((h.push [r]).push [t]).cell h.n=j [r]:=(aY.cell 1 rfl).1;have c2:((h.push [r]).push [t]).cell (h.n+1)=j [t]:=(aY.cell 0 rfl).1;by_cases ab:v.kind=4
 ·obtain⟨bZ,dN,jg⟩:=tq (h:=(h.push [r]).push [t]) U ab;by_cases uC:x.kind=1
  ·rw[if_neg (by simp[ab,uC])];obtain⟨cM,xS,vx⟩:=tq (h:=(h.push [r]).push [t]) an uC;have mq:=RG aY aP.m aP.b aP.g O.len O.S.wf U (k:=1) (q:=2) (by decide) (by decide);by_cases ag:gO (n.S.G.fm v.n) 1=Q
   ·rw[if_pos ag]at mq;rw[if_neg (by simp[ag])];have bf:=aY.push [bi (n.S.G.target v.n).1];have a2:=aP.cons (bm ((h.push [r]).push [t]).n [bi (n.S.G.target v.n).1]);by_cases hp:0<=(n.S.G.target v.n).1.bD
    ·rw[if_pos hp];have d:decide (0<=(n.S.G.target v.n).1.bD)=Q:=decide_eq_true hp;refine⟨_,_,?_,eL.fail a (by decide) bf.drop.drop.drop⟩;refine bd Gi rfl ?_;unfold DA;simp only[ap,aw,aA,ar,cx,bO,bC,dj,eQ,a6,c2,dN,xS,mq,DR,d,pK]
    ·rw[if_neg hp];have d:decide (0<=(n.S.G.target v.n).1.bD)=R:=decide_eq_false hp;obtain⟨gL,b5,ca⟩:=qs bf a2 O.len;obtain⟨cZ,j2⟩:=ni bf a2 O.below;obtain⟨w,hw,_⟩:=an.uQ;have c3:(((h.push [r]).push [t]).push [bi (n.S.G.target v.n).1]).cell (h.n+1)=j [t]:=(bf.cell 1 rfl).1;have asU:t[1]? =j (.int o x.n):=by rw[hw];rfl
     obtain⟨af,bs,bP⟩:=arl bf (i+1+1+1+3) a2.w O.S.cells O.log (aeh O.S.wf ag hp) n.top.bD v.n x.n;rw[a2.adY]at bP;have a3:=a2.put {n with S:={n.S with cells:=n.S.cells.set (n.S.G.target v.n).1.cell.toNat x.n,log:=n.S.log++[⟨n.top.bD,(n.S.G.target v.n).1.cell,2,v.n⟩]}};have c4:=(bP.cell 1 rfl).1;simp only[ek]at c4;obtain⟨aB,cq,cj⟩:=pb bP a3 O.below O.cV an;rw[hn,eg,eg,eg]at cj;refine⟨_,aB,?_,eL.ok cj.drop.drop.drop⟩;have f0:b9 0 (.ptr c.bp 0 0)=j (.ptr c.bp 0 0):=rfl;have f1:b9 1 (.ptr c.aG 0 0)=j (.ptr c.aG 0 1):=rfl;have f2:b9 0 (.ptr n.bh n.below.length 0)=j (.ptr n.bh n.below.length 0):=rfl;rw[DR]at gL b5 ca cZ j2 bs c3;refine bd Gi rfl ?_;unfold DA;simp only[ap,aw,aA,ar,cx,bO,bC,dj,eQ,a6,c2,dN,xS,mq,DR,d,ov,f0,f1,f2,gL,ca,cZ,j2,c3,asU,bs,c4,cq]
   ·rw[if_neg ag]at mq;rw[if_pos (by simpa using ag)];refine⟨_,_,?_,eL.fail a (by decide) aY.drop.drop⟩;refine bd Gi rfl ?_;unfold DA;simp only[ap,aw,aA,ar,cx,bO,bC,dj,eQ,a6,c2,dN,xS,mq]
  ·rw[if_pos (.inr uC)];have xS:=tr (h:=(h.push [r]).push [t]) an uC;refine⟨_,_,?_,eL.fail a (by decide) aY.drop.drop⟩;refine bd Gi rfl ?_;unfold DA;simp only[ap,aw,aA,ar,cx,bO,bC,dj,eQ,a6,c2,dN,xS]
 ·rw[if_pos (.inl ab)];have dN:=tr (h:=(h.push [r]).push [t]) U ab;refine⟨_,_,?_,eL.fail a (by decide) aY.drop.drop⟩;refine bd Gi rfl ?_;unfold DA;simp only[ap,aw,aA,ar,cx,bO,bC,dj,eQ,a6,dN]
end
section
variable{h E am:ad}{ah ao aL aF:Nat->Prop}{L:List b2}{c:hU}{i:Nat}{n:fl}
theorem aei(s:aQ am aL aF h L)(a:eK c L i n)(ai:c.ms.length=n.S.kept.length)(d':n.S.G.dE){v:ay}{r:List I}(U:ck v r)(mP g:Int):∃E,aM ak T 160 [.ptr c.bp 0 0,.agg r,.int o mP,.int o g] h=j (if(n.S.G.derive v.n mP g).2.2=0 then .inl (.agg [.int o 4,.int o (n.S.G.derive v.n mP g).2.1,.aC])else .inr (.iface lZ (.int o (n.S.G.derive v.n mP g).2.2)),E)/\aQ am aL aF E (put c L i {n with S:={n.S with G:=(n.S.G.derive v.n mP g).1}}):=by
 have aY:=(s.push [r]).push [bB];have aP:=(a.cons (bm h.n [r])).cons (bm (h.push [r]).n [bB]);obtain⟨w,hw,au⟩:=U.uQ;obtain⟨bO,bC⟩:=U.dx;have a6:((h.push [r]).push [bB]).cell h.n=j [r]:=(aY.cell 1 rfl).1;obtain⟨gL,b5,ca⟩:=qs aY aP ai;have aq:r[1]? =j (.int o v.n):=by rw[hw];rfl
 obtain⟨J,ax,bf⟩:=G4 aY aP (cn:=λE=>aM ak T 172 [.ptr c.cl 0 0,.int o v.n,.int o mP,.int o g] ((h.push [r]).push [bB])=j (.inl (.bx [.int o (n.S.G.derive v.n mP g).2.1,.int o (n.S.G.derive v.n mP g).2.2]),E)) λah ao x=>adC x d' v.n mP g;rw[eg,eg]at bf;have c2:=(bf.cell 0 rfl).1;simp only[ek]at c2;have f0:b9 0 (.ptr c.bp 0 0)=j (.ptr c.bp 0 0):=rfl;have f1:b9 0 (.ptr c.aG 0 0)=j (.ptr c.aG 0 0):=rfl;by_cases al:(n.S.G.derive v.n mP g).2.2=0
 ·have d:decide ((n.S.G.derive v.n mP g).2.2=0)=Q:=decide_eq_true al;rw[if_pos al];have bP:=bf.set 0 rfl [[.int o 4,.int o (n.S.G.derive v.n mP g).2.1,.aC]];refine⟨_,?_,bP.drop.drop⟩;generalize n.S.G.derive v.n mP g=q at*;refine bd abz rfl ?_;unfold Qi;simp only[ap,aw,aA,ar,ct,cx,bO,bC,a6,gL,b5,f0,f1,aq,ax,d,ov,c2]
 ·have d:decide ((n.S.G.derive v.n mP g).2.2=0)=R:=decide_eq_false al;rw[if_neg al];refine⟨_,?_,bf.drop.drop⟩;generalize n.S.G.derive v.n mP g=q at*;refine bd abz rfl ?_;unfold Qi;simp only[ap,aw,aA,ar,cx,bO,bC,a6,gL,b5,f0,f1,aq,ax,d,pK]
theorem asV{p n:Int}{v:ay}{S:bG}:hr p 16 k n [v] S=if v.kind≠4 then S.no 2 else if S.G.gate.2.2≠0 then({S with G:=S.G.gate.1}:bG).no S.G.gate.2.2 else match S.G.gate.1.derive v.n 15 S.G.gate.2.1 with
   |(ei,m,c)=>if c≠0 then({S with G:=ei}:bG).no c else({S with G:=ei}:bG).ok (.mk 2 0 [oL m,.mk 5 S.G.gate.2.1 []]):=rfl
theorem asW(s:aQ am aL aF h L)(a:eK c L i n)(O:hI c n){v:ay}{r:List I}(U:ck v r)(k m:Int):∃a8 E,aM ak T 161 [.ptr c.bp 0 0,.agg r] h=j (a8,E)/\eL am aL aF c L i n (hr n.top.bD 16 k m [v] n.S) a8 E:=by
 rw[asV];have aY:=s.push [r];have aP:=a.cons (bm h.n [r]);obtain⟨bO,bC⟩:=U.dx;by_cases ab:v.kind=4
 ·rw[if_neg (by simpa using ab)];obtain⟨bZ,dN,jg⟩:=tq (h:=h.push [r]) U ab;obtain⟨gL,b5,ca⟩:=qs aY aP O.len;have f0:b9 0 (.ptr c.bp 0 0)=j (.ptr c.bp 0 0):=rfl;have f1:b9 0 (.ptr c.aG 0 0)=j (.ptr c.aG 0 0):=rfl;obtain⟨J,ax,bf⟩:=G4 aY aP (cn:=λE=>aM ak T 113 [.ptr c.cl 0 0] (h.push [r])=j (.inl (.bx [.int o n.S.G.gate.2.1,.int o n.S.G.gate.2.2]),E)) λah ao x=>aa' x O.S.wf;have a2:=aP.put {n with S:={n.S with G:=n.S.G.gate.1}};have RT:=bf;rw[eg]at RT;have c2:=(RT.cell 0 rfl).1;by_cases a7:n.S.G.gate.2.2=0
  ·rw[if_neg (by simpa using a7)];have Lo:decide (n.S.G.gate.2.2=0)=Q:=decide_eq_true a7;obtain⟨af,bs,bP⟩:=aei bf a2 O.len (O.S.wf.gate) U 15 n.S.G.gate.2.1;rw[hn]at bP;have a3:=aP.put {n with S:={n.S with G:=(n.S.G.gate.1.derive v.n 15 n.S.G.gate.2.1).1}};generalize n.S.G.gate.1.derive v.n 15 n.S.G.gate.2.1=q at*;obtain⟨ei,aZ,kF⟩:=q;simp only at bs bP a3 ⊢;by_cases al:kF=0
   ·subst al;rw[if_pos rfl]at bs;rw[if_neg (by simp)];have cj:=(bP.push [[.int o 4,.int o aZ,.aC]]).fresh 2;have a4:=(a3.cons (bm af.n [[.int o 4,.int o aZ,.aC]])).cons (FE (af.push [[.int o 4,.int o aZ,.aC]]).ids 2);have xT:ck (.mk 2 0 [oL aZ,.mk 5 n.S.G.gate.2.1 []]) [.int o 2,.int o 0,.bN (j af.ids) cD [[.int o 4,.int o aZ,.aC],[.int o 5,.int o n.S.G.gate.2.1,.aC]]]:=RF ⟨_,_,rfl,Le aZ,_,_,rfl,arP _,rfl⟩;obtain⟨bw,eX,cT⟩:=pb cj a4 O.below O.cV xT;rw[eg,eg,hn,eg]at cT;refine⟨_,bw,?_,eL.ok cT.drop.drop.drop⟩;refine bd Ko rfl ?_;unfold Gj;simp only[ap,aw,aA,ar,ct,oo,cx,bO,bC,dN,gL,b5,f0,f1,ax,Lo,ov,c2,bs,eX]
   ·rw[if_neg al]at bs;rw[if_pos al];rw[eg]at bP;refine⟨_,_,?_,eL.no al {n with S:={n.S with G:=ei}} rfl bP.drop⟩;refine bd Ko rfl ?_;unfold Gj;simp only[ap,aw,aA,ar,cx,bO,bC,dN,gL,b5,f0,f1,ax,Lo,ov,c2,bs]
  ·rw[if_pos a7];have Lo:decide (n.S.G.gate.2.2=0)=R:=decide_eq_false a7;refine⟨_,_,?_,eL.no a7 {n with S:={n.S with G:=n.S.G.gate.1}} rfl RT.drop⟩;refine bd Ko rfl ?_;unfold Gj;simp only[ap,aw,aA,ar,cx,bO,bC,dN,gL,b5,f0,f1,ax,Lo,pK]
 ·rw[if_pos ab];have dN:=tr (h:=h.push [r]) U ab;refine⟨_,_,?_,eL.fail a (by decide) aY.drop⟩;refine bd Ko rfl ?_;unfold Gj;simp only[ap,aw,aA,ar,cx,bO,bC,dN]
theorem aej(s:aQ am aL aF h L)(a:eK c L i n)(ag:n.below.length<=100){hH:List I}{g:I}(aN:ck f.arg hH)(a7:fH 3 g (gn f.ec))(az:f.stack=[])(aq:f.names=[]):(n.below.length+1=20->∃E,aM ak T 162 [.ptr c.bp 0 0,.agg (gu f hH .aC .aC g)] h=j (.inr (.iface lZ (.int o 4)),E)/\aQ am aL aF E L)/\(n.below.length+1≠20->∃E gV,aM ak T 162 [.ptr c.bp 0 0,.agg (gu f hH .aC .aC g)] h=j (.inl (.bx []),E)/\aQ am aL aF E (put c L i ⟨gV,n.S,n.below++[n.top],f⟩)):=by
 have lY:g.one=Q:=by rcases a7 with⟨_,rfl⟩|⟨id,rfl⟩<;>rfl
 have bC:=(oq f hH .aC .aC g aN.dx.1).2.1;have bO:=KP (f:=f) (s:=.aC) (n:=.aC) aN.dx rfl rfl lY;generalize k0:gu f hH .aC .aC g=row at*;have aY:=s.push [row];have aP:=a.cons (bm h.n [row]);obtain⟨_,_,_,_,a'⟩:=pa aY (i+1) aP.m;have ja:∀(k:Nat) (x:ad),x.cell c.bp=j [[.ptr c.aG 0 0,.br n.bh 0 (n.below.length+1) fk,.int o (n.S.left:Int)]]->cO R k x (.ptr c.bp 0 1)=j (.br n.bh 0 (n.below.length+1) fk):=λk x an=>by rw[gm,an];rfl
 have b5:=λk=>ja k _ a'.m;have f1:b9 1 (.ptr c.bp 0 0)=j (.ptr c.bp 0 1):=rfl;refine⟨λqK=>?_,λqK=>?_⟩
 ·have d:decide (((n.below.length+1:Nat):Int)=20)=Q:=decide_eq_true (by omega);refine⟨_,?_,aY.drop⟩;refine bd abD rfl ?_;unfold Qk;simp only[ap,aw,aA,ar,cx,bO,bC,f1,b5,d,pK]
 ·have d:decide (((n.below.length+1:Nat):Int)=20)=R:=decide_eq_false (by omega);have bf:=aY.push [row];have a2:=aP.cons (bm (h.push [row]).n [row]);obtain⟨_,_,_,_,wh⟩:=pa bf (i+2) a2.m;have ca:=λk=>ja k _ wh.m;obtain⟨af,aB,bs,cq,cj⟩:=arK bf (i+1+1) a2.m (f:=f) (a:=hH) (g:=g) aN a7 az aq (by omega) (jw:=h.n+1) (by rw[k0];exact(bf.cell 0 rfl).1);rw[a2.wj,eg,eg]at cj;have a6:(h.push [row]).cell h.n=j [row]:=(aY.cell 0 rfl).1;simp only[ek]at bs cq;refine⟨_,_,?_,cj.drop.drop⟩;refine bd abD rfl ?_;unfold Qk;simp only[ap,aw,aA,ar,cx,bO,bC,f1,b5,ca,d,ov,a6,bs,cq]
theorem asX{p n:Int}{v:ay}{S:bG}:hr p 9 k n [v] S=if v.kind≠2 then S.no 2 else S.ok (v.l.getD 0 cp):=rfl
theorem asY{p n:Int}{v:ay}{S:bG}:hr p 10 k n [v] S=if v.kind≠2 then S.no 2 else S.ok (v.l.getD 1 cp):=rfl
end
abbrev mS:cH:=147
section
variable{h E am:ad}{ah ao aL aF:Nat->Prop}{L:List b2}{c:hU}{i:Nat}{n:fl}
theorem asZ(k x y:Int):aM ak T 151 [.int o k,.int o x,.int o y] h=j (.inl (.int o (zS k x y)),h):=by
 unfold zS;by_cases F:k=1
 ·subst F;refine bd ii rfl ?_;unfold xF;simp only[ap,aw,aA,ar]
 have d1:decide (k=1)=R:=decide_eq_false F;rw[if_neg F];by_cases J:k=2
 ·subst J;rw[if_pos rfl];refine bd ii rfl ?_;unfold xF;simp only[ap,aw,aA,ar,d1]
 have d2:decide (k=2)=R:=decide_eq_false J;rw[if_neg J];by_cases af:k=3
 ·subst af;rw[if_pos rfl];refine bd ii rfl ?_;unfold xF;simp only[ap,aw,aA,ar,d1,d2]
 have d3:decide (k=3)=R:=decide_eq_false af;rw[if_neg af];by_cases aB:k=4
 ·subst aB;rw[if_pos rfl];by_cases ai:x<y
  ·have uS:decide (x<y)=Q:=decide_eq_true ai;rw[if_pos ai];refine bd ii rfl ?_;unfold xF;simp only[ap,aw,aA,ar,d1,d2,d3,uS]
  ·have uS:decide (x<y)=R:=decide_eq_false ai;rw[if_neg ai];refine bd ii rfl ?_;unfold xF;simp only[ap,aw,aA,ar,d1,d2,d3,uS]
 have d4:decide (k=4)=R:=decide_eq_false aB;rw[if_neg aB];by_cases bw:k=5
 ·subst bw;rw[if_pos rfl];by_cases ai:x=y
  ·have uS:decide (x=y)=Q:=decide_eq_true ai;rw[if_pos ai];refine bd ii rfl ?_;unfold xF;simp only[ap,aw,aA,ar,d1,d2,d3,d4,uS]
  ·have uS:decide (x=y)=R:=decide_eq_false ai;rw[if_neg ai];refine bd ii rfl ?_;unfold xF;simp only[ap,aw,aA,ar,d1,d2,d3,d4,uS]
 have d5:decide (k=5)=R:=decide_eq_false bw;rw[if_neg bw];refine bd ii rfl ?_;unfold xF;simp only[ap,aw,aA,ar,d1,d2,d3,d4,d5]
abbrev ed(op k m:Int):List I:=[.int o op,.int o k,.int o m]
abbrev fl.cV(n:fl)(l:List ay):fl:={n with top:={n.top with stack:=l}}
theorem tt(s:aQ am aL aF h L)(a:eK c L i n)(O:hI c n){v:ay}(bJ:n.top.stack=st++[v]):∃E r,aM ak T 144 [.ptr c.bp 0 0] h=j (.inl (.agg r),E)/\ck v r/\aQ am aL aF E (put c L i (n.cV st))/\eK c (put c L i (n.cV st)) i (n.cV st):=by have gp:=O.cV;rw[bJ]at gp;simp only[dy,fS]at gp;obtain⟨E,r,e,U,eD⟩:=RS s a bJ O.below (by omega);exact⟨E,r,e,U,eD,a.put _⟩
theorem Lp(s:aQ am aL aF h L)(a:eK c L i n)(O:hI c n){v w:ay}(bJ:n.top.stack=st++[v]++[w]):∃J af jx b6,aM ak T 144 [.ptr c.bp 0 0] h=j (.inl (.agg jx),J)/\aM ak T 144 [.ptr c.bp 0 0] J=j (.inl (.agg b6),af)/\ck w jx/\ck v b6/\aQ am aL aF af (put c L i (n.cV st))/\eK c (put c L i (n.cV st)) i (n.cV st):=by have gp:=O.cV;rw[bJ]at gp;simp only[dy,fS]at gp;obtain⟨J,bK,ax,hw,bf⟩:=RS s a bJ O.below (by simp;omega);obtain⟨af,gl,bs,U,bP⟩:=RS bf (a.put (n.cV (st++[v]))) rfl O.below (by omega);rw[hn]at bP;exact⟨J,af,bK,gl,ax,bs,hw,U,bP,a.put _⟩
theorem hI.ri{n:fl}(O:hI c n)(bJ:n.top.stack=st++l):hI c (n.cV st):=by have gp:=O.cV;rw[bJ]at gp;simp only[dy]at gp;exact⟨O.ms,O.S,O.below,by simp only;omega,O.vq,O.log⟩
theorem as0{p n:Int}{v x:ay}{S:bG}:hr p 6 k n [v,x] S=if v.kind≠1\/x.kind≠1 then S.no 2 else S.ok (l6 (zS k v.n x.n)):=rfl
theorem as1(s:aQ am aL aF h L)(a:eK c L i n)(O:hI c n){v w:ay}(bJ:n.top.stack=st++[v]++[w])(k m:Int):∃a8 E,aM ak T mS [.ptr c.bp 0 0,.agg (ed 6 k m)] h=j (a8,E)/\eL am aL aF c L i (n.cV st) (hr n.top.bD 6 k m [v,w] n.S) a8 E:=by
 rw[as0];have aY:=s.push [ed 6 k m];have aP:=a.cons (bm h.n [ed 6 k m]);obtain⟨cZ,j2⟩:=ni aY aP O.below;have a6:=(aY.cell 0 rfl).1;obtain⟨J,af,jx,b6,ax,bs,hw,U,bP,a3⟩:=Lp aY aP O bJ;rw[eg]at bP a3;have dj:=(O.ri (st:=st) (l:=[v]++[w]) (by rw[bJ,jA]));have cj:=(bP.push [bB]).push [bB];have cT:aQ am aL aF _ (bm (af.n+1) [bB]::bm af.n [jx]::bm h.n [ed 6 k m]::put c L i (n.cV st)):=cj.set 1 rfl [jx];have eo:aQ am aL aF _ (bm (af.n+1) [b6]::bm af.n [jx]::bm h.n [ed 6 k m]::put c L i (n.cV st)):=cT.set 0 rfl [b6];have iI:=(a3.cons (bm af.n [jx])).cons (bm (af.n+1) [b6]);obtain⟨bO,bC⟩:=hw.dx;obtain⟨jj,eQ⟩:=U.dx;have jU:=(cT.cell 0 rfl).1;have bT:=(eo.cell 0 rfl).1;have bM:=(eo.cell 1 rfl).1;have du:=(eo.cell 2 rfl).1;generalize tu:(((af.push [bB]).push [bB]).set af.n (j [jx])).set (af.n+1) (j [b6])=cc at*;by_cases ab:v.kind=1
 ·obtain⟨b0,Lq,jg⟩:=tq (h:=cc) U ab;by_cases uC:w.kind=1
  ·rw[if_neg (by simp[ab,uC])];obtain⟨bK,xS,kn⟩:=tq (h:=cc) hw uC;obtain⟨fv,EU,_⟩:=U.uQ;obtain⟨fT,EV,_⟩:=hw.uQ;have ep:b6[1]? =j (.int o v.n):=by rw[EU];rfl
   have gC:jx[1]? =j (.int o w.n):=by rw[EV];rfl
   obtain⟨cQ,kS,jb⟩:=pb eo iI O.below dj.cV (G0 (zS k v.n w.n));rw[eg,eg,eg,hn]at jb;refine⟨_,cQ,?_,eL.ok jb.drop.drop.drop⟩;refine bd ng rfl ?_;unfold mO;simp only[ap,aw,aA,ar,ct,oo,cx,cZ,a6,eZ,ax,bs,bO,bC,jj,eQ,jU,tu,bT,bM,du,Lq,xS,ep,gC,asZ,RE,kS]
  ·rw[if_pos (.inr uC)];have xS:=tr (h:=cc) hw uC;refine⟨_,_,?_,eL.no (by decide) (n.cV st) rfl eo.drop.drop.drop⟩;refine bd ng rfl ?_;unfold mO;simp only[ap,aw,aA,ar,ct,oo,cx,cZ,a6,eZ,ax,bs,bO,bC,jj,eQ,jU,tu,bT,bM,Lq,xS]
 ·rw[if_pos (.inl ab)];have Lq:=tr (h:=cc) U ab;refine⟨_,_,?_,eL.no (by decide) (n.cV st) rfl eo.drop.drop.drop⟩;refine bd ng rfl ?_;unfold mO;simp only[ap,aw,aA,ar,ct,oo,cx,cZ,a6,eZ,ax,bs,bO,bC,jj,eQ,jU,tu,bT,bM,Lq]
end
section
variable{h E am:ad}{ah ao aL aF:Nat->Prop}{L:List b2}{c:hU}{i:Nat}{n:fl}
theorem as2{p n:Int}{v x:ay}{S:bG}:hr p 8 k n [v,x] S=if(ay.mk 2 0 [v,x]).code≠0 then S.no 3 else S.ok (.mk 2 0 [v,x]):=rfl
theorem as3{p n:Int}{v:ay}{S:bG}:hr p 11 k n [v] S=if(ay.mk 3 p [v]).code≠0 then S.no 3 else S.ok (.mk 3 p [v]):=rfl
theorem as4{p n:Int}{v:ay}{S:bG}:hr p 12 k n [v] S=if v.kind≠3 then S.no 2 else if v.n≠p then S.no 10 else S.ok (v.l.getD 0 cp):=rfl
theorem as5(s:aQ am aL aF h L)(a:eK c L i n)(O:hI c n){v w:ay}(bJ:n.top.stack=st++[v]++[w])(k m:Int):∃a8 E,aM ak T mS [.ptr c.bp 0 0,.agg (ed 8 k m)] h=j (a8,E)/\eL am aL aF c L i (n.cV st) (hr n.top.bD 8 k m [v,w] n.S) a8 E:=by
 rw[as2];have aY:=s.push [ed 8 k m];have aP:=a.cons (bm h.n [ed 8 k m]);obtain⟨cZ,j2⟩:=ni aY aP O.below;have a6:=(aY.cell 0 rfl).1;obtain⟨J,af,jx,b6,ax,bs,hw,U,bP,a3⟩:=Lp aY aP O bJ;rw[eg]at bP a3;have dj:=(O.ri (st:=st) (l:=[v]++[w]) (by rw[bJ,jA]));have cj:=(bP.push [bB]).push [bB];have cT:aQ am aL aF _ (bm (af.n+1) [bB]::bm af.n [jx]::bm h.n [ed 8 k m]::put c L i (n.cV st)):=cj.set 1 rfl [jx];have eo:aQ am aL aF _ (bm (af.n+1) [b6]::bm af.n [jx]::bm h.n [ed 8 k m]::put c L i (n.cV st)):=cT.set 0 rfl [b6];have iI:=(a3.cons (bm af.n [jx])).cons (bm (af.n+1) [b6]);obtain⟨bO,bC⟩:=hw.dx;obtain⟨jj,eQ⟩:=U.dx;have jU:=(cT.cell 0 rfl).1;have bT:=(eo.cell 0 rfl).1;have bM:=(eo.cell 1 rfl).1;generalize tu:(((af.push [bB]).push [bB]).set af.n (j [jx])).set (af.n+1) (j [b6])=cc at*;have jb:=eo.fresh 2;have Dt:=iI.cons (FE cc.ids 2);have xT:ck (.mk 2 0 [v,w]) [.int o 2,.int o 0,.bN (j cc.ids) cD [b6,jx]]:=RF ⟨_,_,rfl,U,_,_,rfl,hw,rfl⟩;by_cases ab:(ay.mk 2 0 [v,w]).code=0
 ·rw[if_neg (by simpa using ab)];obtain⟨bZ,es,jE⟩:=adQ (h:=cc.fresh 2) xT ab;obtain⟨g7,mQ,la⟩:=pb jb Dt O.below dj.cV jE;rw[eg,eg,eg,eg,hn]at la;refine⟨_,g7,?_,eL.ok la.drop.drop.drop.drop⟩;refine bd ng rfl ?_;unfold mO;simp only[ap,aw,aA,ar,ct,oo,cx,cZ,a6,eZ,ax,bs,bO,bC,jj,eQ,jU,tu,bT,bM,es,mQ]
 ·rw[if_pos ab];have es:=adR (h:=cc.fresh 2) xT ab;refine⟨_,_,?_,eL.no (by decide) (n.cV st) rfl jb.drop.drop.drop.drop⟩;refine bd ng rfl ?_;unfold mO;simp only[ap,aw,aA,ar,ct,oo,cx,cZ,a6,eZ,ax,bs,bO,bC,jj,eQ,jU,tu,bT,bM,es]
theorem ck.part{v:ay}{r:List I}(U:ck v r){D:Nat}{x:ay}(an:v.l[D]? =j x):∃bV Bt,r[2]? =j bV/\(∀q:kf,fg (j cD) Z bV (.int q (D:Int))=j (.ip Bt 0))/\gX Q 3 Bt 0=j (.agg Bt)/\ck x Bt:=by
 cases v with
 |mk k n l=>
   obtain⟨w,es,rfl,F,J⟩:=U;obtain⟨Bt,av,ax⟩:=J.get an;rcases F with⟨rfl,_⟩|⟨id,rfl⟩
   ·simp at av
   ·exact⟨_,Bt,rfl,λq=>yU rfl av,jP ax.dx.1,ax⟩
theorem aek(s:aQ am aL aF h L)(a:eK c L i n)(O:hI c n){v:ay}(bJ:n.top.stack=st++[v])(al:v.code=0){D:Nat}(aa:D<2):∃a8 E,aM ak T 153 [.ptr c.bp 0 0,.int o (D:Int)] h=j (a8,E)/\eL am aL aF c L i (n.cV st) (if v.kind≠2 then n.S.no 2 else n.S.ok (v.l.getD D cp)) a8 E:=by
 obtain⟨J,r,ax,U,bf,a2⟩:=tt s a O bJ;have dj:=O.ri bJ;by_cases ab:v.kind=2
 ·rw[if_neg (by simpa using ab)];obtain⟨x,y,F5⟩:=(UK al).1 ab;obtain⟨z,aR⟩:∃z,v.l[D]? =j z:=by rw[F5];match D,aa with|0,_=>exact⟨x,rfl⟩|1,_=>exact⟨y,rfl⟩
  have RU:v.l.getD D cp=z:=by simp[dm,aR]
  rw[RU];obtain⟨bZ,dN,jE⟩:=tq (h:=J) U ab;obtain⟨bO,bC⟩:=jE.dx;obtain⟨bV,DS,dU,g8,ia,k1⟩:=jE.part aR;have bP:=bf.push [bZ];have a3:=a2.cons (bm J.n [bZ]);have c3:=(bP.cell 0 rfl).1;obtain⟨aB,cq,cj⟩:=pb bP a3 O.below dj.cV k1;rw[eg,hn]at cj;refine⟨_,aB,?_,eL.ok cj.drop⟩;refine bd abF rfl ?_;unfold Qn;simp only[ap,aw,aA,ar,cx,ax,dN,bO,bC,c3,dU,g8,ia,cq]
 ·rw[if_pos ab];have dN:=tr (h:=J) U ab;refine⟨_,_,?_,eL.no (by decide) (n.cV st) rfl bf⟩;refine bd abF rfl ?_;unfold Qn;simp only[ap,aw,aA,ar,cx,ax,dN]
theorem as6(s:aQ am aL aF h L)(a:eK c L i n)(O:hI c n){v:ay}(bJ:n.top.stack=st++[v])(al:v.code=0)(k m:Int):∃a8 E,aM ak T mS [.ptr c.bp 0 0,.agg (ed 9 k m)] h=j (a8,E)/\eL am aL aF c L i (n.cV st) (hr n.top.bD 9 k m [v] n.S) a8 E:=by
 rw[asX];have aY:=s.push [ed 9 k m];have aP:=a.cons (bm h.n [ed 9 k m]);obtain⟨cZ,j2⟩:=ni aY aP O.below;have a6:=(aY.cell 0 rfl).1;obtain⟨a8,J,ax,bK⟩:=aek aY aP O bJ al (D:=0) (by decide);have ax:aM ak T 153 [.ptr c.bp 0 0,.int o 0] (h.push [ed 9 k m])=j (a8,J):=ax;refine⟨a8,J,?_,bK.drop⟩;rcases bK with⟨_,rfl,_⟩|⟨_,rfl,_⟩
 ·refine bd ng rfl ?_;unfold mO;simp only[ap,aw,aA,ar,cx,cZ,a6,eZ,ax]
 ·refine bd ng rfl ?_;unfold mO;simp only[ap,aw,aA,ar,cx,cZ,a6,eZ,ax]
theorem as7(s:aQ am aL aF h L)(a:eK c L i n)(O:hI c n){v:ay}(bJ:n.top.stack=st++[v])(al:v.code=0)(k m:Int):∃a8 E,aM ak T mS [.ptr c.bp 0 0,.agg (ed 10 k m)] h=j (a8,E)/\eL am aL aF c L i (n.cV st) (hr n.top.bD 10 k m [v] n.S) a8 E:=by
 rw[asY];have aY:=s.push [ed 10 k m];have aP:=a.cons (bm h.n [ed 10 k m]);obtain⟨cZ,j2⟩:=ni aY aP O.below;have a6:=(aY.cell 0 rfl).1;obtain⟨a8,J,ax,bK⟩:=aek aY aP O bJ al (D:=1) (by decide);have ax:aM ak T 153 [.ptr c.bp 0 0,.int o 1] (h.push [ed 10 k m])=j (a8,J):=ax;refine⟨a8,J,?_,bK.drop⟩;rcases bK with⟨_,rfl,_⟩|⟨_,rfl,_⟩
 ·refine bd ng rfl ?_;unfold mO;simp only[ap,aw,aA,ar,cx,cZ,a6,eZ,ax]
 ·refine bd ng rfl ?_;unfold mO;simp only[ap,aw,aA,ar,cx,cZ,a6,eZ,ax]
theorem as8(s:aQ am aL aF h L)(a:eK c L i n)(O:hI c n){v:ay}(bJ:n.top.stack=st++[v])(k m:Int):∃a8 E,aM ak T mS [.ptr c.bp 0 0,.agg (ed 11 k m)] h=j (a8,E)/\eL am aL aF c L i (n.cV st) (hr n.top.bD 11 k m [v] n.S) a8 E:=by
 rw[as3];have aY:=s.push [ed 11 k m];have aP:=a.cons (bm h.n [ed 11 k m]);obtain⟨cZ,_⟩:=ni aY aP O.below;have a6:=(aY.cell 0 rfl).1;obtain⟨J,r,ax,U,bf,a2⟩:=tt aY aP O bJ;rw[eg]at bf a2;have dj:=O.ri bJ;obtain⟨bO,bC⟩:=U.dx;have bP:=bf.push [r];have a3:=a2.cons (bm J.n [r]);have c3:=(bP.cell 0 rfl).1;obtain⟨_,G5⟩:=ni bP a3 O.below;have cj:=bP.fresh 1;have a4:=a3.cons (FE (J.push [r]).ids 1);obtain⟨_,ael⟩:=ni cj a4 O.below;have f0:b9 0 (.ptr n.bh n.below.length 0)=j (.ptr n.bh n.below.length 0):=rfl;have xT:ck (.mk 3 n.top.bD [v]) [.int o 3,.int o n.top.bD,.bN (j J.ids) cD [r]]:=RF ⟨_,_,rfl,U,rfl⟩;by_cases ab:(ay.mk 3 n.top.bD [v]).code=0
 ·rw[if_neg (by simpa using ab)];obtain⟨bZ,es,jE⟩:=adQ (h:=(J.push [r]).fresh 1) xT ab;obtain⟨bw,eX,cT⟩:=pb cj a4 O.below dj.cV jE;rw[eg,eg,eg,hn]at cT;refine⟨_,bw,?_,eL.ok cT.drop.drop.drop⟩;refine bd ng rfl ?_;unfold mO;simp only[ap,aw,aA,ar,ct,cx,cZ,a6,eZ,ax,bO,bC,c3,f0,G5,ael,es,eX]
 ·rw[if_pos ab];have es:=adR (h:=(J.push [r]).fresh 1) xT ab;refine⟨_,_,?_,eL.no (by decide) (n.cV st) rfl cj.drop.drop.drop⟩;refine bd ng rfl ?_;unfold mO;simp only[ap,aw,aA,ar,ct,cx,cZ,a6,eZ,ax,bO,bC,c3,f0,G5,ael,es]
theorem as9(s:aQ am aL aF h L)(a:eK c L i n)(O:hI c n){v:ay}(bJ:n.top.stack=st++[v])(al:v.code=0)(k m:Int):∃a8 E,aM ak T mS [.ptr c.bp 0 0,.agg (ed 12 k m)] h=j (a8,E)/\eL am aL aF c L i (n.cV st) (hr n.top.bD 12 k m [v] n.S) a8 E:=by
 rw[as4];have aY:=s.push [ed 12 k m];have aP:=a.cons (bm h.n [ed 12 k m]);obtain⟨cZ,_⟩:=ni aY aP O.below;have a6:=(aY.cell 0 rfl).1;obtain⟨J,r,ax,U,bf,a2⟩:=tt aY aP O bJ;rw[eg]at bf a2;have dj:=O.ri bJ;have f0:b9 0 (.ptr n.bh n.below.length 0)=j (.ptr n.bh n.below.length 0):=rfl;by_cases ab:v.kind=3
 ·rw[if_neg (by simpa using ab)];obtain⟨x,an⟩:=(UK al).2 ab;have aR:v.l[0]? =j x:=by rw[an];rfl
  have RU:v.l.getD 0 cp=x:=by rw[an];rfl
  rw[RU];obtain⟨bZ,dN,jE⟩:=tq (h:=J) U ab;obtain⟨bO,bC⟩:=jE.dx;obtain⟨bV,DS,dU,g8,ia,k1⟩:=jE.part aR;have g8:∀q:kf,fg (j cD) Z bV (.int q 0)=j (.ip DS 0):=g8;obtain⟨w,hw,_⟩:=jE.uQ;have aq:bZ[1]? =j (.int o v.n):=by rw[hw];rfl
  have bP:=bf.push [bZ];have a3:=a2.cons (bm J.n [bZ]);have c3:=(bP.cell 0 rfl).1;obtain⟨_,G5⟩:=ni bP a3 O.below;by_cases hp:v.n=n.top.bD
  ·rw[if_neg (by simpa using hp)];have d:decide (v.n=n.top.bD)=Q:=decide_eq_true hp;obtain⟨aB,cq,cj⟩:=pb bP a3 O.below dj.cV k1;rw[eg,eg,hn]at cj;refine⟨_,aB,?_,eL.ok cj.drop.drop⟩;refine bd ng rfl ?_;unfold mO;simp only[ap,aw,aA,ar,cx,cZ,a6,eZ,ax,dN,bO,bC,c3,aq,f0,G5,d,ov,dU,g8,ia,cq]
  ·rw[if_pos hp];have d:decide (v.n=n.top.bD)=R:=decide_eq_false hp;refine⟨_,_,?_,eL.no (by decide) (n.cV st) rfl bP.drop.drop⟩;refine bd ng rfl ?_;unfold mO;simp only[ap,aw,aA,ar,cx,cZ,a6,eZ,ax,dN,bO,bC,c3,aq,f0,G5,d,pK]
 ·rw[if_pos ab];have dN:=tr (h:=J) U ab;refine⟨_,_,?_,eL.no (by decide) (n.cV st) rfl bf.drop⟩;refine bd ng rfl ?_;unfold mO;simp only[ap,aw,aA,ar,cx,cZ,a6,eZ,ax,dN]
theorem as'(s:aQ am aL aF h L)(a:eK c L i n)(O:hI c n)(k m:Int):∃E,aM ak T mS [.ptr c.bp 0 0,.agg (ed 1 k m)] h=j (.inl (.bx []),E)/\aQ am aL aF E (put c L i (n.cV (n.top.stack++[cp]))):=by have aY:=s.push [ed 1 k m];have aP:=a.cons (bm h.n [ed 1 k m]);obtain⟨cZ,_⟩:=ni aY aP O.below;have a6:=(aY.cell 0 rfl).1;obtain⟨J,ax,bf⟩:=pb aY aP O.below O.cV qq;rw[eg]at bf;refine⟨J,?_,bf.drop⟩;refine bd ng rfl ?_;unfold mO;simp only[ap,aw,aA,ar,cx,cZ,a6,eZ,ax]
theorem ata(s:aQ am aL aF h L)(a:eK c L i n)(O:hI c n)(k m:Int):∃E,aM ak T mS [.ptr c.bp 0 0,.agg (ed 2 k m)] h=j (.inl (.bx []),E)/\aQ am aL aF E (put c L i (n.cV (n.top.stack++[l6 m]))):=by have aY:=s.push [ed 2 k m];have aP:=a.cons (bm h.n [ed 2 k m]);obtain⟨cZ,_⟩:=ni aY aP O.below;have a6:=(aY.cell 0 rfl).1;obtain⟨J,ax,bf⟩:=pb aY aP O.below O.cV (G0 m);rw[eg]at bf;refine⟨J,?_,bf.drop⟩;refine bd ng rfl ?_;unfold mO;simp only[ap,aw,aA,ar,cx,cZ,a6,eZ,RE,ax]
theorem atb(s:aQ am aL aF h L)(a:eK c L i n)(O:hI c n)(k m:Int):∃E,aM ak T mS [.ptr c.bp 0 0,.agg (ed 3 k m)] h=j (.inl (.bx []),E)/\aQ am aL aF E (put c L i (n.cV (n.top.stack++[n.top.arg]))):=by have aY:=s.push [ed 3 k m];have aP:=a.cons (bm h.n [ed 3 k m]);obtain⟨cZ,_⟩:=ni aY aP O.below;have a6:=(aY.cell 0 rfl).1;obtain⟨hH,ea,aI,g,a'⟩:=pa aY (i+1) aP.m;have f3:b9 3 (.ptr n.bh n.below.length 0)=j (.ptr n.bh n.below.length 3):=rfl;have mr:=a'.arg;obtain⟨J,ax,bf⟩:=pb aY aP O.below O.cV a'.aN;rw[eg]at bf;refine⟨J,?_,bf.drop⟩;refine bd ng rfl ?_;unfold mO;simp only[ap,aw,aA,ar,cx,cZ,a6,eZ,f3,mr,ax]
theorem atc(s:aQ am aL aF h L)(a:eK c L i n)(O:hI c n)(ab:0<=k/\k<n.top.names.length)(m:Int):∃E,aM ak T mS [.ptr c.bp 0 0,.agg (ed 4 k m)] h=j (.inl (.bx []),E)/\aQ am aL aF E (put c L i (n.cV (n.top.stack++[n.top.names.getD (n.top.names.length - 1 - k.toNat) cp]))):=by have aY:=s.push [ed 4 k m];have aP:=a.cons (bm h.n [ed 4 k m]);obtain⟨cZ,_⟩:=ni aY aP O.below;have a6:=(aY.cell 0 rfl).1;obtain⟨hH,ea,aI,g,a'⟩:=pa aY (i+1) aP.m;have f7:b9 7 (.ptr n.bh n.below.length 0)=j (.ptr n.bh n.below.length 7):=rfl;have zm:=λq=>a'.rd q 7 aI (oq n.top hH ea aI g a'.aN.dx.1).2.2.1;obtain⟨p,Bt,dU,g8,ia⟩:=a'.aI.2.2.2.2 o (n.top.names.length - 1 - k.toNat) (n.top.names.getD (n.top.names.length - 1 - k.toNat) cp) (by simp only[dm];rw[gd (by omega)];rfl);have aq:=O.vq;have cg:hq o ((n.top.names.length:Int) - 1)=(n.top.names.length:Int) - 1:=gD (by omega) (by omega);have dS:hq o ((n.top.names.length:Int) - 1 - k)=((n.top.names.length - 1 - k.toNat:Nat):Int):=oj (by omega) (by omega) (by omega);have atd:=a'.aI.2.2.1;have fn:=a'.aI.2.2.2.1;obtain⟨J,ax,bf⟩:=pb aY aP O.below O.cV ia;rw[eg]at bf;refine⟨J,?_,bf.drop⟩;refine bd ng rfl ?_;unfold mO;simp only[ap,aw,aA,ar,cx,cZ,a6,eZ,f7,zm,atd,fn,cg,dS,dU,g8,ax]
end
def G6(am:ad)(aL aF:Nat->Prop)(c:hU)(L:List b2)(i:Nat)(q:p2)(a8:I⊕I)(E:ad):Prop:=match q with
 |.go m=>a8= .inl (.bx [])/\∃gV,aQ am aL aF E (put c L i ⟨gV,m.S,m.below,m.top⟩)
 |.fail S k=>a8= .inr (.iface lZ (.int o k))/\∃b4:fl,b4.S=S/\aQ am aL aF E (put c L i b4)
 |.over _ _=>False
section
variable{h E am:ad}{ah ao aL aF:Nat->Prop}{L:List b2}{c:hU}{i:Nat}{n:fl}
theorem Bu(M:List bk):gY (lB M)=j M.length/\(∀s,ko s (j 222) (lB M)=Q)/\(lB M).one=Q:=by unfold lB;exact⟨by simp[gY],λs=>CW,rfl⟩
theorem ate(e:aU)(rows:List (List I)):fH e (e4 e rows) rows:=by
 unfold e4;by_cases aR:rows=[]
 ·exact .inl ⟨aR,by rw[if_pos aR]⟩
 ·exact .inr ⟨Z,by rw[if_neg aR]⟩
theorem Lr(s:aQ am aL aF h L)(a:eK c L i n)(O:hI c n){p:Nat}(hp:p<4):(∀q:kf,fg Z (j (4,5)) (.ptr c.aG 0 2) (.int q (p:Int))=j (.ptr c.aG 0 (2+p*5)))/\(∀k:Nat,cO R k h (.ptr c.aG 0 (2+p*5+1))=j (qm (c.ms.getD p Z)))/\∃r,cO Q 3 h (.ptr c.aG 0 (2+p*5+2))=j (.agg r)/\ck (n.S.kept.getD p cp) r/\cO Q 5 h (.ptr c.aG 0 (2+p*5))=j (.agg (.bool (c.ms.getD p Z).isSome::qm (c.ms.getD p Z)::r))/\c.aG<h.n:=by
 obtain⟨ah,ao,x⟩:=s.get (i+1) a.b;obtain⟨row,a6,kH,_,_,_,i6⟩:=La x O.len;obtain⟨bT,bM,r,du,eB,n'⟩:=i6 p (by rw[O.ms];exact hp);refine⟨λq=>by simp[fg,hp],λk=>?_,r,?_,eB,?_,kH⟩
 ·rw[gm,a6,da,qT,da,qi,bM]
 ·rw[gm,a6,da,qT,da,du]
 ·rw[gm,a6,da,qT,da,n']
theorem aem{b i off k:Nat}{g:Bool}(ag:b<h.n):cO g k (h.push es) (.ptr b i off)=cO g k h (.ptr b i off):=by rw[gm,gm,eG ag]
abbrev Ls:List I:=[.bool R,.aC,.int o 0,.int o 0,.aC]
theorem atf{G:be}{i:Int}{k:Nat}(ag:gO (G.fm i) k=Q):G.has i=Q:=by
 cases h:G.has i with
 |true=>rfl
 |false=>
   have:G.fm i=0:=by unfold be.fm;rw[if_pos (.inl (be.yk h))]
   rw[this]at ag;have J:gO 0 k=R:=by unfold gO;rw[Int.zero_ediv];decide
   rw[J]at ag;cases ag
def ow(am:ad)(aL aF:Nat->Prop)(c:hU)(L:List b2)(i:Nat)(n:fl)(q:bG×vn×Int)(a8:I⊕I)(E:ad):Prop:=(q.2.2=0/\a8= .inl (.bx [])/\∃gV,aQ am aL aF E (put c L i ⟨gV,q.1,n.below++[n.top],⟨q.2.1.bD,q.2.1.func,0,q.2.1.arg,[],[],Q,q.2.1.ec⟩⟩))\/(q.2.2≠0/\a8= .inr (.iface lZ (.int o q.2.2))/\∃b4:fl,b4.S=q.1/\aQ am aL aF E (put c L i b4))
theorem ow.no(a:eK c L i n){q:vn}(ab:k≠0)(s:aQ am aL aF E L):ow am aL aF c L i n (n.S,q,k) (.inr (.iface lZ (.int o k))) E:=.inr ⟨ab,rfl,n,rfl,by rw[a.same];exact s⟩
theorem atg(s:aQ am aL aF h L)(a:eK c L i n)(O:hI c n){v x:ay}{r:List I}(U:ck v r)(an:ck x t):∃a8 E,aM ak T 163 [.ptr c.bp 0 0,.agg r,.agg t] h=j (a8,E)/\ow am aL aF c L i n (jr c.ms v x (n.below.length+1) n.S) a8 E:=by
 unfold jr;simp only;have aY:=(s.push [r]).push [t];have aP:=(a.cons (bm h.n [r])).cons (bm (h.push [r]).n [t]);obtain⟨bO,bC⟩:=U.dx;obtain⟨dj,eQ⟩:=an.dx;have a6:((h.push [r]).push [t]).cell h.n=j [r]:=(aY.cell 1 rfl).1;have c2:((h.push [r]).push [t]).cell (h.n+1)=j [t]:=(aY.cell 0 rfl).1;by_cases ab:v.kind=4
 case neg=>
  rw[if_pos ab];have dN:=tr (h:=(h.push [r]).push [t]) U ab;refine⟨_,_,?_,ow.no a (by decide) aY.drop.drop⟩;refine bd y8 rfl ?_;unfold xG;simp only[ap,aw,aA,ar,cx,bO,bC,dj,eQ,a6,dN]
 rw[if_neg (by simpa using ab)];obtain⟨bZ,dN,jg⟩:=tq (h:=(h.push [r]).push [t]) U ab;have mq:=RG aY aP.m aP.b aP.g O.len O.S.wf jg (k:=3) (q:=8) (by decide) (by decide);by_cases ag:gO (n.S.G.fm v.n) 3=Q
 case neg=>
  rw[if_neg ag]at mq;rw[if_pos (by simpa using ag)];refine⟨_,_,?_,ow.no a (by decide) aY.drop.drop⟩;refine bd y8 rfl ?_;unfold xG;simp only[ap,aw,aA,ar,cx,bO,bC,dj,eQ,a6,dN,mq]
 rw[if_pos ag]at mq;rw[if_neg (by simp[ag])];obtain⟨_,_,aO⟩:=be.QX O.S.wf (atf ag);generalize (n.S.G.target v.n).1=cb at*;obtain⟨t1,t2,t3,t4,t5,t6⟩:=cb;simp only[bi]at aO mq ⊢;generalize eV:([.int o t1,.int o t2,.int o t3,.int o t4,.int o t5,.int o t6]:List I)=N at*;have pG:N[4]? =j (.int o t5):=by rw[<-eV];rfl
 have vS:N[5]? =j (.int o t6):=by rw[<-eV];rfl
 have jX:N.length=6:=by rw[<-eV];rfl
 have no:N.all I.one=Q:=by rw[<-eV];rfl
 have bf:=aY.push [N];have a2:=aP.cons (bm ((h.push [r]).push [t]).n [N]);have c3:=(bf.cell 0 rfl).1;simp only[ek]at c3;by_cases hp:t5<0
 ·rw[if_pos hp];have d:decide (t5<0)=Q:=decide_eq_true hp;refine⟨_,_,?_,ow.no a (by decide) bf.drop.drop.drop⟩;refine bd y8 rfl ?_;unfold xG;simp only[ap,aw,aA,ar,cx,bO,bC,dj,eQ,a6,dN,mq,jX,no,pG,d,pK]
 rw[if_neg hp];obtain⟨P,rfl⟩:=Int.eq_ofNat_of_zero_le (show 0<=t5 by omega);have d:decide ((P:Int)<0)=R:=decide_eq_false (by omega);have pc:P<4:=by omega
 rw[rV];have DT:=bf.push [Ls];have Lt:=a2.cons (bm (((h.push [r]).push [t]).push [N]).n [Ls]);obtain⟨gL,_,_⟩:=qs bf a2 O.len;obtain⟨G7,_,_⟩:=qs DT Lt O.len;obtain⟨bR,_,xU,_,DU,jN,RV⟩:=Lr bf a2 O pc;have G8:cO Q 5 ((((h.push [r]).push [t]).push [N]).push [Ls]) (.ptr c.aG 0 (2+P*5))=_:=(aem RV).trans jN;have G9:b9 0 (.ptr c.bp 0 0)=j (.ptr c.bp 0 0):=rfl;have G':b9 2 (.ptr c.aG 0 0)=j (.ptr c.aG 0 2):=rfl;have RW:b9 1 (.ptr c.bp 0 0)=j (.ptr c.bp 0 1):=rfl;have aen:b9 0 (.ptr c.aG 0 0)=j (.ptr c.aG 0 0):=rfl;have DV:=(DT.cell 1 rfl).1;have gN:=(DT.cell 0 rfl).1;have m4:∀x,((((h.push [r]).push [t]).push [N]).push [Ls]).set (h.n+1+1+1) (j x)=(((h.push [r]).push [t]).push [N]).push x:=λx=>q1 (h:=((h.push [r]).push [t]).push [N]);simp only[ek]at DV gN;generalize nM:c.ms.getD P Z=M at*;have r':(qm M).one=Q:=by cases M<;>first|rfl|exact(Bu _).2.2
 obtain⟨c8,c6⟩:=DU.dx;generalize aE:I.bool M.isSome::qm M::xU=pl at*;have hd:pl[0]? =j (.bool M.isSome):=by rw[<-aE];rfl
 have dU:pl[1]? =j (qm M):=by rw[<-aE];rfl
 have Ha:pl.length=5:=by rw[<-aE];simp[c8]
 have Hb:pl.all I.one=Q:=by rw[<-aE];simp only[List.all_cons,r',c6,s3];rfl
 have bP:aQ am aL aF _ (bm (h.n+1+1+1) [pl]::bm (h.n+1+1) [N]::bm (h.n+1) [t]::bm h.n [r]::L):=bf.push [pl];have a3:=a2.cons (bm (h.n+1+1+1) [pl]);have c4:=(bP.cell 0 rfl).1;have c5:=(bP.cell 1 rfl).1;have fp:=(bP.cell 2 rfl).1;have aeo:iN c.ms (P:Int)=M.getD []:=by unfold iN;rw[rV,nM]
 by_cases pM:M.isNone\/((iN c.ms (P:Int)).length:Int)<=t6\/t6<0
 ·rw[if_pos pM];refine⟨_,_,?_,ow.no a (by decide) bP.drop.drop.drop.drop⟩;cases M with
  |none=>simp only[Option.isSome_none]at hd;refine bd y8 rfl ?_;unfold xG;simp only[ap,aw,aA,ar,cx,bO,bC,dj,eQ,a6,dN,mq,jX,no,pG,d,ov,pK,G9,G',gL,G7,bR,jN,G8,c3,DV,Ha,Hb,gN,m4,c4,hd]
  |some M=>
    simp only[Option.isSome_some]at hd;have d2:decide ((M.length:Int)<=t6)=Q:=by
     refine decide_eq_true ?_;rw[aeo]at pM;simp only[ns]at pM;rcases pM with h|h|h
     ·cases h
     ·exact h
     ·omega
    obtain⟨m1,cR,_⟩:=Bu M;simp only[qm]at dU;refine bd y8 rfl ?_;unfold xG;simp only[ap,aw,aA,ar,cx,bO,bC,dj,eQ,a6,dN,mq,jX,no,pG,vS,d,ov,pK,G9,G',gL,G7,bR,jN,G8,c3,DV,Ha,Hb,gN,m4,c4,c5,hd,dU,m1,cR,d2]
 rw[if_neg pM];obtain⟨M,rfl⟩:∃wo,M=j wo:=by
  cases M with
  |none=>exact absurd (.inl rfl) pM
  |some M=>exact⟨M,rfl⟩
 simp only[Option.isSome_some]at hd;have d2:decide ((M.length:Int)<=t6)=R:=by refine decide_eq_false λh=>pM (.inr (.inl ?_));rw[aeo];exact h
 obtain⟨m1,cR,_⟩:=Bu M;simp only[qm]at dU;obtain⟨aep,aeq,_⟩:=qs bP a3 O.len;obtain⟨_,_,_,_,a'⟩:=pa bP (i+4) a3.m;have lm:∀k:Nat,cO R k ((((h.push [r]).push [t]).push [N]).push [pl]) (.ptr c.bp 0 1)=j (.br n.bh 0 (n.below.length+1) fk):=λk=>by rw[gm,a'.m];rfl
 by_cases qK:n.below.length+1=20
 ·rw[if_pos qK];have d3:decide (((n.below.length+1:Nat):Int)=20)=Q:=decide_eq_true (by omega);refine⟨_,_,?_,ow.no a (by decide) bP.drop.drop.drop.drop⟩;refine bd y8 rfl ?_;unfold xG;simp only[ap,aw,aA,ar,cx,bO,bC,dj,eQ,a6,dN,mq,jX,no,pG,vS,d,ov,pK,G9,G',RW,gL,G7,bR,jN,G8,c3,DV,Ha,Hb,gN,m4,c4,c5,hd,dU,m1,cR,d2,lm,d3]
 rw[if_neg qK];have d3:decide (((n.below.length+1:Nat):Int)=20)=R:=decide_eq_false (by omega);obtain⟨eH,eI,zj⟩:=bP.get (i+1+1+1+1+2) a3.g;have ob:=aoJ (zj:gE _ eH eI c.cl n.S.G) O.S.wf v.n;have fK:fH 3 (e4 3 ((n.S.G.ry v.n).map λx=>[.int o x])) (gn (n.S.G.ry v.n)):=ate _ _;have aAO:=UQ (i:=v.n) O.S.wf;generalize e4 3 ((n.S.G.ry v.n).map λx=>[.int o x])=cN at*;generalize n.S.G.ry v.n=aV at*;obtain⟨aB,⟨y,cq,bq⟩,cj⟩:=G4 bP a3 (cn:=λE=>∃bZ,aM ak T 148 [.ptr c.cl 0 0,.agg t,cN] ((((h.push [r]).push [t]).push [N]).push [pl])=j (.inl (.bx [.agg bZ,.int o (hJ aV n.S.G x).2.2]),E)/\ck (hJ aV n.S.G x).2.1 bZ) λah ao zj=>aeg zj O.S.wf an fK (by omega);generalize hJ aV n.S.G x=q at*;obtain⟨ei,rO,kF⟩:=q;simp only at cq bq cj ⊢;have a4:=a3.put {n with S:={n.S with G:=ei}};rw[eg,eg,eg,eg]at cj a4;obtain⟨cJ,z2⟩:=bq.dx;have qt:=cj.push [bB];have ath:=a4.cons (bm aB.n [bB]);obtain⟨gv,ep,_⟩:=qs qt ath O.len;have d0:=(qt.cell 3 rfl).1;have cT:=cj.push [y];have a5:=a4.cons (bm aB.n [y]);have d1:=(cT.cell 0 rfl).1;have ati:=(cT.cell 2 rfl).1;have IQ:(cN).one=Q:=by rcases fK with⟨_,rfl⟩|⟨id,rfl⟩<;>rfl
 have atj:cN.cells=[cN]:=by rcases fK with⟨_,rfl⟩|⟨id,rfl⟩<;>rfl
 by_cases vy:kF=0
 ·subst vy;have d5:decide ((0:Int)=0)=Q:=rfl;obtain⟨_,atk⟩:=aej cT a5 O.below (f:=⟨P,t6,0,rO,[],[],Q,aV⟩) (hH:=y) (g:=cN) bq fK rfl rfl;obtain⟨cc,gV,jG,eo⟩:=atk qK;rw[eg,eg,eg,eg,eg,hn]at eo;refine⟨_,cc,?_,.inl ⟨rfl,rfl,gV,eo.drop.drop.drop.drop.drop⟩⟩;obtain⟨aer,fv,fT,rfl⟩:∃a b c,y=[a,b,c]:=by match y,cJ with|[a,b,c],_=>exact⟨a,b,c,rfl⟩
  simp only[List.all_cons,List.all_nil,s3,h8]at z2;obtain⟨z3,z4,z5⟩:=z2;simp only[gu,mn,kq,j6]at jG;refine bd y8 rfl ?_;unfold xG;simp only[ap,aw,aA,ar,ct,cx,bO,bC,dj,eQ,a6,dN,mq,jX,no,pG,vS,d,ov,G9,G',RW,aen,gL,G7,aep,aeq,bR,jN,G8,c3,DV,Ha,Hb,gN,m4,c4,c5,fp,hd,dU,m1,cR,d2,lm,d3,ob,cq,gv,ep,d0,d1,ati,z3,z4,z5,IQ,atj,jG]
 ·have d5:decide (kF=0)=R:=decide_eq_false vy;refine⟨_,_,?_,.inr ⟨vy,rfl,{n with S:={n.S with G:=ei}},rfl,cT.drop.drop.drop.drop.drop⟩⟩;refine bd y8 rfl ?_;unfold xG;simp only[ap,aw,aA,ar,cx,bO,bC,dj,eQ,a6,dN,mq,jX,no,pG,vS,d,ov,pK,G9,G',RW,aen,gL,G7,aep,aeq,bR,jN,G8,c3,DV,Ha,Hb,gN,m4,c4,c5,fp,hd,dU,m1,cR,d2,lm,d3,ob,cq,gv,ep,d0,d5,cJ,z2]
end
abbrev atl:cH:=154
section
variable{h E am:ad}{ah ao aL aF:Nat->Prop}{L:List b2}{c:hU}{i:Nat}{n:fl}
theorem sa(s:aQ am aL aF h L)(a:eK c L i n)(O:hI c n){m:Int}(iW:13<=op){a8:I⊕I}(e:aM ak T atl [.ptr c.bp 0 0,.agg (ed op k m)] (h.push [ed op k m])=j (a8,E))(uT:a8= .inl (.bx [])\/∃v,a8= .inr v):aM ak T mS [.ptr c.bp 0 0,.agg (ed op k m)] h=j (a8,E):=by
 have aY:=s.push [ed op k m];have aP:=a.cons (bm h.n [ed op k m]);obtain⟨cZ,_⟩:=ni aY aP O.below;have a6:=(aY.cell 0 rfl).1;have d:∀D:Int,D<13->decide (op=D)=R:=λD aa=>decide_eq_false (by omega);have av:=d 1 (by decide);have ax:=d 2 (by decide);have bs:=d 3 (by decide);have cq:=d 4 (by decide);have jG:=d 6 (by decide);have mQ:=d 8 (by decide);have uM:=d 9 (by decide);have Lu:=d 10 (by decide);have aes:=d 11 (by decide);have GM:=d 12 (by decide);rcases uT with rfl|⟨v,rfl⟩
 ·refine bd ng rfl ?_;unfold mO;simp only[ap,aw,aA,ar,cx,cZ,a6,av,ax,bs,cq,jG,mQ,uM,Lu,aes,GM,e]
 ·refine bd ng rfl ?_;unfold mO;simp only[ap,aw,aA,ar,cx,cZ,a6,av,ax,bs,cq,jG,mQ,uM,Lu,aes,GM,e]
theorem eL.a8{q:bG×ay×Int}{a8:I⊕I}(r:eL am aL aF c L i n q a8 E):a8= .inl (.bx [])\/∃v,a8= .inr v:=by
 rcases r with⟨_,b,_⟩|⟨_,b,_⟩
 ·exact .inl b
 ·exact .inr ⟨_,b⟩
theorem eL.put{q:bG×ay×Int}{ep:fl}{a8:I⊕I}(r:eL am aL aF c (put c L i ep) i n q a8 E):eL am aL aF c L i n q a8 E:=by
 rcases r with⟨x,y,z⟩|⟨x,y,b4,z,w⟩
 ·exact .inl ⟨x,y,by rw[hn]at z;exact z⟩
 ·exact .inr ⟨x,y,b4,z,by rw[hn]at w;exact w⟩
theorem ow.put{q:bG×vn×Int}{ep:fl}{a8:I⊕I}(r:ow am aL aF c (put c L i ep) i n q a8 E):ow am aL aF c L i n q a8 E:=by
 rcases r with⟨x,y,bh,z⟩|⟨x,y,b4,z,w⟩
 ·exact .inl ⟨x,y,bh,by rw[hn]at z;exact z⟩
 ·exact .inr ⟨x,y,b4,z,by rw[hn]at w;exact w⟩
theorem ow.drop{X:b2}{q:bG×vn×Int}{a8:I⊕I}(r:ow am aL aF c (X::L) (i+1) n q a8 E):ow am aL aF c L i n q a8 E:=by
 rcases r with⟨x,y,bh,z⟩|⟨x,y,b4,z,w⟩
 ·exact .inl ⟨x,y,bh,z.drop⟩
 ·exact .inr ⟨x,y,b4,z,w.drop⟩
theorem xV(s:aQ am aL aF h L)(a:eK c L i n)(O:hI c n)(op k m:Int):aQ am aL aF ((h.push [ed op k m]).push [ed op k m]) (bm (h.n+1) [ed op k m]::bm h.n [ed op k m]::L)/\eK c (bm (h.n+1) [ed op k m]::bm h.n [ed op k m]::L) (i+1+1) n/\aM ak T Ku [.ptr c.bp 0 0] ((h.push [ed op k m]).push [ed op k m])=j (.inl (.ptr n.bh n.below.length 0),(h.push [ed op k m]).push [ed op k m])/\(∀dn:Nat,cO R dn ((h.push [ed op k m]).push [ed op k m]) (.ptr n.bh n.below.length 0)=j (.int o n.top.bD))/\((h.push [ed op k m]).push [ed op k m]).cell (h.n+1)=j [ed op k m]:=by have aY:=(s.push [ed op k m]).push [ed op k m];have aP:=(a.cons (bm h.n [ed op k m])).cons (bm (h.n+1) [ed op k m]);obtain⟨cZ,j2⟩:=ni aY aP O.below;exact⟨aY,aP,cZ,j2,(aY.cell 0 rfl).1⟩
theorem atm(s:aQ am aL aF h L)(a:eK c L i n)(O:hI c n){v:ay}(bJ:n.top.stack=st++[v])(k m:Int):∃a8 E,aM ak T mS [.ptr c.bp 0 0,.agg (ed 13 k m)] h=j (a8,E)/\eL am aL aF c L i (n.cV st) (hr n.top.bD 13 k m [v] n.S) a8 E:=by
 obtain⟨aY,aP,cZ,_,a6⟩:=xV s a O 13 k m;obtain⟨J,r,ax,U,bf,a2⟩:=tt aY aP O bJ;obtain⟨a8,af,bs,gl⟩:=asR bf a2 (O.ri bJ) U k m;have gU:=gl.put.drop.drop;refine⟨a8,af,sa s a O (by decide) ?_ gU.a8,gU⟩;rcases gU.a8 with rfl|⟨u,rfl⟩
 ·refine bd o9 rfl ?_;unfold ol;simp only[ap,aw,aA,ar,cx,cZ,a6,eZ,ax,bs]
 ·refine bd o9 rfl ?_;unfold ol;simp only[ap,aw,aA,ar,cx,cZ,a6,eZ,ax,bs]
theorem atn(s:aQ am aL aF h L)(a:eK c L i n)(O:hI c n){v:ay}(bJ:n.top.stack=st++[v])(k m:Int):∃a8 E,aM ak T mS [.ptr c.bp 0 0,.agg (ed 16 k m)] h=j (a8,E)/\eL am aL aF c L i (n.cV st) (hr n.top.bD 16 k m [v] n.S) a8 E:=by
 obtain⟨aY,aP,cZ,_,a6⟩:=xV s a O 16 k m;obtain⟨J,r,ax,U,bf,a2⟩:=tt aY aP O bJ;obtain⟨a8,af,bs,gl⟩:=asW bf a2 (O.ri bJ) U k m;have gU:=gl.put.drop.drop;refine⟨a8,af,sa s a O (by decide) ?_ gU.a8,gU⟩;rcases gU.a8 with rfl|⟨u,rfl⟩
 ·refine bd o9 rfl ?_;unfold ol;simp only[ap,aw,aA,ar,cx,cZ,a6,eZ,ax,bs]
 ·refine bd o9 rfl ?_;unfold ol;simp only[ap,aw,aA,ar,cx,cZ,a6,eZ,ax,bs]
theorem aet{af:ad}{RX:List b2}(bP:aQ am aL aF af RX)(x y:List I):aQ am aL aF ((((af.push [bB]).push [bB]).set af.n (j [x])).set (af.n+1) (j [y])) (bm (af.n+1) [y]::bm af.n [x]::RX)/\(((af.push [bB]).push [bB]).set af.n (j [x])).cell (af.n+1)=j [bB]:=by have cj:=(bP.push [bB]).push [bB];have cT:aQ am aL aF _ (bm (af.n+1) [bB]::bm af.n [x]::RX):=cj.set 1 rfl [x];exact⟨cT.set 0 rfl [y],(cT.cell 0 rfl).1⟩
theorem ato(s:aQ am aL aF h L)(a:eK c L i n)(O:hI c n){v w:ay}(bJ:n.top.stack=st++[v]++[w])(k m:Int):∃a8 E,aM ak T mS [.ptr c.bp 0 0,.agg (ed 14 k m)] h=j (a8,E)/\eL am aL aF c L i (n.cV st) (hr n.top.bD 14 k m [v,w] n.S) a8 E:=by
 obtain⟨aY,aP,cZ,_,a6⟩:=xV s a O 14 k m;obtain⟨J,af,jx,b6,ax,bs,hw,U,bP,a3⟩:=Lp aY aP O bJ;have dj:=(O.ri (st:=st) (l:=[v]++[w]) (by rw[bJ,jA]));obtain⟨bO,bC⟩:=hw.dx;obtain⟨jj,eQ⟩:=U.dx;obtain⟨eo,jU⟩:=aet bP jx b6;have iI:=(a3.cons (bm af.n [jx])).cons (bm (af.n+1) [b6]);have bT:=(eo.cell 0 rfl).1;have bM:=(eo.cell 1 rfl).1;generalize tu:(((af.push [bB]).push [bB]).set af.n (j [jx])).set (af.n+1) (j [b6])=cc at*;obtain⟨a8,cQ,kS,RY⟩:=asT eo iI dj U hw k m;have h0:=RY.drop.drop.put.drop.drop;refine⟨a8,cQ,sa s a O (by decide) ?_ h0.a8,h0⟩;rcases h0.a8 with rfl|⟨u,rfl⟩
 ·refine bd o9 rfl ?_;unfold ol;simp only[ap,aw,aA,ar,cx,cZ,a6,eZ,ax,bs,bO,bC,eQ,jj,jU,tu,bT,bM,kS]
 ·refine bd o9 rfl ?_;unfold ol;simp only[ap,aw,aA,ar,cx,cZ,a6,eZ,ax,bs,bO,bC,eQ,jj,jU,tu,bT,bM,kS]
theorem atp(s:aQ am aL aF h L)(a:eK c L i n)(O:hI c n){v w:ay}(bJ:n.top.stack=st++[v]++[w])(k m:Int):∃a8 E,aM ak T mS [.ptr c.bp 0 0,.agg (ed 19 k m)] h=j (a8,E)/\ow am aL aF c L i (n.cV st) (jr c.ms v w (n.below.length+1) n.S) a8 E:=by
 obtain⟨aY,aP,cZ,_,a6⟩:=xV s a O 19 k m;obtain⟨J,af,jx,b6,ax,bs,hw,U,bP,a3⟩:=Lp aY aP O bJ;have dj:=(O.ri (st:=st) (l:=[v]++[w]) (by rw[bJ,jA]));obtain⟨bO,bC⟩:=hw.dx;obtain⟨jj,eQ⟩:=U.dx;obtain⟨eo,jU⟩:=aet bP jx b6;have iI:=(a3.cons (bm af.n [jx])).cons (bm (af.n+1) [b6]);have bT:=(eo.cell 0 rfl).1;have bM:=(eo.cell 1 rfl).1;generalize tu:(((af.push [bB]).push [bB]).set af.n (j [jx])).set (af.n+1) (j [b6])=cc at*;obtain⟨a8,cQ,kS,RY⟩:=atg eo iI dj U hw;have h0:=RY.drop.drop.put.drop.drop;have uT:a8= .inl (.bx [])\/∃v,a8= .inr v:=by
  rcases h0 with⟨_,b,_⟩|⟨_,b,_⟩
  ·exact .inl b
  ·exact .inr ⟨_,b⟩
 refine⟨a8,cQ,sa s a O (by decide) ?_ uT,h0⟩;rcases uT with rfl|⟨u,rfl⟩
 ·refine bd o9 rfl ?_;unfold ol;simp only[ap,aw,aA,ar,cx,cZ,a6,eZ,ax,bs,bO,bC,eQ,jj,jU,tu,bT,bM,kS]
 ·refine bd o9 rfl ?_;unfold ol;simp only[ap,aw,aA,ar,cx,cZ,a6,eZ,ax,bs,bO,bC,eQ,jj,jU,tu,bT,bM,kS]
theorem atq{p n:Int}{v:ay}{S:bG}:hr p 15 k n [v] S=if v.kind≠4 then S.no 2 else vm S (S.G.derive v.n k (-1)):=rfl
theorem atr{p n:Int}{v:ay}{S:bG}:hr p 17 k n [v] S=if v.kind≠5 then S.no 2 else({S with G:=(S.G.cut v.n).1}:bG).ok cp:=rfl
theorem ats{p n:Int}{v:ay}{S:bG}:hr p 20 k n [v] S=({S with kept:=S.kept.set p.toNat v}:bG).ok (S.kept.getD p.toNat cp):=rfl
theorem att(s:aQ am aL aF h L)(a:eK c L i n)(O:hI c n){v:ay}(bJ:n.top.stack=st++[v])(k m:Int):∃a8 E,aM ak T mS [.ptr c.bp 0 0,.agg (ed 15 k m)] h=j (a8,E)/\eL am aL aF c L i (n.cV st) (hr n.top.bD 15 k m [v] n.S) a8 E:=by
 rw[atq];obtain⟨aY,aP,cZ,_,a6⟩:=xV s a O 15 k m;obtain⟨J,r,ax,U,bf,a2⟩:=tt aY aP O bJ;have dj:=O.ri bJ;rw[eg,eg]at bf a2;have c2:=(bf.cell 0 rfl).1;by_cases ab:v.kind=4
 ·rw[if_neg (by simpa using ab)];obtain⟨bZ,dN,jg⟩:=tq (h:=J) U ab;obtain⟨af,bs,bP⟩:=aei bf a2 O.len O.S.wf jg k (-1);have a3:=a2.put {(n.cV st)with S:={n.S with G:=(n.S.G.derive v.n k (-1)).1}};unfold vm;by_cases al:(n.S.G.derive v.n k (-1)).2.2=0
  ·rw[if_pos al]at bs;rw[if_neg (by simpa using al)];obtain⟨aB,cq,cj⟩:=pb bP a3 O.below dj.cV (Le (n.S.G.derive v.n k (-1)).2.1);rw[hn,eg,eg,hn]at cj;have h0:eL am aL aF c L i (n.cV st) _ _ aB:=eL.ok cj.drop.drop;refine⟨_,aB,sa s a O (by decide) ?_ h0.a8,h0⟩;refine bd o9 rfl ?_;unfold ol;simp only[ap,aw,aA,ar,cx,cZ,a6,eZ,ax,c2,dN,bs,cq]
  ·rw[if_neg al]at bs;rw[if_pos al];rw[eg,eg,hn]at bP;have h0:eL am aL aF c L i (n.cV st) _ _ af:=eL.no (S:={n.S with G:=(n.S.G.derive v.n k (-1)).1}) al {(n.cV st)with S:={n.S with G:=(n.S.G.derive v.n k (-1)).1}} rfl bP.drop.drop;refine⟨_,af,sa s a O (by decide) ?_ h0.a8,h0⟩;refine bd o9 rfl ?_;unfold ol;simp only[ap,aw,aA,ar,cx,cZ,a6,eZ,ax,c2,dN,bs]
 ·rw[if_pos ab];have dN:=tr (h:=J) U ab;have h0:eL am aL aF c L i (n.cV st) _ _ J:=eL.no (S:=n.S) (k:=2) (by decide) (n.cV st) rfl bf.drop.drop;refine⟨_,J,sa s a O (by decide) ?_ h0.a8,h0⟩;refine bd o9 rfl ?_;unfold ol;simp only[ap,aw,aA,ar,cx,cZ,a6,eZ,ax,c2,dN]
theorem atu(s:aQ am aL aF h L)(a:eK c L i n)(O:hI c n){v:ay}(bJ:n.top.stack=st++[v])(k m:Int):∃a8 E,aM ak T mS [.ptr c.bp 0 0,.agg (ed 17 k m)] h=j (a8,E)/\eL am aL aF c L i (n.cV st) (hr n.top.bD 17 k m [v] n.S) a8 E:=by
 rw[atr];obtain⟨aY,aP,cZ,_,a6⟩:=xV s a O 17 k m;obtain⟨gL,b5,_⟩:=qs aY aP O.len;obtain⟨J,r,ax,U,bf,a2⟩:=tt aY aP O bJ;have dj:=O.ri bJ;obtain⟨ca,dK,_⟩:=qs bf a2 O.len;rw[eg,eg]at bf a2;have f0:b9 0 (.ptr c.bp 0 0)=j (.ptr c.bp 0 0):=rfl;have f1:b9 0 (.ptr c.aG 0 0)=j (.ptr c.aG 0 0):=rfl;by_cases ab:v.kind=5
 ·rw[if_neg (by simpa using ab)];obtain⟨bZ,dN,jg⟩:=tq (h:=J) U ab;obtain⟨w,hw,_⟩:=jg.uQ;have Rt:Jl R 1 1 (.agg bZ)=j (.int o v.n):=by rw[hw];rfl
  obtain⟨af,bs,bP⟩:=G4 bf a2 (cn:=λE=>aM ak T 112 [.ptr c.cl 0 0,.int o v.n] J=j (.inl (.int o (n.S.G.cut v.n).2),E)) λah ao x=>abb x v.n;have a3:=a2.put {(n.cV st)with S:={n.S with G:=(n.S.G.cut v.n).1}};obtain⟨aB,cq,cj⟩:=pb bP a3 O.below dj.cV qq;rw[hn,eg,eg,hn]at cj;have h0:eL am aL aF c L i (n.cV st) _ _ aB:=eL.ok (S:={n.S with G:=(n.S.G.cut v.n).1}) (v:=cp) cj.drop.drop;refine⟨_,aB,sa s a O (by decide) ?_ h0.a8,h0⟩;refine bd o9 rfl ?_;unfold ol;simp only[ap,aw,aA,ar,cx,cZ,a6,eZ,f0,f1,gL,b5,ca,dK,ax,dN,Rt,bs,cq]
 ·rw[if_pos ab];have dN:=tr (h:=J) U ab;have h0:eL am aL aF c L i (n.cV st) _ _ J:=eL.no (S:=n.S) (k:=2) (by decide) (n.cV st) rfl bf.drop.drop;refine⟨_,J,sa s a O (by decide) ?_ h0.a8,h0⟩;refine bd o9 rfl ?_;unfold ol;simp only[ap,aw,aA,ar,cx,cZ,a6,eZ,f0,f1,gL,b5,ca,dK,ax,dN]
def RZ(am:ad)(aL aF:Nat->Prop)(c:hU)(L:List b2)(i:Nat)(n:fl)(k:Int)(v:ay)(a8:I⊕I)(E:ad):Prop:=(n.below.length+1≠20/\a8= .inl (.bx [])/\∃gV,aQ am aL aF E (put c L i ⟨gV,n.S,n.below++[n.top],⟨n.top.bD,k,0,v,[],[],R,[]⟩⟩))\/(n.below.length+1=20/\a8= .inr (.iface lZ (.int o 4))/\aQ am aL aF E (put c L i n))
theorem atv(s:aQ am aL aF h L)(a:eK c L i n)(O:hI c n){v:ay}(bJ:n.top.stack=st++[v])(k m:Int):∃a8 E,aM ak T mS [.ptr c.bp 0 0,.agg (ed 18 k m)] h=j (a8,E)/\RZ am aL aF c L i (n.cV st) k v a8 E:=by
 obtain⟨aY,aP,cZ,_,a6⟩:=xV s a O 18 k m;obtain⟨J,r,ax,U,bf,a2⟩:=tt aY aP O bJ;have dj:=O.ri bJ;rw[eg,eg]at bf a2;obtain⟨bO,bC⟩:=U.dx;have bP:=bf.push [r];have a3:=a2.cons (bm J.n [r]);have c3:=(bP.cell 0 rfl).1;have c4:=(bP.cell 1 rfl).1;obtain⟨_,j2⟩:=ni bP a3 O.below;have f0:b9 0 (.ptr n.bh n.below.length 0)=j (.ptr n.bh n.below.length 0):=rfl;obtain⟨atw,atx⟩:=aej bP a3 O.below (f:=⟨n.top.bD,k,0,v,[],[],R,[]⟩) (hH:=r) (g:=.aC) U (.inl ⟨rfl,rfl⟩) rfl rfl;obtain⟨aer,fv,fT,rfl⟩:∃a b c,r=[a,b,c]:=by match r,bO with|[a,b,c],_=>exact⟨a,b,c,rfl⟩
 simp only[List.all_cons,List.all_nil,s3,h8]at bC;obtain⟨z3,z4,z5⟩:=bC;by_cases qK:n.below.length+1=20
 ·obtain⟨aB,cq,cj⟩:=atw qK;simp only[gu,mn,kq,j6]at cq;refine⟨_,aB,sa s a O (by decide) ?_ (.inr ⟨_,rfl⟩),.inr ⟨qK,rfl,cj.drop.drop.drop⟩⟩;refine bd o9 rfl ?_;unfold ol;simp only[ap,aw,aA,ar,ct,cx,cZ,a6,eZ,ax,f0,j2,c3,c4,z3,z4,z5,cq]
 ·obtain⟨aB,gV,cq,cj⟩:=atx qK;simp only[gu,mn,kq,j6]at cq;rw[eg,eg,eg,hn]at cj;refine⟨_,aB,sa s a O (by decide) ?_ (.inl rfl),.inl ⟨qK,rfl,gV,cj.drop.drop.drop⟩⟩;refine bd o9 rfl ?_;unfold ol;simp only[ap,aw,aA,ar,ct,cx,cZ,a6,eZ,ax,f0,j2,c3,c4,z3,z4,z5,cq]
theorem aty(s:aQ am aL aF h L)(a:eK c L i n)(O:hI c n){v:ay}(bJ:n.top.stack=st++[v]){P:Nat}(eJ:n.top.bD=(P:Int))(pc:P<4)(k m:Int):∃a8 E,aM ak T mS [.ptr c.bp 0 0,.agg (ed 20 k m)] h=j (a8,E)/\eL am aL aF c L i (n.cV st) (hr n.top.bD 20 k m [v] n.S) a8 E:=by
 rw[ats];obtain⟨aY,aP,cZ,j2,a6⟩:=xV s a O 20 k m;obtain⟨gL,b5,_⟩:=qs aY aP O.len;obtain⟨bR,_,xU,xW,DU,_,RV⟩:=Lr aY aP O pc;rw[eJ]at j2 ⊢;rw[rV];obtain⟨c8,c6⟩:=DU.dx;have f0:b9 0 (.ptr c.bp 0 0)=j (.ptr c.bp 0 0):=rfl;have f1:b9 2 (.ptr c.aG 0 0)=j (.ptr c.aG 0 2):=rfl;have f2:b9 0 (.ptr n.bh n.below.length 0)=j (.ptr n.bh n.below.length 0):=rfl;have f3:b9 2 (.ptr c.aG 0 (2+P*5))=j (.ptr c.aG 0 (2+P*5+2)):=rfl;have bf:aQ am aL aF _ (bm (h.n+1+1) [xU]::bm (h.n+1) [ed 20 k m]::bm h.n [ed 20 k m]::L):=aY.push [xU];have a2:=aP.cons (bm (h.n+1+1) [xU]);obtain⟨af,r,bs,U,bP,a3⟩:=tt bf a2 O bJ;have dj:=O.ri bJ;rw[eg,eg,eg]at bP;have Lt:eK c (bm (h.n+1+1) [xU]::bm (h.n+1) [ed 20 k m]::bm h.n [ed 20 k m]::put c L i (n.cV st)) (i+1+1+1) (n.cV st):=a3;obtain⟨aB,cq,cj⟩:=ari bP (i+1+1+1+1) Lt.b O.len (p:=P) (by rw[O.ms];exact pc) U;have Hc:aQ am aL aF aB (bm (h.n+1+1) [xU]::bm (h.n+1) [ed 20 k m]::bm h.n [ed 20 k m]::put c L i {(n.cV st)with S:={n.S with kept:=n.S.kept.set P v}}):=by rw[Lt.arS,eg,eg,eg,hn]at cj;exact cj
 have a4:=((((a.put {(n.cV st)with S:={n.S with kept:=n.S.kept.set P v}}).cons (bm h.n [ed 20 k m])).cons (bm (h.n+1) [ed 20 k m])).cons (bm (h.n+1+1) [xU]));have c4:=(Hc.cell 0 rfl).1;obtain⟨bw,eX,cT⟩:=pb Hc a4 O.below dj.cV DU;rw[eg,eg,eg,hn]at cT;have h0:eL am aL aF c L i (n.cV st) _ _ bw:=eL.ok (S:={n.S with kept:=n.S.kept.set P v}) (v:=n.S.kept.getD P cp) cT.drop.drop.drop;refine⟨_,bw,sa s a O (by decide) ?_ h0.a8,h0⟩;refine bd o9 rfl ?_;unfold ol;simp only[ap,aw,aA,ar,cx,cZ,a6,eZ,f0,f1,f2,f3,gL,j2,bR,xW,c8,c6,bs,cq,c4,eX]
theorem atz(s:aQ am aL aF h L)(a:eK c L i n)(O:hI c n){P:Nat}(eJ:n.top.bD=(P:Int))(pc:P<4)(k m:Int):∃E,aM ak T mS [.ptr c.bp 0 0,.agg (ed 21 k m)] h=j (.inl (.bx []),E)/\aQ am aL aF E (put c L i (n.cV (n.top.stack++[n.S.kept.getD P cp]))):=by obtain⟨aY,aP,cZ,j2,a6⟩:=xV s a O 21 k m;obtain⟨gL,b5,_⟩:=qs aY aP O.len;obtain⟨bR,_,xU,xW,DU,_,RV⟩:=Lr aY aP O pc;rw[eJ]at j2;have f0:b9 0 (.ptr c.bp 0 0)=j (.ptr c.bp 0 0):=rfl;have f1:b9 2 (.ptr c.aG 0 0)=j (.ptr c.aG 0 2):=rfl;have f2:b9 0 (.ptr n.bh n.below.length 0)=j (.ptr n.bh n.below.length 0):=rfl;have f3:b9 2 (.ptr c.aG 0 (2+P*5))=j (.ptr c.aG 0 (2+P*5+2)):=rfl;obtain⟨J,ax,bf⟩:=pb aY aP O.below O.cV DU;rw[eg,eg]at bf;refine⟨J,sa s a O (by decide) ?_ (.inl rfl),bf.drop.drop⟩;refine bd o9 rfl ?_;unfold ol;simp only[ap,aw,aA,ar,cx,cZ,a6,eZ,f0,f1,f2,f3,gL,j2,bR,xW,ax]
end
theorem R0{ms:dQ}(g:yn ms){p:Int}(ab:k.toNat<(iN ms p).length):(gs ms p k).fault (iN ms p).length 0=0:=by
 have:gs ms p k=(iN ms p)[k.toNat]:=by simp[gs,dm,ab]
 rw[this];exact g p _ (hf ab)
def cm.after(m:cm)(S:bG)(k:Nat)(bl:List ay):cm:={S:=S,top:={m.top with bo:=m.top.bo+k,stack:=m.top.stack++bl},below:=m.below}
def hC(ms:dQ)(m:cm)(c:List cY):Prop:=∃pre post,kV ms m.top.bD m.top.f=pre++c++post/\m.top.bo=pre.length
theorem hC.get{ms:dQ}{m:cm}{x:cY}{c:List cY}(h:hC ms m (x::c)):(kV ms m.top.bD m.top.f).getD m.top.bo wO=x:=by obtain⟨pre,post,e,hp⟩:=h;rw[e,hp];simp[dm]
theorem hC.at{ms:dQ}{m:cm}{x:cY}{c:List cY}(h:hC ms m (x::c))(a7:m.Good ms)(au:Co m x):wP ms m:=by refine⟨a7,?_,by rw[h.get];exact au⟩;obtain⟨pre,post,e,hp⟩:=h;rw[e,hp];simp
theorem cm.Good.after{ms:dQ}{m:cm}{S:bG}{k:Nat}{bl:List ay}(h:m.Good ms)(cG:S.Good)(IY:S.ba<=m.S.ba)(ai:S.left+bl.length<=m.S.left)(U:∀v∈bl,v.code=0):(m.after S k bl).Good ms:=by
 have F:=h.cV;have J:=h.vq;have af:=h.ba;refine⟨cG,⟨h.top.hd,h.top.there,h.top.f0,h.top.f1,h.top.arg,h.top.names,λv hm=>?_,h.top.ec⟩,ee IY af,?_,?_,h.qG⟩
 ·rcases pq.1 hm with hm|hm
  ·exact h.top.stack v hm
  ·exact U v hm
 ·simp only[cm.after,dy];omega
 ·simp only[cm.after];omega
theorem cm.Good.next{ms:dQ}{m aZ:cm}(h:m.Good ms)(cG:aZ.S=m.S)(ag:aZ.below.length=m.below.length)(aO:aZ.top.Good ms)(F:aZ.top.stack.length<=m.top.stack.length)(J:aZ.top.names.length+aZ.S.left<=100000):aZ.Good ms:=by have af:=h.cV;have aB:=h.ba;have bw:=h.qG;refine⟨by rw[cG];exact h.S,aO,by rw[cG];exact aB,by rw[cG];omega,J,by omega⟩
theorem Co.tick(m:cm):Co m ⟨100,0,0⟩:=⟨by simp,by simp,by simp,by simp,by simp,by simp⟩
theorem hC.left{ms:dQ}{m:cm}{a b:List cY}(h:hC ms m (a++b)):hC ms m a:=by obtain⟨pre,post,e,hp⟩:=h;exact⟨pre,b++post,by rw[e];simp,hp⟩
theorem hC.right{ms:dQ}{m aZ:cm}{a b:List cY}(h:hC ms m (a++b))(F:aZ.top.bD=m.top.bD)(J:aZ.top.f=m.top.f)(af:aZ.top.bo=m.top.bo+a.length):hC ms aZ b:=by obtain⟨pre,post,e,hp⟩:=h;exact⟨pre++a,post,by rw[F,J,e];simp,by rw[af,hp];simp⟩
def jY(ms:dQ)(m:cm)(k:Nat)(q:bG×ay×Int):Prop:=
 if q.2.2≠0 then kt ms m (.fail q.1 q.2.2)else ∀r,kt ms (m.after q.1 k [q.2.1]) r->kt ms m r
def Bv(ms:dQ)(m:cm)(k:Nat)(acc:List ay)(q:bG×List ay×Int):Prop:=
 if q.2.2≠0 then kt ms m (.fail q.1 q.2.2)else ∃ws,q.2.1=acc++ws/\∀r,kt ms (m.after q.1 k ws) r->kt ms m r
theorem jY.no{ms:dQ}{m:cm}{k:Nat}{S:bG}{c:Int}(al:c≠0)(h:kt ms m (.fail S c)):jY ms m k (S.no c):=by unfold jY;rw[if_pos (show(S.no c).2.2≠0 from al)];exact h
theorem jY.ok{ms:dQ}{m:cm}{k:Nat}{S:bG}{v:ay}(h:∀r,kt ms (m.after S k [v]) r->kt ms m r):jY ms m k (S.ok v):=by unfold jY;rw[if_neg (by simp[bG.ok])];exact h
theorem atA{ms:dQ}{m:cm}{c:List cY}(ez:m.Good ms)(h:hC ms m (⟨100,0,0⟩::c))(ai:m.S.left≠0){r:p2}(aj:kt ms (m.after m.S.tick 1 []) r):kt ms m r:=by refine .go (h.at ez (.tick m)) ?_ aj;unfold nr;simp only[h.get,if_true];rw[if_neg ai];simp[cm.after]
theorem aeu{ms:dQ}{m:cm}{c:List cY}(ez:m.Good ms)(h:hC ms m (⟨100,0,0⟩::c))(ai:m.S.left=0):kt ms m (.fail m.S 12):=by refine .fail (h.at ez (.tick m)) ?_;unfold nr;simp only[h.get,if_true];rw[if_pos ai]
theorem Hd(st ws:List ay):rA (st++ws) ws.length=ws:=by unfold rA;rw[dy,Nat.add_sub_cancel];exact List.drop_left
theorem He(st ws:List ay):tK (st++ws) ws.length=st:=by unfold tK;rw[dy,Nat.add_sub_cancel];exact List.take_left
theorem wq(st:List ay)(v:ay):rA (st++[v]) 1=[v]:=Hd st [v]
theorem Bw(st:List ay)(v:ay):tK (st++[v]) 1=st:=He st [v]
theorem aev(x:bk)(an:∃cE O,x.fault cE O=0)(p:Nat):∃c,cB x p=⟨100,0,0⟩::c:=by
 obtain⟨cE,O,h⟩:=an;obtain⟨F,J,_⟩:=Ni h;rw[Cm];unfold tJ;split
 ·rename_i bw;rw[bw]at J;have:x.l.length=2:=by simp[fX]at J;omega
  match ai:x.l,this with
  |[a,b],_=>exact⟨_,rfl⟩
 ·split
  ·rename_i cQ;rw[cQ]at J;have:x.l.length=3:=by simp[fX]at J;omega
   match ai:x.l,this with
   |[a,b,c],_=>exact⟨_,rfl⟩
  ·exact⟨_,rfl⟩
theorem atB{p:Int}{x y:bk}{arg:ay}{names:List ay}{S:bG}(F:x.op=y.op)(J:x.k=y.k)(af:x.n=y.n):ll p x arg names S=ll p y arg names S:=by unfold ll;rw[F,J,af]
theorem DW(m:cm)(S b3:bG)(a b:Nat)(bl ws:List ay):(m.after S a bl).after b3 b ws=m.after b3 (a+b) (bl++ws):=by simp[cm.after,p0]
theorem atC(m:cm):m.after m.S 0 []=m:=by simp[cm.after]
theorem aew{ms:dQ}{m:cm}{n:Int}{c:List cY}(h:hC ms m (⟨op,k,n⟩::c))(au:op<100):nr ms m=nq ms (m.after m.S 1 []) ⟨op,k,n⟩:=by unfold nr;simp only[h.get];rw[if_neg (by omega),if_neg (by omega),if_neg (by omega),if_neg (by omega),if_neg (by omega),if_neg (by omega)];simp[cm.after]
def aex(ms:dQ)(N:Nat):Prop:=∀(x:bk) (m:cm),m.Good ms->m.S.left<=N->x.fault (iN ms m.top.bD).length m.top.names.length=0->hC ms m (cB x m.top.bo)->jY ms m (cB x m.top.bo).length (e5 ms N m.top.bD x m.top.arg m.top.names (m.below.length+1) m.S)
theorem cm.Good.zn{ms:dQ}{m:cm}{b3:bG}{v:ay}{c:Int}{k:Nat}(h:m.Good ms)(lb:Iw m.S (b3,v,c))(al:c=0):(m.after b3 k [v]).Good ms:=by have F:=lb.1.ba;have J:=lb.2 al;have af:=lb.1.val al;simp only at F J af;exact h.after lb.1.dg (by omega) (by simp only[fS];omega) (λw hw=>by simp only[vp]at hw;rw[hw];exact af)
theorem aey{ms:dQ}{N:Nat}(aW:aex ms N):∀(l:List bk) (m:cm) (acc:List ay),m.Good ms->m.S.left<=N->(∀y∈l,y.fault (iN ms m.top.bD).length m.top.names.length=0)->hC ms m (kJ (l.map cB) m.top.bo)->Bv ms m (kJ (l.map cB) m.top.bo).length acc (j1 (λy S=>e5 ms N m.top.bD y m.top.arg m.top.names (m.below.length+1) S) l m.S acc)
 |[],m,acc,_,_,_,_=>by unfold Bv;simp only[j1,kK,kJ,ey];rw[if_neg (by simp)];exact⟨[],by simp,λr aj=>by rw[atC]at aj;exact aj⟩
 |x::l,m,acc,ez,ai,bn,az=>by
   simp only[gP,kJ]at az ⊢;have F:=aW x m ez ai (bn x (by simp)) az.left;have hle:=zT ms N m.top.bD x m.top.arg m.top.names (m.below.length+1) m.S;have lb:=sy ms N m.top.bD x m.top.arg m.top.names (m.below.length+1) m.S ez.S ez.top.arg ez.top.names;rw[j1];rcases aE:e5 ms N m.top.bD x m.top.arg m.top.names (m.below.length+1) m.S with⟨b3,v,c⟩;rw[aE]at F hle lb;simp only at F hle ⊢;unfold jY at F;simp only at F;by_cases al:c=0
   ·rw[if_neg (by simpa using al)]at F ⊢;have J:=aey aW l (m.after b3 (cB x m.top.bo).length [v]) (acc++[v]) (ez.zn lb al) (ee hle ai) (λy bq=>bn y (by simp[bq])) (az.right rfl rfl rfl);have av:(m.after b3 (cB x m.top.bo).length [v]).top.bo=m.top.bo+(cB x m.top.bo).length:=rfl;rw[av]at J;change Bv ms _ _ _ (j1 (λy S=>e5 ms N m.top.bD y m.top.arg m.top.names (m.below.length+1) S) l b3 (acc++[v]))at J;generalize j1 (λy S=>e5 ms N m.top.bD y m.top.arg m.top.names (m.below.length+1) S) l b3 (acc++[v])=q at J ⊢;unfold Bv at J ⊢;by_cases aR:q.2.2=0
    ·rw[if_neg (by simpa using aR)]at J ⊢;obtain⟨ws,e,J⟩:=J;refine⟨v::ws,by rw[e];simp,λr aj=>F r (J r ?_)⟩;rw[DW,List.singleton_append];rw[dy]at aj;exact aj
    ·rw[if_pos aR]at J ⊢;exact F _ J
   ·rw[if_pos al]at F ⊢;unfold Bv;simp only;rw[if_pos al];exact F
theorem atD(h:0<=fX op):1<=op/\op<=21:=by
 unfold fX at h;split at h
 ·omega
 ·split at h
  ·omega
  ·split at h
   ·omega
   ·split at h
    ·omega
    ·omega
theorem R1{ms:dQ}{m:cm}{c:List cY}(h:hC ms m (⟨105,0,0⟩::c)){v:ay}(U:m.top.stack=st++[v]):nr ms m=(let q:=if m.top.asked then l7 m.top.ec v m.S else m.S.ok v
  if q.2.2≠0 then .fail q.1 q.2.2 else match m.below.getLast? with
   |none=>.over q.1 q.2.1
   |some t=>.go ⟨q.1,{t with stack:=t.stack++[q.2.1]},m.below.dropLast⟩):=by
 unfold nr;simp only[h.get];rw[if_neg (by omega),if_neg (by omega),if_neg (by omega),if_neg (by omega),if_neg (by omega),if_pos trivial];unfold cm.back;simp only[U,wq,uO];rfl
theorem aez{α:Type}(l:List α)(a:α):(l++[a]).getLast? =j a/\(l++[a]).dropLast=l:=⟨by simp,by simp⟩
theorem atE{cE n O:Int}(h:qI cE 18 k n O=0):0<=k/\k<cE:=by
 unfold qI at h;split at h
 ·cases h
 ·rw[if_neg (by decide),if_neg (by decide),if_neg (by decide),if_pos rfl]at h;split at h
  ·cases h
  ·omega
theorem atF{cE n O:Int}(h:qI cE 4 k n O=0):0<=k/\k<O:=by
 unfold qI at h;split at h
 ·cases h
 ·rw[if_pos rfl]at h;split at h
  ·cases h
  ·omega
theorem aeA{ms:dQ}{v x:ay}{a8:Nat}{S b3:bG}{q:vn}(h:jr ms v x a8 S=(b3,q,0)):q.func.toNat<(iN ms q.bD).length/\a8≠20:=by
 unfold jr at h;simp only at h;split at h
 ·simp only[iQ]at h;omega
 ·split at h
  ·simp only[iQ]at h;omega
  ·split at h
   ·simp only[iQ]at h;omega
   ·split at h
    ·simp only[iQ]at h;omega
    ·rename_i aq;split at h
     ·simp only[iQ]at h;omega
     ·rename_i bn;simp only[iQ]at h;obtain⟨_,rfl,_⟩:=h;exact⟨by
       simp only;have:¬((iN ms (S.G.target v.n).1.bD).length:Int)<=(S.G.target v.n).1.func:=λe=>aq (.inr (.inl e));have af:¬(S.G.target v.n).1.func<0:=λe=>aq (.inr (.inr e));omega,bn⟩
theorem aeB{f:bk->bG->bG×ay×Int}:∀(l:List bk) (S:bG) (acc:List ay),(j1 f l S acc).2.2=0->(j1 f l S acc).2.1.length=acc.length+l.length
 |[],S,acc,_=>rfl
 |x::l,S,acc,h=>by
   rw[j1]at h ⊢;rcases aE:f x S with⟨b3,v,c⟩;rw[aE]at h;simp only at h ⊢;by_cases al:c=0
   ·rw[if_neg (by simpa using al)]at h ⊢;rw[aeB l b3 _ h];simp;omega
   ·rw[if_pos al]at h;exact absurd h al
theorem Bx{p:Int}{x:bk}{arg:ay}{names:List ay}{S:bG}:ll p x arg names S=Z↔¬(x.op=1\/x.op=2\/x.op=3\/x.op=4\/x.op=21):=by
 unfold ll;constructor
 ·intro h
  repeat' split at h
  all_goals first
   |omega
   |cases h
 ·intro h;rw[if_neg (by omega),if_neg (by omega),if_neg (by omega),if_neg (by omega),if_neg (by omega)]
theorem aeC{α:Type}{l:List α}(h:l.length=2):∃a b,l=[a,b]:=by
 match l,h with
 |[a,b],_=>exact⟨a,b,rfl⟩
theorem atG{α:Type}{l:List α}(h:l.length=3):∃a b c,l=[a,b,c]:=by
 match l,h with
 |[a,b,c],_=>exact⟨a,b,c,rfl⟩
theorem aeD{ms:dQ}(a7:yn ms):∀N:Nat,aex ms N
 |0,x,m,ez,ai,bn,az=>by
   obtain⟨c,al⟩:=aev x ⟨_,_,bn⟩ m.top.bo;have am:m.S.left=0:=by omega
   rw[al]at az;exact jY.no (by decide) (aeu ez az am)
 |N+1,x,m,ez,ai,bn,az=>by
   have aW:=aeD a7 N;obtain⟨c,al⟩:=aev x ⟨_,_,bn⟩ m.top.bo;have Hf:=az;rw[al]at Hf;obtain⟨f1,f2,f3,f4,f5⟩:=Ni bn;rw[e5];by_cases am:m.S.left=0
   ·rw[if_pos am];exact jY.no (by decide) (aeu ez Hf am)
   rw[if_neg am];have zo:∀r,kt ms (m.after m.S.tick 1 []) r->kt ms m r:=λr aj=>atA ez Hf am aj;have DX:(m.after m.S.tick 1 []).Good ms:=ez.after ez.S.tick (by have:=EM am;omega) (by have:=EM am;simp only[ey];omega) (by simp);have n2:m.S.tick.left<=N:=by show m.S.left - 1<=N;omega
   have iW:=atD f1;by_cases jj:x.op=5
   ·have uU:ll m.top.bD x m.top.arg m.top.names m.S.tick=Z:=Bx.2 (by omega);rw[uU];simp only;rw[if_pos jj];have hlen:x.l.length=2:=by rw[jj]at f2;simp[fX]at f2;omega
    obtain⟨a,b,vF⟩:=aeC hlen;rw[jj]at f5;rw[vF]at f5 ⊢;obtain⟨Lv,f6⟩:=EK f5;obtain⟨bh,_⟩:=EK f6;rw[if_neg (by omega)]at Lv;rw[if_pos (by omega)]at bh;simp only[uO,List.getD_cons_succ];have pM:cB x m.top.bo=⟨100,0,0⟩::(cB a (m.top.bo+1)++(⟨101,0,0⟩::(cB b (m.top.bo+1+(cB a (m.top.bo+1)).length+1)++[⟨102,0,0⟩]))):=by rw[Cm,vF];unfold tJ;rw[if_pos jj];rfl
    rw[pM]at az ⊢;have l':hC ms (m.after m.S.tick 1 []) _:=hC.right (a:=[⟨100,0,0⟩]) az rfl rfl rfl;have F:=aW a (m.after m.S.tick 1 []) DX n2 Lv l'.left;have hle:=zT ms N m.top.bD a m.top.arg m.top.names (m.below.length+1) m.S.tick;have lb:=sy ms N m.top.bD a m.top.arg m.top.names (m.below.length+1) m.S.tick ez.S.tick ez.top.arg ez.top.names;change jY ms _ _ (e5 ms N m.top.bD a m.top.arg m.top.names (m.below.length+1) m.S.tick)at F;rcases aE:e5 ms N m.top.bD a m.top.arg m.top.names (m.below.length+1) m.S.tick with⟨b3,v,c⟩;rw[aE]at F hle lb;simp only at F hle ⊢;unfold jY at F;simp only at F;by_cases al:c=0
    ·rw[if_neg (by simpa using al)]at F ⊢;rw[DW]at F;generalize e7:cB a (m.top.bo+1)=A at*;have GR:cB a (m.after m.S.tick 1 []).top.bo=A:=e7;rw[GR]at F;have kN:hC ms (m.after b3 (1+A.length) ([]++[v])) (⟨101,0,0⟩::(cB b (m.top.bo+1+A.length+1)++[⟨102,0,0⟩])):=hC.right l' rfl rfl (by simp only[cm.after];omega);have xX:(m.after b3 (1+A.length) ([]++[v])).Good ms:=by have:=cm.Good.zn (k:=A.length) DX lb al;rwa [DW]at this
     have ox:=kN.at xX ⟨by simp,by simp[cm.after],by simp,by simp,by simp,by simp⟩;have atH:v.code=0:=lb.1.val al;have bt:b3.left<m.S.tick.left:=lb.2 al;have ze:=(EM am).2;have qu:(⟨b3,{m.top with bo:=m.top.bo+1+A.length+1,names:=m.top.names++[v]},m.below⟩:cm).Good ms:=by
      refine xX.next rfl rfl ⟨ez.top.hd,ez.top.there,ez.top.f0,ez.top.f1,ez.top.arg,λw hw=>?_,ez.top.stack,ez.top.ec⟩ (by simp[cm.after]) ?_
      ·rcases pq.1 hw with hw|hw
       ·exact ez.top.names w hw
       ·simp only[vp]at hw;rw[hw];exact atH
      ·have:=ez.vq;simp only[dy,fS];omega
     have av:nr ms (m.after b3 (1+A.length) ([]++[v]))= .go {S:=b3,top:={m.top with bo:=m.top.bo+1+A.length+1,names:=m.top.names++[v]},below:=m.below}:=by unfold nr;simp only[kN.get];rw[if_neg (by decide),if_pos trivial];simp only[cm.after,j6,wq,Bw,uO];rw[p0 m.top.bo 1]
     have uD:hC ms {S:=b3,top:={m.top with bo:=m.top.bo+1+A.length+1,names:=m.top.names++[v]},below:=m.below} (cB b (m.top.bo+1+A.length+1)++[⟨102,0,0⟩]):=hC.right (a:=[⟨101,0,0⟩]) kN rfl rfl (by simp only[cm.after,fS];omega);have J:=aW b {S:=b3,top:={m.top with bo:=m.top.bo+1+A.length+1,names:=m.top.names++[v]},below:=m.below} qu (ee hle n2) (by simp only[dy,fS];exact bh) uD.left;simp only at J;have rj:=sy ms N m.top.bD b m.top.arg (m.top.names++[v]) (m.below.length+1) b3 qu.S qu.top.arg qu.top.names;generalize e5 ms N m.top.bD b m.top.arg (m.top.names++[v]) (m.below.length+1) b3=q at J rj ⊢;unfold jY at J ⊢;by_cases aR:q.2.2=0
     ·rw[if_neg (by simpa using aR)]at J ⊢;intro r aj;refine zo r (F r (.go ox av (J r ?_)));generalize cB b (m.top.bo+1+A.length+1)=B at*;have Hg:hC ms (cm.after {S:=b3,top:={m.top with bo:=m.top.bo+1+A.length+1,names:=m.top.names++[v]},below:=m.below} q.1 B.length [q.2.1]) [⟨102,0,0⟩]:=hC.right uD rfl rfl rfl;refine .go (Hg.at (cm.Good.zn (c:=q.2.2) qu rj aR) ⟨by simp,by simp,by simp[cm.after],by simp,by simp,by simp⟩) (aZ:=m.after q.1 (⟨100,0,0⟩::(A++(⟨101,0,0⟩::(B++[⟨102,0,0⟩]))):List cY).length [q.2.1]) ?_ aj;unfold nr;simp only[Hg.get];rw[if_neg (by decide),if_neg (by decide),if_pos trivial];simp only[cm.after,List.dropLast_concat,dw,dy,ey];congr 3;omega
     ·rw[if_pos aR]at J ⊢;exact zo _ (F _ (.go ox av J))
    ·rw[if_pos al]at F ⊢;exact jY.no al (zo _ F)
   by_cases pC:x.op=7
   ·have uU:ll m.top.bD x m.top.arg m.top.names m.S.tick=Z:=Bx.2 (by omega);rw[uU];simp only;rw[if_neg jj,if_pos pC];have hlen:x.l.length=3:=by rw[pC]at f2;simp[fX]at f2;omega
    obtain⟨a,b,gy,vF⟩:=atG hlen;have R2:=It jj f5;have Lv:=R2 a (by rw[vF];simp);have bh:=R2 b (by rw[vF];simp);have Hh:=R2 gy (by rw[vF];simp);rw[vF];simp only[uO,List.getD_cons_succ];have pM:cB x m.top.bo=⟨100,0,0⟩::(cB a (m.top.bo+1)++(⟨103,((pn (cB a) (cB b) m.top.bo:Nat):Int),0⟩::(cB b (m.top.bo+1+(cB a (m.top.bo+1)).length+1)++ (⟨104,((pn (cB a) (cB b) m.top.bo+(cB gy (pn (cB a) (cB b) m.top.bo)).length:Nat):Int),0⟩::cB gy (pn (cB a) (cB b) m.top.bo))))):=by rw[Cm,vF];unfold tJ;rw[if_neg jj,if_pos pC];rfl
    have Hi:pn (cB a) (cB b) m.top.bo=m.top.bo+1+(cB a (m.top.bo+1)).length+1+(cB b (m.top.bo+1+(cB a (m.top.bo+1)).length+1)).length+1:=rfl;rw[pM]at az ⊢;have l':hC ms (m.after m.S.tick 1 []) _:=hC.right (a:=[⟨100,0,0⟩]) az rfl rfl rfl;have F:=aW a (m.after m.S.tick 1 []) DX n2 Lv l'.left;have hle:=zT ms N m.top.bD a m.top.arg m.top.names (m.below.length+1) m.S.tick;have lb:=sy ms N m.top.bD a m.top.arg m.top.names (m.below.length+1) m.S.tick ez.S.tick ez.top.arg ez.top.names;change jY ms _ _ (e5 ms N m.top.bD a m.top.arg m.top.names (m.below.length+1) m.S.tick)at F;rcases aE:e5 ms N m.top.bD a m.top.arg m.top.names (m.below.length+1) m.S.tick with⟨b3,v,c⟩;rw[aE]at F hle lb;simp only at F hle ⊢;unfold jY at F;simp only at F;by_cases al:c=0
    ·rw[if_neg (by simpa using al)]at F ⊢;rw[DW]at F;have GR:cB a (m.after m.S.tick 1 []).top.bo=cB a (m.top.bo+1):=rfl;rw[GR]at F;have K8:∀q,q=m.top.bo+1+(cB a (m.top.bo+1)).length+1->cB b q=cB b (m.top.bo+1+(cB a (m.top.bo+1)).length+1):=λq e=>by rw[e]
     have aeE:∀q,q=pn (cB a) (cB b) m.top.bo->cB gy q=cB gy (pn (cB a) (cB b) m.top.bo):=λq e=>by rw[e]
     generalize cB gy (pn (cB a) (cB b) m.top.bo)=C at*;generalize pn (cB a) (cB b) m.top.bo=el at*;generalize cB b (m.top.bo+1+(cB a (m.top.bo+1)).length+1)=B at*;generalize cB a (m.top.bo+1)=A at*;have kN:hC ms (m.after b3 (1+A.length) ([]++[v])) (⟨103,(el:Int),0⟩::(B++(⟨104,((el+C.length:Nat):Int),0⟩::C))):=hC.right l' rfl rfl (by simp only[cm.after];omega);have ab:(⟨100,0,0⟩::(A++(⟨103,(el:Int),0⟩::(B++(⟨104,((el+C.length:Nat):Int),0⟩::C)))):List cY).length=1+A.length+1+B.length+1+C.length:=by simp only[dw,dy];omega
     rw[ab];have qv:∀r,kt ms (m.after b3 (1+A.length) ([]++[v])) r->kt ms m r:=λr aj=>zo r (F r aj);have xX:(m.after b3 (1+A.length) ([]++[v])).Good ms:=by have:=cm.Good.zn (k:=A.length) DX lb al;rwa [DW]at this
     have ox:=kN.at xX ⟨by simp,by simp[cm.after],by simp,by simp,by simp,by simp⟩;have qu:∀bo,(⟨b3,{m.top with bo:=bo},m.below⟩:cm).Good ms:=λbo=>by refine xX.next rfl rfl ⟨ez.top.hd,ez.top.there,ez.top.f0,ez.top.f1,ez.top.arg,ez.top.names,ez.top.stack,ez.top.ec⟩ (by simp[cm.after]) xX.vq
     by_cases U:v.kind=1
     ·rw[if_neg (by simpa using U)];have av:nr ms (m.after b3 (1+A.length) ([]++[v]))= .go {S:=b3,top:={m.top with bo:=if v.n=0 then el else m.top.bo+(1+A.length)+1},below:=m.below}:=by unfold nr;simp only[kN.get];rw[if_neg (by decide),if_neg (by decide),if_neg (by decide),if_pos trivial];simp only[cm.after,j6,wq,Bw,uO,rV];rw[if_neg (by simpa using U)]
      by_cases aq:v.n=0
      ·rw[if_neg (by simpa using aq)];rw[if_pos aq]at av;have uD:hC ms {S:=b3,top:={m.top with bo:=el},below:=m.below} C:=by have:=hC.right (aZ:={S:=b3,top:={m.top with bo:=el},below:=m.below}) (a:=⟨100,0,0⟩::(A++(⟨103,(el:Int),0⟩::(B++[⟨104,((el+C.length:Nat):Int),0⟩])))) (b:=C) (ms:=ms) (m:=m) (by simpa using az) rfl rfl (by simp only[dw,dy,ey];omega);exact this
       have J:=aW gy {S:=b3,top:={m.top with bo:=el},below:=m.below} (qu _) (ee hle n2) Hh (by simp only;rw[aeE el rfl];exact uD);simp only at J;rw[aeE el rfl]at J;generalize e5 ms N m.top.bD gy m.top.arg m.top.names (m.below.length+1) b3=q at J ⊢;unfold jY at J ⊢;by_cases aR:q.2.2=0
       ·rw[if_neg (by simpa using aR)]at J ⊢;intro r aj;refine qv r (.go ox av (J r ?_));have:(cm.after {S:=b3,top:={m.top with bo:=el},below:=m.below} q.1 C.length [q.2.1])=m.after q.1 (1+A.length+1+B.length+1+C.length) [q.2.1]:=by simp only[cm.after];rw[show el+C.length=m.top.bo+(1+A.length+1+B.length+1+C.length) by omega]
        rw[this];exact aj
       ·rw[if_pos aR]at J ⊢;exact qv _ (.go ox av J)
      ·rw[if_pos aq];rw[if_neg aq]at av;have uD:hC ms {S:=b3,top:={m.top with bo:=m.top.bo+(1+A.length)+1},below:=m.below} (B++(⟨104,((el+C.length:Nat):Int),0⟩::C)):=hC.right (a:=[⟨103,(el:Int),0⟩]) kN rfl rfl (by simp only[cm.after,fS]);have sF:cB b (m.top.bo+(1+A.length)+1)=B:=K8 _ (by omega);have J:=aW b {S:=b3,top:={m.top with bo:=m.top.bo+(1+A.length)+1},below:=m.below} (qu _) (ee hle n2) bh (by simp only;rw[sF];exact uD.left);simp only at J;rw[sF]at J;have rj:=sy ms N m.top.bD b m.top.arg m.top.names (m.below.length+1) b3 xX.S ez.top.arg ez.top.names;generalize e5 ms N m.top.bD b m.top.arg m.top.names (m.below.length+1) b3=q at J rj ⊢;unfold jY at J ⊢;by_cases aR:q.2.2=0
       ·rw[if_neg (by simpa using aR)]at J ⊢;intro r aj;refine qv r (.go ox av (J r ?_));have Hg:hC ms (cm.after {S:=b3,top:={m.top with bo:=m.top.bo+(1+A.length)+1},below:=m.below} q.1 B.length [q.2.1]) (⟨104,((el+C.length:Nat):Int),0⟩::C):=hC.right uD rfl rfl rfl;refine .go (Hg.at (cm.Good.zn (c:=q.2.2) (qu _) rj aR) ⟨by simp,by simp,by simp,λ_=>Int.natCast_nonneg _,by simp,by simp⟩) (aZ:=m.after q.1 (1+A.length+1+B.length+1+C.length) [q.2.1]) ?_ aj;unfold nr;simp only[Hg.get];rw[if_neg (by decide),if_neg (by decide),if_neg (by decide),if_neg (by decide),if_pos trivial];simp only[cm.after,rV];congr 3;omega
       ·rw[if_pos aR]at J ⊢;exact qv _ (.go ox av J)
     ·rw[if_pos U];refine jY.no (by decide) (qv _ (.fail ox ?_));unfold nr;simp only[kN.get];rw[if_neg (by decide),if_neg (by decide),if_neg (by decide),if_pos trivial];simp only[cm.after,j6,wq,uO];rw[if_pos U]
    ·rw[if_pos al]at F ⊢;exact jY.no al (zo _ F)
   have pM:cB x m.top.bo=⟨100,0,0⟩::(kJ (x.l.map cB) (m.top.bo+1)++[⟨x.op,x.k,x.n⟩]):=by rw[Cm];unfold tJ;rw[if_neg jj,if_neg pC]
   rw[pM]at az ⊢;have l':hC ms (m.after m.S.tick 1 []) (kJ (x.l.map cB) (m.top.bo+1)++[⟨x.op,x.k,x.n⟩]):=hC.right (a:=[⟨100,0,0⟩]) az rfl rfl rfl;cases uU:ll m.top.bD x m.top.arg m.top.names m.S.tick with
   |some v=>
     have aR:x.l=[]:=by
      have:x.op=1\/x.op=2\/x.op=3\/x.op=4\/x.op=21:=by
       rcases Classical.em (x.op=1\/x.op=2\/x.op=3\/x.op=4\/x.op=21)with h|h
       ·exact h
       ·rw[Bx.2 h]at uU;cases uU
      have hp:fX x.op=0:=by rw[fX,if_pos this]
      rw[hp]at f2;exact mF.1 (by omega)
     rw[aR]at l' ⊢;simp only[kK,kJ,j6]at l' ⊢;refine jY.ok λr aj=>zo r (.go (l'.at DX ⟨.inl ⟨iW.1,iW.2,jj,pC⟩,λh=>by simp only at h;omega,λh=>by simp only at h;omega,λh=>by simp only at h;omega,λ_=>by simp only;rw[aR]at f2;rw[<-f2];simp,λh=>?_⟩) ?_ aj)
     ·simp only at h;rw[h]at f3;exact atF f3
     rw[aew l' (by omega)];unfold nq;have R3:ll m.top.bD (.mk x.op x.k x.n []) m.top.arg m.top.names m.S.tick=j v:=by rw[<-uU];exact atB rfl rfl rfl
     simp only[cm.after,me,R3,cm.push,dw,ey]
   |none=>
     simp only;rw[if_neg jj,if_neg pC];have df:=aey aW x.l (m.after m.S.tick 1 []) [] DX n2 (It jj f5) l'.left;have hlen:=aeB (f:=λy S=>e5 ms N m.top.bD y m.top.arg m.top.names (m.below.length+1) S) x.l m.S.tick [];have hle:=Nk (f:=λy S=>e5 ms N m.top.bD y m.top.arg m.top.names (m.below.length+1) S) (λy S=>zT ms N m.top.bD y m.top.arg m.top.names (m.below.length+1) S) x.l m.S.tick [];have aeF:=Nq (f:=λy S=>e5 ms N m.top.bD y m.top.arg m.top.names (m.below.length+1) S) (λy S h=>sy ms N m.top.bD y m.top.arg m.top.names (m.below.length+1) S h ez.top.arg ez.top.names) x.l m.S.tick [] ez.S.tick (by simp);change Bv ms _ _ _ (j1 (λy S=>e5 ms N m.top.bD y m.top.arg m.top.names (m.below.length+1) S) x.l m.S.tick [])at df;rcases aE:j1 (λy S=>e5 ms N m.top.bD y m.top.arg m.top.names (m.below.length+1) S) x.l m.S.tick []with⟨b3,l,c⟩;rw[aE]at df hlen hle aeF;obtain⟨Hj,atI,atJ,aeG⟩:=aeF;simp only[ey,gH]at df hlen hle ⊢;unfold Bv at df;simp only at df;by_cases al:c=0
     ·subst al;rw[if_neg (by simp)]at df ⊢;obtain⟨ws,Lw,df⟩:=df;rw[j6]at Lw;subst Lw;have hlen:=hlen rfl;change ∀r,kt ms ((m.after m.S.tick 1 []).after b3 (kJ (x.l.map cB) (m.top.bo+1)).length l) r->_ at df;rw[DW,j6]at df;generalize kJ (x.l.map cB) (m.top.bo+1)=A at*;have qv:∀r,kt ms (m.after b3 (1+A.length) l) r->kt ms m r:=λr aj=>zo r (df r aj);have kN:hC ms (m.after b3 (1+A.length) l) [⟨x.op,x.k,x.n⟩]:=hC.right l' rfl rfl (by simp only[cm.after];omega);have R3:ll m.top.bD (.mk x.op x.k x.n []) m.top.arg m.top.names b3=Z:=Bx.2 (Bx.1 uU);have jc:=aew kN (by omega);have Hk:=EM am;have pI:=(aeG rfl).1;have uu:=(aeG rfl).2;simp only[ey,Nat.add_zero]at Hj atI atJ pI uu;have xX:(m.after b3 (1+A.length) l).Good ms:=ez.after Hj (by omega) (by omega) pI;have ox:wP ms (m.after b3 (1+A.length) l):=kN.at xX ⟨.inl ⟨iW.1,iW.2,jj,pC⟩,λh=>by simp only at h;omega,λh=>by simp only at h;omega,λh=>by simp only at h;omega,λ_=>by
       simp only[cm.after,dy];omega,λh=>by
       have:=Bx.1 uU;simp only at h;omega⟩
      have atK:(fX x.op).toNat=l.length:=by omega
      have ab:(⟨100,0,0⟩::(A++[⟨x.op,x.k,x.n⟩]):List cY).length=1+A.length+1:=by simp only[dw,dy,ey];omega
      rw[ab];clear ab pM az l';unfold nq at jc;simp only[cm.after,me,R3]at jc;by_cases Lx:x.op=18
      ·rw[if_pos Lx]at jc ⊢;rw[Lx]at f2 f3;obtain⟨hh,c8⟩:=atE f3;obtain⟨v,rfl⟩:∃v,l=[v]:=by
        have:l.length=1:=by rw[hlen];simp[fX]at f2;omega
        match l,this with
        |[v],_=>exact⟨v,rfl⟩
       rw[wq,Bw]at jc;simp only[uO]at jc ⊢;unfold cm.call at jc;simp only at jc;by_cases uT:m.below.length+1=20
       ·rw[if_pos uT]at jc ⊢;exact jY.no (by decide) (qv _ (.fail ox jc))
       ·rw[if_neg uT]at jc ⊢;have R4:=R0 a7 (p:=m.top.bD) (k:=x.k) (by omega);have qu:(⟨b3,⟨m.top.bD,x.k,0,v,[],[],R,[]⟩,m.below++[{m.top with bo:=m.top.bo+(1+A.length)+1}]⟩:cm).Good ms:=by
         have g1:=ez.cV;have cK:=ez.qG;have et:=ez.ba;refine⟨Hj,⟨ez.top.hd,ez.top.there,hh,by simp only;omega,pI v (by simp),by simp,by simp,by simp⟩,by simp only;omega,?_,?_,?_⟩
         ·simp only[ey];omega
         ·simp only[ey];omega
         ·simp only[dy,fS];omega
        have rj:=sy ms N m.top.bD (gs ms m.top.bD x.k) v [] (m.below.length+1+1) b3 Hj (pI v (by simp)) (by simp);have af:=aW (gs ms m.top.bD x.k) ⟨b3,⟨m.top.bD,x.k,0,v,[],[],R,[]⟩,m.below++[{m.top with bo:=m.top.bo+(1+A.length)+1}]⟩ qu (ee hle n2) R4 ⟨[],[⟨105,0,0⟩],by simp[kV],rfl⟩;simp only[dy,fS]at af;generalize e5 ms N m.top.bD (gs ms m.top.bD x.k) v [] (m.below.length+1+1) b3=q at af rj ⊢;unfold jY at af ⊢;by_cases aR:q.2.2=0
        ·rw[if_neg (by simpa using aR)]at af ⊢;intro r aj;refine qv r (.go ox jc (af r (.go (hC.at (c:=[]) (x:=⟨105,0,0⟩) ⟨cB (gs ms m.top.bD x.k) 0,[],by simp[kV,cm.after],by simp[cm.after]⟩ (cm.Good.zn (c:=q.2.2) qu rj aR) ⟨by simp,by simp[cm.after],by simp,by simp,by simp,by simp⟩) ?_ aj)));rw[R1 (c:=[]) (st:=[]) (v:=q.2.1) ⟨cB (gs ms m.top.bD x.k) 0,[],by simp[kV,cm.after],by simp[cm.after]⟩ rfl];simp only[cm.after,bG.ok,aez];rw[if_neg (by simp)];simp only[nx,if_false];simp[p0]
        ·rw[if_pos aR]at af ⊢;exact qv _ (.go ox jc af)
      by_cases R5:x.op=19
      ·rw[if_neg Lx,if_pos R5]at jc ⊢;rw[R5]at f2;obtain⟨v,w,rfl⟩:∃v w,l=[v,w]:=aeC (by rw[hlen];simp[fX]at f2;omega);have Hk:=Hd m.top.stack [v,w];have dh:=He m.top.stack [v,w];simp only[dw,ey,gH,aw]at Hk dh;rw[Hk,dh]at jc;simp only[uO,List.getD_cons_succ]at jc ⊢;have R6:=Nj ms v w (m.below.length+1) b3;have R7:=UR (ms:=ms) (v:=v) (x:=w) (a8:=m.below.length+1) Hj;rcases aeH:jr ms v w (m.below.length+1) b3 with⟨mX,q,c⟩;rw[aeH]at jc R6 R7;simp only at jc R6 R7 ⊢;by_cases al:c=0
       ·subst al;rw[if_neg (by simp)]at jc ⊢;obtain⟨atL,uT⟩:=aeA aeH;unfold cm.call at jc;simp only at jc;rw[if_neg uT]at jc;have R4:=R0 a7 (p:=q.bD) (k:=q.func) atL;obtain⟨dk,dH,g0⟩:=R7;obtain⟨k2,te,Hl,By,atM,aeI⟩:=g0 rfl;have qu:(⟨mX,⟨q.bD,q.func,0,q.arg,[],[],Q,q.ec⟩,m.below++[{m.top with bo:=m.top.bo+(1+A.length)+1}]⟩:cm).Good ms:=by
         have g1:=ez.cV;have cK:=ez.qG;have et:=ez.ba;refine⟨dk,⟨By,Hl,atM,aeI,k2,by simp,by simp,te⟩,by simp only;omega,?_,?_,?_⟩
         ·simp only[ey];omega
         ·simp only[ey];omega
         ·simp only[dy,fS];omega
        have rj:=sy ms N q.bD (gs ms q.bD q.func) q.arg [] (m.below.length+1+1) mX dk k2 (by simp);have af:=aW (gs ms q.bD q.func) ⟨mX,⟨q.bD,q.func,0,q.arg,[],[],Q,q.ec⟩,m.below++[{m.top with bo:=m.top.bo+(1+A.length)+1}]⟩ qu (ee (p3 R6) (ee hle n2)) R4 ⟨[],[⟨105,0,0⟩],by simp[kV],rfl⟩;simp only[dy,fS]at af;rcases ym:e5 ms N q.bD (gs ms q.bD q.func) q.arg [] (m.below.length+1+1) mX with⟨sw,v3,c3⟩;rw[ym]at af rj;unfold jY at af;simp only at af ⊢;by_cases aR:c3=0
        ·rw[if_neg (by simpa using aR)]at af ⊢;have wu:=R1 (ms:=ms) (m:=cm.after ⟨mX,⟨q.bD,q.func,0,q.arg,[],[],Q,q.ec⟩,m.below++[{m.top with bo:=m.top.bo+(1+A.length)+1}]⟩ sw (cB (gs ms q.bD q.func) 0).length [v3]) (c:=[]) (st:=[]) (v:=v3) ⟨cB (gs ms q.bD q.func) 0,[],by simp[kV,cm.after],by simp[cm.after]⟩ rfl;have Ly:wP ms (cm.after ⟨mX,⟨q.bD,q.func,0,q.arg,[],[],Q,q.ec⟩,m.below++[{m.top with bo:=m.top.bo+(1+A.length)+1}]⟩ sw (cB (gs ms q.bD q.func) 0).length [v3]):=hC.at (c:=[]) (x:=⟨105,0,0⟩) ⟨cB (gs ms q.bD q.func) 0,[],by simp[kV,cm.after],by simp[cm.after]⟩ (qu.zn rj aR) ⟨by simp,by simp[cm.after],by simp,by simp,by simp,by simp⟩;simp only[cm.after,if_true,aez]at wu;generalize l7 q.ec v3 sw=eB at wu ⊢;unfold jY;by_cases aeJ:eB.2.2=0
         ·rw[if_neg (by simpa using aeJ)]at wu ⊢;intro r aj;refine qv r (.go ox jc (af r (.go Ly wu ?_)));simpa[cm.after,p0]using aj
         ·rw[if_pos aeJ]at wu ⊢;exact qv _ (.go ox jc (af _ (.fail Ly wu)))
        ·rw[if_pos aR]at af ⊢;exact jY.no aR (qv _ (.go ox jc af))
       ·rw[if_pos al]at jc ⊢;exact jY.no al (qv _ (.fail ox jc))
      rw[if_neg Lx,if_neg R5]at jc ⊢;rw[atK,Hd,He]at jc;generalize hr m.top.bD x.op x.k x.n l b3=q at jc ⊢;unfold jY;unfold cm.done cm.push at jc;by_cases aR:q.2.2=0
      ·rw[if_neg (by simpa using aR)]at jc ⊢;intro r aj;refine qv r (.go ox jc ?_);simpa only[cm.after,p0]using aj
      ·rw[if_pos aR]at jc ⊢;exact qv _ (.fail ox jc)
     ·rw[if_pos al]at df ⊢;exact jY.no al (zo _ df)
theorem pd{α:Type}{l:List α}(h:1<=l.length):∃st v,l=st++[v]:=⟨l.dropLast,l.getLast (λe=>by rw[e]at h;simp at h),(List.dropLast_concat_getLast _).symm⟩
theorem Lz{α:Type}{l:List α}(h:2<=l.length):∃st v w,l=st++[v]++[w]:=by obtain⟨st,w,rfl⟩:=pd (l:=l) (by omega);obtain⟨st,v,rfl⟩:=pd (l:=st) (by simp at h;omega);exact⟨st,v,w,rfl⟩
section
variable{h E am:ad}{ah ao aL aF:Nat->Prop}{L:List b2}{c:hU}{i:Nat}{n:fl}
abbrev fl.m(n:fl):cm:=⟨n.S,n.top,n.below⟩
theorem eL.pN{q:bG×ay×Int}{a8:I⊕I}(r:eL am aL aF c L i (n.cV st) q a8 E):G6 am aL aF c L i (cm.done n.m st q) a8 E:=by
 unfold cm.done;rcases r with⟨e,b,s⟩|⟨e,b,b4,ax,s⟩
 ·rw[if_neg (by simpa using e)];exact⟨b,n.bh,s⟩
 ·rw[if_pos e];exact⟨b,b4,ax,s⟩
theorem ow.pN{q:bG×vn×Int}{a8:I⊕I}(r:ow am aL aF c L i (n.cV st) q a8 E)(qK:q.2.2=0->n.below.length+1≠20):G6 am aL aF c L i (match q with
   |(b3,q,k)=>if k≠0 then .fail b3 k else cm.call n.m b3 st q.bD q.func q.arg Q q.ec) a8 E:=by
 obtain⟨b3,q,k⟩:=q;rcases r with⟨e,b,bh,s⟩|⟨e,b,b4,ax,s⟩
 ·simp only at e s qK ⊢;rw[if_neg (by simpa using e)];unfold cm.call;rw[if_neg (qK e)];exact⟨b,bh,s⟩
 ·simp only at e b ax s ⊢;rw[if_pos e];exact⟨b,b4,ax,s⟩
theorem RZ.pN{v:ay}{a8:I⊕I}(r:RZ am aL aF c L i (n.cV st) k v a8 E):G6 am aL aF c L i (cm.call n.m n.S st n.top.bD k v R []) a8 E:=by
 unfold cm.call;rcases r with⟨e,b,bh,s⟩|⟨e,b,s⟩
 ·rw[if_neg e];exact⟨b,bh,s⟩
 ·rw[if_pos e];exact⟨b,n.cV st,rfl,s⟩
theorem aeK{ms:dQ}{m:cm}{x:Int}(h:¬(op=1\/op=2\/op=3\/op=4\/op=21))(g7:op≠18)(nt:op≠19):nq ms m ⟨op,k,x⟩=m.done (tK m.top.stack (fX op).toNat) (hr m.top.bD op k x (rA m.top.stack (fX op).toNat) m.S):=by unfold nq;have ai:ll m.top.bD (.mk op k x []) m.top.arg m.top.names m.S=Z:=Bx.2 h;simp only;rw[ai];simp only;rw[if_neg g7,if_neg nt]
theorem atN{ms:dQ}{m:cm}{x:Int}{v:ay}(h:ll m.top.bD (.mk op k x []) m.top.arg m.top.names m.S=j v):nq ms m ⟨op,k,x⟩=m.push m.S m.top.stack v:=by unfold nq;simp only;rw[h]
theorem xY{ms:dQ}{v:ay}{x:Int}(bJ:n.top.stack=st++[v])(h:¬(op=1\/op=2\/op=3\/op=4\/op=21))(g7:op≠18)(nt:op≠19)(hp:(fX op).toNat=1):nq ms n.m ⟨op,k,x⟩=cm.done n.m st (hr n.top.bD op k x [v] n.S):=by rw[aeK h g7 nt,hp];simp only[bJ,wq,Bw]
theorem R8{ms:dQ}{v w:ay}{x:Int}(bJ:n.top.stack=st++[v]++[w])(h:¬(op=1\/op=2\/op=3\/op=4\/op=21))(g7:op≠18)(nt:op≠19)(hp:(fX op).toNat=2):nq ms n.m ⟨op,k,x⟩=cm.done n.m st (hr n.top.bD op k x [v,w] n.S):=by
 rw[aeK h g7 nt,hp];have e:n.top.stack=st++[v,w]:=by rw[bJ,jA];rfl
 have t:=Hd st [v,w];have d:=He st [v,w];simp only[dw,ey,gH,aw]at t d;simp only[e,t,d]
theorem Hm{ms:dQ}{v:ay}{x:Int}{F:ad}(ai:ll n.top.bD (.mk op k x []) n.top.arg n.top.names n.S=j v)(s:aQ am aL aF F (put c L i (n.cV (n.top.stack++[v])))):G6 am aL aF c L i (nq ms n.m ⟨op,k,x⟩) (.inl (.bx [])) F:=by rw[atN ai];exact⟨rfl,n.bh,s⟩
theorem R9(a7:n.top.Good c.ms)(bJ:n.top.stack=st++l){v:ay}(U:v∈l):v.code=0:=a7.stack v (by rw[bJ];exact List.mem_append_right _ U)
theorem atO(s:aQ am aL aF h L)(a:eK c L i n)(O:hI c n)(a7:n.top.Good c.ms){x:cY}(an:Co n.m x)(iW:x.op<100):∃a8 E,aM ak T mS [.ptr c.bp 0 0,.agg (fL x)] h=j (a8,E)/\G6 am aL aF c L i (nq c.ms n.m x) a8 E:=by
 obtain⟨op,k,m⟩:=x;simp only at iW;have ab:=an.kind;have n4:=an.parts iW;have aeL:=an.var;simp only at ab n4 aeL;obtain⟨P,eJ⟩:=Int.eq_ofNat_of_zero_le a7.hd;have pc:P<4:=by
  have:=a7.there;rw[eJ]at this;have this:(c.ms.getD P Z).isSome=Q:=this;rcases oI P 4 with h|h
  ·exact h
  ·rw[dm,lN (by rw[O.ms];exact h)]at this;cases this
 have LA:n.top.bD.toNat=P:=by rw[eJ];rfl
 have ua:op=1\/op=2\/op=3\/op=4\/op=6\/op=8\/op=9\/op=10\/op=11\/op=12\/op=13\/op=14\/op=15\/op=16\/op=17\/op=18\/op=19\/op=20\/op=21:=by omega
 rcases ua with rfl|rfl|rfl|rfl|rfl|rfl|rfl|rfl|rfl|rfl|rfl|rfl|rfl|rfl|rfl|rfl|rfl|rfl|rfl
 ·obtain⟨E,e,eD⟩:=as' s a O k m;exact⟨_,E,e,Hm rfl eD⟩
 ·obtain⟨E,e,eD⟩:=ata s a O k m;exact⟨_,E,e,Hm rfl eD⟩
 ·obtain⟨E,e,eD⟩:=atb s a O k m;exact⟨_,E,e,Hm rfl eD⟩
 ·obtain⟨E,e,eD⟩:=atc s a O (aeL rfl) m;exact⟨_,E,e,Hm rfl eD⟩
 ·obtain⟨st,v,w,bJ⟩:=Lz (l:=n.top.stack) n4;obtain⟨a8,E,e,r⟩:=as1 s a O bJ k m;exact⟨a8,E,e,by rw[R8 bJ (by decide) (by decide) (by decide) rfl];exact r.pN⟩
 ·obtain⟨st,v,w,bJ⟩:=Lz (l:=n.top.stack) n4;obtain⟨a8,E,e,r⟩:=as5 s a O bJ k m;exact⟨a8,E,e,by rw[R8 bJ (by decide) (by decide) (by decide) rfl];exact r.pN⟩
 ·obtain⟨st,v,bJ⟩:=pd (l:=n.top.stack) n4;obtain⟨a8,E,e,r⟩:=as6 s a O bJ (R9 a7 bJ (by simp)) k m;exact⟨a8,E,e,by rw[xY bJ (by decide) (by decide) (by decide) rfl];exact r.pN⟩
 ·obtain⟨st,v,bJ⟩:=pd (l:=n.top.stack) n4;obtain⟨a8,E,e,r⟩:=as7 s a O bJ (R9 a7 bJ (by simp)) k m;exact⟨a8,E,e,by rw[xY bJ (by decide) (by decide) (by decide) rfl];exact r.pN⟩
 ·obtain⟨st,v,bJ⟩:=pd (l:=n.top.stack) n4;obtain⟨a8,E,e,r⟩:=as8 s a O bJ k m;exact⟨a8,E,e,by rw[xY bJ (by decide) (by decide) (by decide) rfl];exact r.pN⟩
 ·obtain⟨st,v,bJ⟩:=pd (l:=n.top.stack) n4;obtain⟨a8,E,e,r⟩:=as9 s a O bJ (R9 a7 bJ (by simp)) k m;exact⟨a8,E,e,by rw[xY bJ (by decide) (by decide) (by decide) rfl];exact r.pN⟩
 ·obtain⟨st,v,bJ⟩:=pd (l:=n.top.stack) n4;obtain⟨a8,E,e,r⟩:=atm s a O bJ k m;exact⟨a8,E,e,by rw[xY bJ (by decide) (by decide) (by decide) rfl];exact r.pN⟩
 ·obtain⟨st,v,w,bJ⟩:=Lz (l:=n.top.stack) n4;obtain⟨a8,E,e,r⟩:=ato s a O bJ k m;exact⟨a8,E,e,by rw[R8 bJ (by decide) (by decide) (by decide) rfl];exact r.pN⟩
 ·obtain⟨st,v,bJ⟩:=pd (l:=n.top.stack) n4;obtain⟨a8,E,e,r⟩:=att s a O bJ k m;exact⟨a8,E,e,by rw[xY bJ (by decide) (by decide) (by decide) rfl];exact r.pN⟩
 ·obtain⟨st,v,bJ⟩:=pd (l:=n.top.stack) n4;obtain⟨a8,E,e,r⟩:=atn s a O bJ k m;exact⟨a8,E,e,by rw[xY bJ (by decide) (by decide) (by decide) rfl];exact r.pN⟩
 ·obtain⟨st,v,bJ⟩:=pd (l:=n.top.stack) n4;obtain⟨a8,E,e,r⟩:=atu s a O bJ k m;exact⟨a8,E,e,by rw[xY bJ (by decide) (by decide) (by decide) rfl];exact r.pN⟩
 ·obtain⟨st,v,bJ⟩:=pd (l:=n.top.stack) n4;obtain⟨a8,E,e,r⟩:=atv s a O bJ k m;refine⟨a8,E,e,?_⟩;have:nq c.ms n.m ⟨18,k,m⟩=cm.call n.m n.S st n.top.bD k v R []:=by unfold nq;simp only;have ai:ll n.top.bD (.mk 18 k m []) n.top.arg n.top.names n.S=Z:=rfl;rw[ai];simp only[bJ,wq,Bw,if_true];rfl
  rw[this];exact r.pN
 ·obtain⟨st,v,w,bJ⟩:=Lz (l:=n.top.stack) n4;obtain⟨a8,E,e,r⟩:=atp s a O bJ k m;refine⟨a8,E,e,?_⟩;have ax:n.top.stack=st++[v,w]:=by rw[bJ,jA];rfl
  have t:=Hd st [v,w];have d:=He st [v,w];simp only[dw,ey,gH,aw]at t d;have:nq c.ms n.m ⟨19,k,m⟩=match jr c.ms v w (n.below.length+1) n.S with
   |(b3,q,k)=>if k≠0 then .fail b3 k else cm.call n.m b3 st q.bD q.func q.arg Q q.ec:=by
   unfold nq;simp only;have ai:ll n.top.bD (.mk 19 k m []) n.top.arg n.top.names n.S=Z:=rfl;rw[ai];simp only[ax,t,d,if_true];rw[if_neg (by decide)];rfl
  rw[this];refine ow.pN (q:=jr c.ms v w (n.below.length+1) n.S) r λam=>?_;exact(aeA (b3:=(jr c.ms v w (n.below.length+1) n.S).1) (q:=(jr c.ms v w (n.below.length+1) n.S).2.1) (by rw[<-am])).2
 ·obtain⟨st,v,bJ⟩:=pd (l:=n.top.stack) n4;obtain⟨a8,E,e,r⟩:=aty s a O bJ eJ pc k m;exact⟨a8,E,e,by rw[xY bJ (by decide) (by decide) (by decide) rfl];exact r.pN⟩
 ·obtain⟨E,e,eD⟩:=atz s a O eJ pc k m;refine⟨_,E,e,Hm ?_ eD⟩;show j (n.S.kept.getD n.top.bD.toNat cp)=_;rw[LA]
end
end Go.Proofs.YtaodiaofbeblbaaGreatDoor
