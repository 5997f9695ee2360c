/- compile in the plain model: the maker; the instructions of an expression. compile in the plain model: the instructions of an expression, as the maker puts them. compile in the plain model: the document's instructions. -/
import Derived.Test.YtkdbjfncchmmpaaGreatMg4
import Derived.Test.YtkdbjfncchmmpaaGreatRows
import Derived.Deep.QuietTactic
import Derived.BigQuiet
import Derived.Lib.SliceRun
import Derived.WalkLawsBesides
set_option linter.unusedSimpArgs false
set_option linter.unusedVariables false
set_option maxHeartbeats 4000000
set_option maxRecDepth 1000000
open List renaming replicate→al,getElem?_eq_getElem→fr,getElem?_eq_some_iff→fQ,length_append→ff,length_singleton→gM,length_map→fa,length_nil→gf,getD→dz,length_cons→hk,getElem_mem→iX,getElem?_append_right→mx,getElem?_cons_zero→mY,append_assoc→k',map_cons→kT,nil_append→lQ,getElem?_append_left→o4,cons_append→m3,getElem?_eq_none→o3,length_eq_zero_iff→pR,append_nil→n3,mem_cons→n0,length_take→pN,mem_map→o8,all_cons→pO,getD_cons_zero→sE,mem_of_getElem?→tc,drop_length→sw,drop_eq_getElem_cons→va,getElem?_take_of_lt→uv,getElem?_set→tQ,map_nil→s2,map_append→uR,set_cons_zero→vR,getElem?_map→vF
open Nat renaming reduceAdd→aq,reduceSub→ar,reduceLeDiff→bW,le_refl→b4,lt_of_lt_of_le→fq,le_trans→e7,zero_add→hH,lt_or_ge→ox,one_ne_zero→sd,reduceLT→tG
open Go.IntKind renaming i64→j,wrap→kK
open Option renaming some→o,none→ad,bind_eq_some_iff→dK,bind_some→c2,map_some→hF,getD_some→rf
open Go.Proofs.Tryz renaming prog→ap
open Bool renaming false→T,true→O,and_eq_true→hx,false_eq_true→l9,and_true→pZ
open Int renaming reduceEq→cC,eq_ofNat_of_zero_le→lE,natCast_zero→k6,toNat_natCast→mE
open Go renaming TypeId→a6,Oper→bh,Program→cT,Value→b1,FuncId→c',World→dy,IntKind→gx,undef→gq,Frame→gI,lone→e3,Code→fK
open Option.some renaming injEq→hZ,inj→kx
open Prod.mk renaming injEq→kh
open SizeOf renaming sizeOf→kL
open Go.Frame renaming enter→j0
open Ne renaming symm→lP
open List.cons renaming injEq→xf
open Iff renaming rfl→nF
namespace Go.Proofs.YtkdbjfncchmmpaaGreat
open Go
variable{e:a6}{es:List (List E)}{R:ag}{cs aT:List Int}{bF dS:E}{row V t:List E}{cF:ag->Prop}{f:iO}{ic jI:Nat}{hp hq:b1}{st:List av}
abbrev kq:a6:=184
abbrev aaA:a6:=174
abbrev gn(x:df):List E:=[.int j x.op,.int j x.k,.int j x.n]
def aaB(v:E)(l:List df)(h:ag):Prop:=(l=[]/\v= .aA)\/∃q,l≠[]/\q<h.n/\v= .bn q 0 l.length kq/\h.cell q=o (l.map gn)
structure qY(b:Nat)(l:List df)(h:ag):Prop where
 lt:b<h.n
 s:∃v,h.cell b=o [[v]]/\aaB v l h
structure ol(b:Nat)(h F:ag):Prop where
 n:h.n<=F.n
 ids:h.ids<=F.ids
 hw:∀k,k<h.ids->F.hw k=h.hw k
 fe:∀k,k<h.n->k≠b->(∀m,h.cell b≠o [[.bn k 0 m kq]])->F.cell k=h.cell k
 cur:∀k,k<h.n->∀m,F.cell b=o [[.bn k 0 m kq]]->∃a9,h.cell b=o [[.bn k 0 a9 kq]]
theorem ol.trans{b:Nat}{h F gF:ag}(x:ol b h F)(y:ol b F gF):ol b h gF:=by
 refine⟨e7 x.n y.n,e7 x.ids y.ids,λk Z=>(y.hw k (fq Z x.ids)).trans (x.hw k Z),λk Z ab an=>?_,λk Z m e=>?_⟩
 ·refine(y.fe k (fq Z x.n) ab λm e=>?_).trans (x.fe k Z ab an);obtain⟨a9,dG⟩:=x.cur k Z m e;exact an a9 dG
 ·obtain⟨a9,dG⟩:=y.cur k (fq Z x.n) m e;exact x.cur k Z a9 dG
theorem ol.push{b:Nat}{h:ag}(ab:b<h.n)(es:List (List E)):ol b h (h.push es):=⟨by simp[ag.push],by simp[ag.push],λ_ _=>rfl,λk Z _ _=>ir Z,λk Z m e=>⟨m,(ir ab).symm.trans e⟩⟩
theorem qY.push{b:Nat}{l:List df}{h:ag}(m:qY b l h)(es:List (List E)):qY b l (h.push es):=by
 obtain⟨ab,v,U,aC⟩:=m;refine⟨by simp only[ey];omega,v,(ir ab).trans U,?_⟩;rcases aC with aC|⟨q,J,R,ah,aD⟩
 ·exact .inl aC
 ·exact .inr ⟨q,J,by simp only[ey];omega,ah,(ir R).trans aD⟩
structure Own(b c:Nat)(r:List (List E))(h:ag):Prop where
 lt:c<h.n
 ne:c≠b
 F7:∀m,h.cell b≠o [[.bn c 0 m kq]]
 c:h.cell c=o r
theorem Own.on{b c:Nat}{r:List (List E)}{h F:ag}(I:Own b c r h)(x:ol b h F):Own b c r F:=⟨fq I.lt x.n,I.ne,λm e=>(x.cur c I.lt m e).elim λa9 dG=>I.F7 a9 dG,(x.fe c I.lt I.ne I.F7).trans I.c⟩
theorem Own.new{b:Nat}{l:List df}{h:ag}(m:qY b l h)(r:List (List E)):Own b h.n r (h.push r):=by
 obtain⟨ab,v,U,aC⟩:=m;refine⟨by simp[ag.push],by omega,λD e=>?_,iG⟩;rw[ir ab,U]at e;rcases aC with⟨_,rfl⟩|⟨q,J,R,rfl,aD⟩
 ·simp at e
 ·simp only[hZ,xf,E.bn.injEq,and_true]at e;omega
section
variable{h:ag}
theorem aoY{b:Nat}{l:List df}{v:E}(ab:b<h.n)(U:h.cell b=o [[v]])(aC:aaB v l h)(am:l.length<=1000000)(x:df):∃F,eU O kq v (.bn h.n 0 1 kq) (h.push [gn x])=o (.bn (h.n+1) 0 (l.length+1) kq,F)/\F.cell b=o [[v]]/\qY b (l++[x]) (F.set b (o [[.bn (h.n+1) 0 (l.length+1) kq]]))/\ol b h (F.set b (o [[.bn (h.n+1) 0 (l.length+1) kq]])):=by
 rcases aC with⟨rfl,rfl⟩|⟨q,J,R,rfl,aD⟩
 ·have aP:((h.push [gn x]).push [gn x]).cell b=o [[.aA]]:=(ir (by simp only[ey];omega)).trans ((ir ab).trans U);refine⟨(h.push [gn x]).push [gn x],?_,aP,⟨by simp only[ny,ey];omega,_,k1,.inr ⟨h.n+1,by simp,by simp only[ny,ey];omega,rfl,?_⟩⟩,?_⟩
  ·simp[eU,iT,jX,iG,ey,E.one]
  ·rw[eu (by omega)];exact yG
  ·refine⟨by simp only[ny,ey];omega,b4 _,λ_ _=>rfl,λk Z aE _=>(eu aE).trans ((ir (by simp only[ey];omega)).trans (ir Z)),λk Z m e=>?_⟩;rw[k1]at e;simp at e;omega
 ·have BQ:q≠b:=by
   intro e;rw[e,U]at aD;cases l with
   |nil=>exact J rfl
   |cons y l=>simp at aD
  have hlen:(l.map gn).length=l.length:=by simp
  have cp:((h.push [gn x]).cell q)=o (l.map gn):=(ir R).trans aD;refine⟨((h.push [gn x]).set q ad).push (l.map gn++[gn x]),?_,?_,⟨by simp only[ny,ey];omega,_,k1,.inr ⟨h.n+1,by simp,by simp only[ny,ey];omega,by simp,?_⟩⟩,?_⟩
  ·simp only[eU,iT,if_true,iG,c2,gM,hH,b4,List.drop_zero,List.take_succ_cons,List.take_zero,sd,if_false,jX];rw[if_pos ⟨by omega,by omega,by simp[E.one]⟩,if_pos ⟨trivial,trivial,am⟩,cp];have a3:List.take l.length (l.map gn)=l.map gn:=by rw[<-hlen,List.take_length]
   simp[ey,a3]
  ·rw[ir (by simp only[ny,ey];omega),eu (lP BQ),ir ab];exact U
  ·rw[eu (by omega)];have:=iG (h:=(h.push [gn x]).set q ad) (es:=l.map gn++[gn x]);simpa[ny,ey]using this
  ·refine⟨by simp only[ny,ey];omega,b4 _,λ_ _=>rfl,λk Z aE an=>?_,λk Z m e=>?_⟩
   ·have:k≠q:=by rintro rfl;exact an l.length U
    rw[eu aE,ir (by simp only[ny,ey];omega),eu this,ir Z]
   ·rw[k1]at e;simp at e;omega
theorem AV{b:Nat}{l:List df}(m:qY b l h)(am:l.length<=1000000)(op k n:Int):∃F,aQ ap W 80 [.ptr b 0 0,.int j op,.int j k,.int j n] h=o (.inl (.int j l.length),F)/\qY b (l++[⟨op,k,n⟩]) F/\ol b h F:=by
 obtain⟨ab,v,U,aC⟩:=m;obtain⟨F,au,aP,cL,t1⟩:=aoY ab U aC am ⟨op,k,n⟩;refine⟨_,?_,cL,t1⟩;have hw:=eL (n:=((l.length+1:Nat):Int) - 1) (by omega) (by omega);have ax:((l.length+1:Nat):Int) - 1=(l.length:Int):=by omega
 rw[ax]at hw;refine a2 anS rfl ?_;unfold ZM;simp only[ak,aq,ar,al,bW,U,au,aP,ax,hw]
theorem aaC{b:Nat}{A B:List df}{x:df}(m:qY b (A++x::B) h)(am:(A++x::B).length<=1000000):∃F,aQ ap W 107 [.ptr b 0 0,.int j A.length] h=o (.inl (.bU []),F)/\qY b (A++⟨x.op,((A++x::B).length:Nat),x.n⟩::B) F/\ol b h F:=by
 obtain⟨ab,v,U,aC⟩:=m;rcases aC with⟨e,rfl⟩|⟨q,J,R,rfl,aD⟩
 ·simp at e
 ·have BQ:q≠b:=by intro e;rw[e,U]at aD;cases A<;>simp at aD
  have eV:dO (o kq) ad (.bn q 0 (A++x::B).length kq) (.int j (A.length:Int))=o (.ptr q A.length 0):=by rw[vO rfl (by simp),hH]
  have a8:((A++x::B).map gn)[A.length]? =o (gn x):=by simp
  have F8:((A++x::B).map gn).set A.length [.int j x.op,.int j ((A++x::B).length:Int),.int j x.n]=(A++⟨x.op,((A++x::B).length:Nat),x.n⟩::B).map gn:=by simp
  refine⟨h.set q (o ((A++⟨x.op,((A++x::B).length:Nat),x.n⟩::B).map gn)),?_,⟨ab,_,(eu (lP BQ)).trans U,.inr ⟨q,by simp,R,by simp,k1⟩⟩,?_⟩
  ·refine a2 anT rfl ?_;unfold ZO;simp only[ak,aq,ar,al,bW,U,eV,aD,a8,F8]
  ·refine⟨b4 _,b4 _,λ_ _=>rfl,λk Z aE an=>eu (by rintro rfl;exact an _ U),λk Z m e=>?_⟩;rw[eu (lP BQ)]at e;exact⟨m,e⟩
end
theorem aaD(f:Nat->List df):∀(dD:List (Nat->List df)) (p:Nat),lf (dD++[f]) p=lf dD p++f (p+(lf dD p).length)
 |[],p=>by simp[lf]
 |g::dD,p=>by simp only[m3,lf,aaD f dD,ff,k'];rw[show p+(g p).length+(lf dD (p+(g p).length)).length=p+((g p).length+(lf dD (p+(g p).length)).length) by omega]
theorem aoZ{l:List bx}:∀{i:Nat} {y:bx},l[i]? =o y->fw (l.take i)+y.size<=fw l:=by
 induction l with
 |nil=>intro i y h;simp at h
 |cons x l aZ=>
   intro i y h;cases i with
   |zero=>
     obtain rfl:x=y:=by simpa using h
     simp[fw]
   |succ i=>have:=aZ (i:=i) (y:=y) (by simpa using h);simp only[List.take_succ_cons,fw];omega
theorem aaE(l:List bx)(p:Nat):(lf (l.map cI) p).length<=3*fw l:=NM l p λy _ p=>xk _ y (b4 _) p
section
variable{h:ag}
theorem ao0(cj:Int):∀(N:Nat) (x:bx),kL x<=N->∀(I:Int),x.fault cj I=0->∀(r:List E) (h:ag) (b:Nat) (l:List df),gR x r->qY b l h->l.length+3*x.size<=100000->∃F,aQ ap W 79 [.ptr b 0 0,.agg r] h=o (.inl (.bU []),F)/\(qY b (l++cI x l.length) F/\ol b h F):=by
 intro N;induction N with
 |zero=>intro x aw;have:=x.mf;omega
 |succ N aZ=>
   intro x aw I bl r h b l he m am;obtain⟨v,es,rfl,ei,U,aE,eV⟩:=he.facts;obtain⟨f1,f2,f3,f4,f5⟩:=Im bl;have aC:=x.size_eq;obtain⟨R,ax,c3,t2⟩:=AV (m.push [[.int j x.op,.int j x.k,.int j x.n,v]]) (by omega) 100 0 0;have bq:=(Own.new m [[.int j x.op,.int j x.k,.int j x.n,v]]).on t2;have t2:=(ol.push m.lt [[.int j x.op,.int j x.k,.int j x.n,v]]).trans t2;have CU:∀y∈x.l,∀(I:Int),y.fault cj I=0->∀(r:List E) (h:ag) (l:List df),gR y r->qY b l h->l.length+3*y.size<=100000->∃F,aQ ap W 79 [.ptr b 0 0,.agg r] h=o (.inl (.bU []),F)/\(qY b (l++cI y l.length) F/\ol b h F):=λy bE I bl r h l=>aZ y (by have:=bx.mF bE;omega) I bl r h b l;rw[Cf];have e':∀(i:Nat) (y:bx),x.l[i]? =o y->y∈x.l:=λi y bE=>tc bE;by_cases bo:x.op=5
   ·rw[bo]at f2 f5 ax bq;have vD:x.l.length=2:=by simp[fM]at f2;omega
    obtain⟨a,c,ia⟩:=amq vD;rw[ia]at f5 aC;obtain⟨da,ch⟩:=Ab f5;obtain⟨eF,_⟩:=Ab ch;simp only[Nat.zero_ne_one,and_false,if_false,and_self,if_true,hH]at da eF;simp only[fw]at aC;obtain⟨bM,i1,d1,b3⟩:=eV 0 a (by rw[ia];rfl);obtain⟨bL,gt,d2,dH⟩:=eV 1 c (by rw[ia];rfl);have i1:dO (o fp) ad v (.int j 0)=o (.ip bM 0):=i1;have gt:dO (o fp) ad v (.int j 1)=o (.ip bL 0):=gt;obtain⟨ah,bc,hY,t3⟩:=CU a (by rw[ia];simp) I (by simpa using da) bM R _ b3 c3 (by simp only[ff,gM];omega);have fm:=xk _ a (b4 _) (l++[(⟨100,0,0⟩:df)]).length;have dW:=bq.on t3;obtain⟨aD,bY,dP,t4⟩:=AV hY (by simp only[ff,gM]at fm ⊢;omega) 101 0 0;have e4:=dW.on t4;obtain⟨aay,cU,rK,t5⟩:=CU c (by rw[ia];simp) (I+1) eF bL aD _ dH dP (by simp only[ff,gM]at fm ⊢;omega);have lp:=xk _ c (b4 _) (l++[(⟨100,0,0⟩:df)]++cI a (l++[(⟨100,0,0⟩:df)]).length++[(⟨101,0,0⟩:df)]).length;obtain⟨b9,lB,xK,t6⟩:=AV rK (by simp only[ff,gM]at fm lp ⊢;omega) 102 0 0;refine OV Qq rfl λQ cy=>?_;unfold Ks;simp only[ak,aq,ar,al,U,ax,bq.c,bo,cC,i1,d1,bc,bY,e4.c,gt,d2,cU,lB];refine cy _ _ rfl ⟨?_,(((t2.trans t3).trans t4).trans t5).trans t6⟩;have au:(l++[(⟨100,0,0⟩:df)]).length=l.length+1:=by simp
    rw[au]at xK;have bY:(l++[(⟨100,0,0⟩:df)]++cI a (l.length+1)++[(⟨101,0,0⟩:df)]).length=l.length+1+(cI a (l.length+1)).length+1:=by simp;omega
    rw[bY]at xK;rw[ia,bo];simpa only[uI,NK,if_true,kT,s2,k',m3,lQ]using xK
   ·have ns:=jp bo f5;by_cases c4:x.op=7
    ·rw[c4]at f2 ax bq;have vD:x.l.length=3:=by simp[fM]at f2;omega
     obtain⟨a,c,d,ia⟩:=amr vD;rw[ia]at aC ns;simp only[fw]at aC;obtain⟨bM,i1,d1,b3⟩:=eV 0 a (by rw[ia];rfl);obtain⟨bL,gt,d2,dH⟩:=eV 1 c (by rw[ia];rfl);obtain⟨de,iu,d3,f'⟩:=eV 2 d (by rw[ia];rfl);have i1:dO (o fp) ad v (.int j 0)=o (.ip bM 0):=i1;have gt:dO (o fp) ad v (.int j 1)=o (.ip bL 0):=gt;have iu:dO (o fp) ad v (.int j 2)=o (.ip de 0):=iu;obtain⟨ah,bc,hY,t3⟩:=CU a (by rw[ia];simp) I (ns a (by simp)) bM R _ b3 c3 (by simp only[ff,gM];omega);have fm:=xk _ a (b4 _) (l++[(⟨100,0,0⟩:df)]).length;generalize fg:l++[(⟨100,0,0⟩:df)]++cI a (l++[(⟨100,0,0⟩:df)]).length=A at hY;have zg:A.length<=l.length+1+3*a.size:=by rw[<-fg];simp only[ff,gM]at fm ⊢;omega
     have dW:=bq.on t3;obtain⟨aD,bY,dP,t4⟩:=AV hY (by omega) 103 0 0;have e4:=dW.on t4;obtain⟨aay,cU,rK,t5⟩:=CU c (by rw[ia];simp) I (ns c (by simp)) bL aD _ dH dP (by simp only[ff,gM];omega);have lp:=xk _ c (b4 _) (A++[(⟨103,0,0⟩:df)]).length;generalize q':cI c (A++[(⟨103,0,0⟩:df)]).length=B at rK lp;have g':=e4.on t5;obtain⟨b9,lB,xK,t6⟩:=AV rK (by simp only[ff,gM];omega) 104 0 0;have qD:=g'.on t6;obtain⟨QL,km,AW,t7⟩:=aaC (A:=A) (x:=(⟨103,0,0⟩:df)) (B:=B++[(⟨104,0,0⟩:df)]) (by simpa using xK) (by simp only[ff,hk,gf];omega);have nt:=qD.on t7;obtain⟨hh,om,QM,t8⟩:=CU d (by rw[ia];simp) I (ns d (by simp)) de QL _ f' AW (by simp only[ff,hk,gf];omega);obtain⟨ru,oo,F9,t9⟩:=aaC (A:=A++⟨103,((A++(⟨103,0,0⟩:df)::(B++[(⟨104,0,0⟩:df)])).length:Nat),0⟩::B) (x:=(⟨104,0,0⟩:df)) (B:=cI d (A++⟨103,((A++(⟨103,0,0⟩:df)::(B++[(⟨104,0,0⟩:df)])).length:Nat),0⟩::(B++[(⟨104,0,0⟩:df)])).length) (by simpa using QM) (by have:=xk _ d (b4 _) (A++⟨103,((A++(⟨103,0,0⟩:df)::(B++[(⟨104,0,0⟩:df)])).length:Nat),0⟩::(B++[(⟨104,0,0⟩:df)])).length;simp only[ff,hk,gf]at this ⊢;omega);have vg:((A++⟨103,((A++(⟨103,0,0⟩:df)::(B++[(⟨104,0,0⟩:df)])).length:Nat),0⟩::B).length:Int)=((A++[(⟨103,0,0⟩:df)]++B).length:Int):=by simp
     rw[vg]at oo;refine OV Qq rfl λQ cy=>?_;unfold Ks;simp only[ak,aq,ar,al,U,ax,bq.c,c4,cC,i1,d1,bc,bY,e4.c,gt,d2,cU,lB,km,nt.c,iu,d3,om,oo];refine cy _ _ rfl ⟨?_,(((((((t2.trans t3).trans t4).trans t5).trans t6).trans t7).trans t8).trans t9)⟩;rw[ia];have QN:A.length=l.length+1+(cI a (l.length+1)).length:=by rw[<-fg];simp;omega
     have KS:cI c (l.length+1+(cI a (l.length+1)).length+1)=B:=by rw[<-q'];congr 1;simp only[ff,gM,QN]
     have pz:p1 (cI a) (cI c) l.length=A.length+1+B.length+1:=by unfold p1;rw[KS,QN]
     have zh:∀X:List df,A++X=l++(⟨100,0,0⟩:df)::(cI a (l.length+1)++X):=λX=>by rw[<-fg];simp
     have ao1:(A++(⟨103,0,0⟩:df)::(B++[(⟨104,0,0⟩:df)])).length=A.length+1+B.length+1:=by simp;omega
     rw[c4];simp only[uI,show ¬((7:Int)=5) by decide,if_false,if_true,kT,s2,NL,pz,KS];rw[ao1]at F9;have ao2:(A++⟨103,((A.length+1+B.length+1:Nat):Int),0⟩::(B++[(⟨104,0,0⟩:df)])).length=A.length+1+B.length+1:=by simp;omega
     rw[ao2]at F9;have kf:l++(⟨100,0,0⟩:df)::(cI a (l.length+1)++⟨103,((A.length+1+B.length+1:Nat):Int),0⟩::(B++⟨104,((A.length+1+B.length+1+(cI d (A.length+1+B.length+1)).length:Nat):Int),0⟩::cI d (A.length+1+B.length+1)))=A++⟨103,((A.length+1+B.length+1:Nat):Int),0⟩::B++⟨104,((A++⟨103,((A.length+1+B.length+1:Nat):Int),0⟩::B++(⟨104,0,0⟩:df)::cI d (A.length+1+B.length+1)).length:Nat),0⟩::cI d (A.length+1+B.length+1):=by
      rw[k',m3,zh];have:A.length+1+B.length+1+(cI d (A.length+1+B.length+1)).length=(A++⟨103,((A.length+1+B.length+1:Nat):Int),0⟩::B++(⟨104,0,0⟩:df)::cI d (A.length+1+B.length+1)).length:=by simp;omega
      rw[this]
     rw[kf];exact F9
    ·have c5:x.l.length<=100000:=by have:=x.p0;omega
     refine OV Qq rfl λQ cy=>?_;unfold Ks;simp only[ak,aq,ar,al,U,ax,bq.c,bo,c4,ei.len,ei.fits];refine oe (λi V F=>∃b7 fz,V=[.ptr b 0 0,.agg [.int j x.op,.int j x.k,.int j x.n,v],.ptr h.n 0 0,.az,.az,b7,.int j x.op,v,.int j es.length,.int j (i:Nat),fz,.bool T,.bool T]/\qY b (l++(⟨100,0,0⟩:df)::lf ((x.l.take i).map cI) (l.length+1)) F/\ol b h F/\Own b h.n [[.int j x.op,.int j x.k,.int j x.n,v]] F) x.l.length ⟨_,_,rfl,by simpa[lf]using c3,t2,bq⟩ ?_ ?_
     ·rintro i V F af ⟨b7,fz,rfl,hY,t3,dW⟩ next
      obtain⟨y,bE⟩:∃y,x.l[i]? =o y:=⟨_,fr af⟩;obtain⟨q,i1,d1,b3⟩:=eV i y bE;have bf:(i:Int)<(es.length:Int):=by rw[aE];omega
      have hw:=eL (n:=(i:Int)+1) (by omega) (by omega);have eJ:=aoZ bE;have QO:=aaE (x.l.take i) (l.length+1);obtain⟨aP,bu⟩:=b3.one;obtain⟨aD,bY,dP,t4⟩:=CU y (e' i y bE) I (by have:=ns y (e' i y bE);simpa using this) q (F.push [q]) _ b3 (hY.push [q]) (by simp only[ff,hk];omega);have e4:=(dW.on (ol.push hY.lt [q])).on t4;rw[cV Ql.eq_1];simp only[ak,aq,ar,al,reduceCtorEq,cb,bf,i1,d1,aP,bu,bY,hw];refine next _ _ ⟨_,_,rfl,?_,(t3.trans (ol.push hY.lt [q])).trans t4,e4⟩
      rw[Aq bE,uR,kT,s2,aaD];have e:l.length+1+(lf ((x.l.take i).map cI) (l.length+1)).length=(l++(⟨100,0,0⟩:df)::lf ((x.l.take i).map cI) (l.length+1)).length:=by simp;omega
      rw[e];simpa using dP
     ·rintro V F ⟨b7,fz,rfl,hY,t3,dW⟩;have bf:¬((x.l.length:Int)<(es.length:Int)):=by rw[aE];omega
      rw[List.take_length]at hY;have QO:=aaE x.l (l.length+1);obtain⟨aD,bY,dP,t4⟩:=AV hY (by simp only[ff,hk];omega) x.op x.k x.n;rw[cV Ql.eq_1];simp only[ak,aq,ar,al,reduceCtorEq,cb,bf,dW.c,bY];refine cy _ _ rfl ⟨?_,t3.trans t4⟩;simpa[uI,bo,c4]using dP
end
theorem ao3(l:List df):∀r∈l.map gn,r.all uG=O:=by intro r ao;obtain⟨x,_,rfl⟩:=o8.1 ao;rfl
section
variable{h:ag}
end
def kO(x:bx):List df:=cI x 0++[⟨105,0,0⟩]
structure ao4(aj h:ag)(v:E)(rows:List (List E))(L:List bx):Prop where
 acc:Acc aj h aaA v rows
 g:aB aj h
 len:rows.length=L.length
 bV:∀(i:Nat) (x:bx),L[i]? =o x->∃q,rows[i]? =o [.bn q 0 (kO x).length kq]/\aj.n<=q/\q<h.n/\h.cell q=o ((kO x).map gn)/\∀D ek m,D<i->rows[D]? =o [.bn ek 0 m kq]->ek≠q
theorem ol.hb{b:Nat}{aj h F:ag}(g:aB aj h)(ab:aj.n<=b)(an:∀k,k<aj.n->∀m,h.cell b≠o [[.bn k 0 m kq]])(x:ol b h F):aB aj F:=⟨e7 g.n x.n,e7 g.ids x.ids,λk Z=>(x.fe k (fq Z g.n) (by omega) (an k Z)).trans (g.cell k Z),λk Z=>(x.hw k (fq Z g.ids)).trans (g.hw k Z)⟩
theorem Acc.on{aj h F:ag}{v:E}{acc:List (List E)}(a:Acc aj h e v acc)(J:h.ids<=F.ids)(R:∀k,k<h.ids->F.hw k=h.hw k):Acc aj F e v acc:=by
 rcases a with a|⟨id,ja,aR,a5,bp,cA⟩
 ·exact .inl a
 ·exact .inr ⟨id,ja,aR,fq a5 J,(R id a5).trans bp,cA⟩
theorem aaF{cj:Int}:∀{L:List bx} {i:Nat},(rp cj i L).1=0->rp cj i L=(0,0)/\∀x∈L,n6 cj x=0
 |[],i,_=>⟨rfl,by simp⟩
 |x::L,i,h=>by
   rw[QK]at h ⊢;by_cases bl:n6 cj x=0
   ·rw[if_neg (by simp[bl])]at h ⊢;obtain⟨a,b⟩:=aaF h;refine⟨a,λy bE=>?_⟩;rcases n0.1 bE with e|bE
    ·rw[e];exact bl
    ·exact b y bE
   ·rw[if_pos bl]at h;exact absurd h bl
theorem QP{L:List bx}(h:(e1 L).1=0):e1 L=(0,0)/\L.length<=6/\∀x∈L,x.fault L.length 0=0/\x.size<=120:=by
 unfold e1 at h ⊢;split at h
 ·cases h
 ·rename_i am;rw[if_neg am];obtain⟨a,b⟩:=aaF h;refine⟨a,by omega,λx aw=>?_⟩;have:=b x aw;unfold n6 at this;split at this
  ·cases this
  ·split at this
   ·cases this
   ·exact⟨this,by omega⟩
theorem ao5{L:List bx}(h:(e1 L).1=0):L≠[]:=by rintro rfl;simp[e1]at h
section
variable{P:cT}
theorem AC.ao6{g:c'}{args:List E}{id:Option Nat}{gk:List (List E)}{cn:E}{h F:ag}{N:Nat}(ia:AC P g args h (.inl (.bU [.b0 id e es,cn]),F))(bl:u5 N F es=o (gk,R)):AC P g args h (.inl (.bU [.b0 ad e gk,cn]),R):=by
 intro m w bA hw fl;refine(ia m w bA hw fl).mono λdV ba ⟨a9,b3,dH,f',u,he,bQ⟩=>?_;simp only at b3 dH bQ;cases bQ with
 |bU _ b2 bM bL=>
   obtain⟨jr,jR,rfl⟩:∃jr jR,b2=[jr,jR]:=by
    match b2,bM with
    |[a,b],_=>exact⟨a,b,rfl⟩
   have dL:=bL 0 (by simp) (by simp);have aaG:=bL 1 (by simp) (by simp);simp only[List.getElem_cons_zero,List.getElem_cons_succ]at dL aaG;have key:∃c3,Ext a9 F c3 R/\cc P c3 R ba/\bX P c3 R (.b0 ad e gk) jr:=by
    cases dL with
    |b0 _ _ _ g I cap ae am af U an a3=>
      obtain⟨c3,fs,jy,kI,nu,mc⟩:=(YD N).2.2 a9 F ba es ae gk R dH U bl;refine⟨c3,fs,jy,?_⟩;have lo:∀i (af:i<gk.length),gk[i].length=P.cellsOf e:=λi af=>by rw[nu i af (by omega)];exact am _ (iX _)
      have key:=bX.b0 (P:=P) (m:=c3) (h:=R) ad e gk g I cap ae (λr ao=>by obtain⟨i,af,rfl⟩:=List.getElem_of_mem ao;exact lo i af) (λi eR D aa=>fs.eo _ _ _ (af i (by omega) D aa)) mc (by omega) (λk Z=>by cases Z);rwa [kI]at key
    |nS _ a cap=>obtain⟨c3,fs,jy,kI,nu,mc⟩:=(YD N).2.2 a9 F ba [] (λ_ _=>gq) gk R dH (λi af=>by simp at af) bl;have:gk=[]:=pR.1 (by simpa using kI);subst this;exact⟨c3,fs,jy,.nS e a cap⟩
   obtain⟨c3,fs,jy,kI⟩:=key;refine⟨c3,b3.trans fs,jy,f',_,he,?_⟩;exact .bU _ _ rfl λD aa dv=>by
    match D,aa with
    |0,_=>exact kI
    |1,_=>exact aaG.ext fs
end
theorem ao7:YC ap W 40 1 13 [0,1,2,3,4,5,7,8,13,16,17,18,19] Kt [(.v 2),(.cell O 2 3)]:=⟨_,_,Tryz.func40,rfl,by kernel_rfl,by kernel_rfl,by kernel_rfl,by kernel_rfl⟩
theorem ao8:∀(N:Nat),(∀(x y:bx) (r:List E),kL x<=N->gR x r->gR y r->x=y)/\(∀(l b2:List bx) (es:List (List E)),kL l<=N->gE l es->gE b2 es->l=b2):=by
 intro N;induction N with
 |zero=>exact⟨λx _ _ aw=>by have:=x.mf;omega,λl _ _ am=>by cases l<;>simp at am⟩
 |succ N aZ=>
   refine⟨λx y r aw J R=>?_,λl b2 es am J R=>?_⟩
   ·cases x with
    |mk op k n l=>
      cases y with
      |mk axq dQ b' b2=>
        obtain⟨v,es,au,bg,bM⟩:=J;obtain⟨bs,gk,ax,aV,bL⟩:=R;rw[au]at ax;simp only[xf,E.int.injEq,true_and,and_true]at ax;obtain⟨rfl,rfl,rfl,rfl⟩:=ax;have:es=gk:=by
         rcases bg with⟨rfl,rfl⟩|⟨i,rfl⟩<;>rcases aV with⟨rfl,e⟩|⟨D,e⟩
         ·rfl
         ·cases e
         ·cases e
         ·injection e
        subst this;simp only[bx.mk.sizeOf_spec]at aw;rw[aZ.2 l b2 es (by omega) bM bL]
   ·cases l with
    |nil=>
      simp only[gE]at J;subst J;cases b2 with
      |nil=>rfl
      |cons y b2=>obtain⟨_,_,e,_⟩:=R;cases e
    |cons x l=>
      obtain⟨r,rs,rfl,aR,a5⟩:=J;cases b2 with
      |nil=>simp only[gE]at R;cases R
      |cons y b2=>obtain⟨bj,sb,e,cg,dw⟩:=R;injection e with au ax;subst au;subst ax;simp only[List.cons.sizeOf_spec]at am;rw[aZ.1 x y r (by omega) aR cg,aZ.2 l b2 rs (by omega) a5 dw]
section
variable{h:ag}
theorem aaH:∀(rows:List (List E)) (L:List bx) (h:ag) (N:Nat),rows.length=L.length->5*L.length+3000<=N->(∀(i:Nat) (x:bx),L[i]? =o x->∃q,rows[i]? =o [.bn q 0 (kO x).length kq]/\h.cell q=o ((kO x).map gn)/\(kO x).length<=1000/\∀D ek m,D<i->rows[D]? =o [.bn ek 0 m kq]->ek≠q)->∃R,u5 N h rows=o (L.map λx=>[.b0 ad kq ((kO x).map gn)],R)/\R.n=h.n/\R.ids=h.ids/\R.hw=h.hw/\∀k,(∀(i m:Nat),rows[i]?≠o [E.bn k 0 m kq])->R.cell k=h.cell k
 |[],L,h,N,am,eK,_=>by have:L=[]:=pR.1 (by simpa using am.symm);subst this;obtain⟨N,rfl⟩:∃AX,N=AX+1:=⟨N - 1,by omega⟩;exact⟨h,rfl,rfl,rfl,rfl,λ_ _=>rfl⟩
 |r::rows,[],h,N,am,eK,_=>by simp at am
 |r::rows,x::L,h,N,am,eK,aw=>by
   obtain⟨N,rfl⟩:∃AX,N=AX+3:=⟨N - 3,by omega⟩;obtain⟨q,dV,cp,ib,_⟩:=aw 0 x rfl;simp only[mY,hZ]at dV;subst dV;have ne:(kO x).length≠0:=by simp[kO]
   have flat:∀(l:List df) (M:Nat) (g:ag),5+l.length<=M->u5 M g (l.map gn)=o (l.map gn,g):=by
    intro l;induction l with
    |nil=>intro M g j9;obtain⟨M,rfl⟩:∃AX,M=AX+1:=⟨M - 1,by omega⟩;rfl
    |cons y l aZ=>intro M g j9;simp only[hk]at j9;obtain⟨M,rfl⟩:∃AX,M=AX+5:=⟨M - 5,by omega⟩;have:=aZ (M+4) g (by omega);simp only[kT,u5,u6,v',c2,hF,this]
   have KT:((kO x).map gn).take (kO x).length=(kO x).map gn:=List.take_of_length_le (by simp);have fg:v' (N+1) h (.bn q 0 (kO x).length kq)=o (.b0 ad kq ((kO x).map gn),h.set q ad):=by simp only[v',if_true,cp,c2,fa];rw[if_pos ⟨b4 _,ne⟩,KT,flat (kO x) N _ (by simp only[hk]at eK;omega)];rfl
   obtain⟨R,f1,f2,f3,f4,f5⟩:=aaH rows L (h.set q ad) (N+2) (by simpa using am) (by simp only[hk]at eK;omega) λi y bE=>by obtain⟨bL,ax,bu,cX,d2⟩:=aw (i+1) y (by simpa using bE);refine⟨bL,by simpa using ax,?_,cX,λD ek m aa aW=>d2 (D+1) ek m (by omega) (by simpa using aW)⟩;rw[eu (lP (d2 0 q _ (by omega) rfl))];exact bu
   refine⟨R,?_,f2,f3,f4,λk Z=>?_⟩
   ·have ao9:u6 (N+2) h [.bn q 0 (kO x).length kq]=o ([.b0 ad kq ((kO x).map gn)],h.set q ad):=by simp only[u6,fg,c2,hF]
    simp only[u5,ao9,c2,f1,hF,kT]
   ·rw[f5 k λi m hm=>Z (i+1) m (by simpa using hm),eu λe=>Z 0 (kO x).length (by rw[e];rfl)]
def AY(h:ag)(L:List bx)(gD:E)(F:ag):Prop:=if(e1 L).1=0 then ∃rows,(∃id,gD= .b0 id aaA rows)/\rows.length=L.length/\∀(i:Nat) (x:bx),L[i]? =o x->∃q,rows[i]? =o [.bn q 0 (kO x).length kq]/\h.n<=q/\F.cell q=o ((kO x).map gn)/\∀(D ek m:Nat),D<i->rows[D]? =o [.bn ek 0 m kq]->ek≠q else gD= .aA
theorem ao'(v:E)(L:List bx)(m:∀h,iP h v L)(c5:L.length<=100000)(aC:∀x∈L,x.size<=100000):∃ga F gD,bB (aQ ap W) 13 [.bP Kt] ([.agg [v]]++al ([0,1,2,3,4,5,7,8,13,16,17,18,19].length - [E.agg [v]].length) .az) [] h=o (.ret,ga,F)/\(iF ga F [(.v 2),(.cell O 2 3)]).map iV=o (.bU [gD,.agg [.int j (e1 L).1,.int j (e1 L).2]])/\aB h F/\AY h L gD F:=by
 suffices key:∀Q:ls->Prop,(∀ga F gD,(iF ga F [(.v 2),(.cell O 2 3)]).map iV=o (.bU [gD,.agg [.int j (e1 L).1,.int j (e1 L).2]])->aB h F->AY h L gD F->Q (o (.ret,ga,F)))->Q (bB (aQ ap W) 13 [.bP Kt] ([.agg [v]]++al ([0,1,2,3,4,5,7,8,13,16,17,18,19].length - [E.agg [v]].length) .az) [] h) from key (λx=>∃ga F gD,x=o (.ret,ga,F)/\(iF ga F [(.v 2),(.cell O 2 3)]).map iV=o (.bU [gD,.agg [.int j (e1 L).1,.int j (e1 L).2]])/\aB h F/\AY h L gD F) λga F gD a b c=>⟨ga,F,gD,rfl,a,b,c⟩;intro Q cy;have bt:=(m h).one;have cK:=(m h).len;have f1:=(m h).fits;have bZ:=λh=>aoW (h:=h) v L (m h) c5 aC;unfold Kt;by_cases aj:(e1 L).1=0
 ·obtain⟨e,apa,aw⟩:=QP aj;have di:=ao5 aj;rw[e]at bZ cy;unfold AY at cy;rw[e]at cy;simp only[if_true]at cy;simp only[ak,aq,ar,al,bt,cK,f1,bZ,eq_self];refine oe (λi V F=>∃b7 dd eB hS rows,V=[.agg [v],.ptr h.n 0 0,.aA,.ptr (h.n+1) 0 0,.ptr (h.n+1+1) 0 0,b7,dd,eB,.bool T,v,.int j L.length,.int j (i:Nat),hS]/\ao4 h F b7 rows (L.take i)/\h.n+1<F.n/\F.cell (h.n+1)=o [[.int j 0,.int j 0]]) L.length ⟨_,_,_,_,[],rfl,⟨uF _ _ _,(by repeat (first|exact aB.refl _|refine aB.trans ?_ (aB.push _ _)|refine aB.trans ?_ (aB.fresh _ _))),by simp,λi x aw=>by simp at aw⟩,by simp only[ey];omega,?_⟩ ?_ ?_
  ·simp only[ak,ir,al8]
  ·rintro i V F af ⟨b7,dd,eB,hS,rows,rfl,nJ,aE,aP⟩ next
   obtain⟨y,bE⟩:∃y,L[i]? =o y:=⟨_,fr af⟩;have QQ:y∈L:=tc bE;obtain⟨zi,ZH⟩:=aw y QQ;obtain⟨a,q,i1,gt,iu⟩:=(m F).bV i y bE;have jG:=gt _ (aB.refl F);obtain⟨dA,ft⟩:=iu.one;have bf:(i:Int)<(L.length:Int):=by omega
   have hw:=eL (n:=(i:Int)+1) (by omega) (by omega);have mH:qY (F.n+1) [] ((F.push [q]).push [[.aA]]):=⟨by simp[ag.push],.aA,yG,.inl ⟨rfl,rfl⟩⟩;have F7:∀k m,((F.push [q]).push [[.aA]]).cell (F.n+1)≠o [[.bn k 0 m kq]]:=λk m e=>by rw[yG]at e;simp at e
   obtain⟨aD,bY,dP,t4⟩:=ao0 L.length _ y (b4 _) 0 zi q _ _ _ iu mH (by simp only[gf];omega);have F':=xk _ y (b4 _) 0;obtain⟨bo,cU,rK,t5⟩:=AV dP (by simp only[ff,gf];omega) 105 0 0;have t:=t4.trans t5;have px:([]:List df)++cI y ([]:List df).length++[⟨105,0,0⟩]=kO y:=rfl;rw[px]at rK;obtain⟨Mt,w,gg,b8⟩:=rK;obtain⟨ek, -,nq,rfl,apb⟩:∃ek,kO y≠[]/\ek<bo.n/\w= .bn ek 0 (kO y).length kq/\bo.cell ek=o ((kO y).map gn):=by
    rcases b8 with⟨e,_⟩|b8
    ·simp[kO]at e
    ·exact b8
   have axr:F.n+2<=ek:=by
    rcases ox ek ((F.push [q]).push [[.aA]]).n with apc|ul
    ·obtain⟨a9,dG⟩:=t.cur ek apc _ gg;exact absurd dG (F7 _ _)
    ·simpa[ag.push]using ul
   have rn:aB F ((F.push [q]).push [[.aA]]):=(by repeat (first|exact aB.refl _|refine aB.trans ?_ (aB.push _ _)|refine aB.trans ?_ (aB.fresh _ _)));have td:aB F bo:=ol.hb rn (by omega) (λk _ m=>F7 k m) t;have et:=nJ.acc.on td.ids td.hw;have gP:rows.length<=1000000:=by rw[nJ.len,pN];omega
   obtain⟨axs,b9,lB,i3,i5,iD,axt⟩:=mp et (nJ.g.trans td) (row:=[.bn ek 0 (kO y).length kq]) rfl gP;have ic:b9.cell (h.n+1)=o [[.int j 0,.int j 0]]:=by rw[iD,td.cell _ aE];exact aP
   rw[cV Qr.eq_1];simp only[ak,aq,ar,al,cb,bf,i1,jG,dA,ft,bY,cU,gg,lB,hw];refine next _ _ ⟨_,_,_,_,_,rfl,⟨i3,i5,?_,λD x aa=>?_⟩,by have:=td.n;omega,ic⟩
   ·rw[Aq bE,ff,ff,nJ.len];rfl
   ·rw[Aq bE]at aa;by_cases uz:D<(L.take i).length
    ·rw[o4 uz]at aa;obtain⟨p,eD,ss,fR,hl,lS⟩:=nJ.bV D x aa;refine⟨p,by rw[o4 (by rw[nJ.len];exact uz)];exact eD,ss,by have:=td.n;omega,by rw[iD,td.cell _ fR];exact hl,λfA bL c3 r2 qw=>lS fA bL c3 r2 ?_⟩;rwa [o4 (by rw[nJ.len];omega)]at qw
    ·rw[mx (by omega)]at aa;have r7:D - (L.take i).length=0:=by have:=(fQ.1 aa).1;simp at this;simp;omega
     rw[r7]at aa;obtain rfl:y=x:=by simpa using aa
     refine⟨ek,by rw[mx (by rw[nJ.len];omega),nJ.len,r7];rfl,by have:=nJ.g.n;omega,by omega,by rw[iD];exact apb,λfA bL c3 r2 qw=>?_⟩;have aaI:fA<rows.length:=by rw[nJ.len];omega
     rw[o4 aaI]at qw;obtain⟨z,aN⟩:∃z,(L.take i)[fA]? =o z:=⟨_,fr (by rw[<-nJ.len];exact aaI)⟩;obtain⟨p,eD,ss,fR,hl,lS⟩:=nJ.bV fA z aN;rw[eD]at qw;simp only[hZ,xf,E.bn.injEq,and_true]at qw;omega
  ·rintro V F ⟨b7,dd,eB,hS,rows,rfl,nJ,aE,aP⟩;have bf:¬((L.length:Int)<(L.length:Int)):=by omega
   rw[List.take_length]at nJ;have apd:rows≠[]:=λe=>di (pR.1 (by rw[<-nJ.len,e];rfl));rw[cV Qr.eq_1];simp only[ak,aq,ar,al,cb,bf,aP];refine cy _ _ b7 (by simp only[ak,hF,c2,hk,gf]) (nJ.g.set (by omega)) ⟨rows,?_,nJ.len,λi x aw=>?_⟩
   ·rcases nJ.acc with⟨e,_⟩|⟨id,_,_,_,_,e⟩
    ·exact absurd e apd
    ·exact⟨_,e⟩
   ·obtain⟨q,eD,ss,fR,hl,lS⟩:=nJ.bV i x aw;have ape:q≠h.n+1:=by
     rintro rfl;rw[aP]at hl;unfold kO at hl;cases an:cI x 0 with
     |nil=>rw[an]at hl;simp[gn]at hl
     |cons y l=>rw[an]at hl;simp[gn]at hl
    exact⟨q,eD,ss,(eu ape).trans hl,lS⟩
 ·unfold AY at cy;simp only[aj,if_false]at cy;simp only[ak,aq,ar,al,bt,cK,f1,bZ,aj];exact cy _ _ .aA (by simp only[ak,hF,c2,hk,gf]) (by refine aB.set ?_ (by omega);exact(by repeat (first|exact aB.refl _|refine aB.trans ?_ (aB.push _ _)|refine aB.trans ?_ (aB.fresh _ _)))) rfl
theorem apf(L:List bx):c7 (lZ L)=o (lZ L):=by
 unfold lZ;simp only[c7];have key:∀L:List bx,qs (L.map λx=>[E.b0 ad kq ((cI x 0++[(⟨105,0,0⟩:df)]).map λi:df=>[.int j i.op,.int j i.k,.int j i.n])])=o (L.map λx=>[E.b0 ad kq ((cI x 0++[(⟨105,0,0⟩:df)]).map λi:df=>[.int j i.op,.int j i.k,.int j i.n])]):=by
  intro L;induction L with
  |nil=>rfl
  |cons x L aZ=>have v3:qs ((cI x 0++[(⟨105,0,0⟩:df)]).map λi:df=>[E.int j i.op,.int j i.k,.int j i.n])=o ((cI x 0++[(⟨105,0,0⟩:df)]).map λi:df=>[E.int j i.op,.int j i.k,.int j i.n]):=Aa (ao3 _);simp only[kT,qs,o0,c7,v3,hF,aZ]
 rw[key L];rfl
theorem apg(v:E)(L:List bx)(m:∀h,iP h v L)(c5:L.length<=100000)(aC:∀x∈L,x.size<=100000):AC ap 40 [.agg [v]] h (.inl (Ae L),h):=by
 obtain⟨ga,F,gD,au,ax,g,bc⟩:=ao' (h:=h) v L m c5 aC;have ia:AC ap 40 [.agg [v]] h (.inl (.bU [gD,.agg [.int j (e1 L).1,.int j (e1 L).2]]),F):=ang dg ao7 rfl (by rw[au,z',ax,zK,yf]);unfold Ae;by_cases aj:(e1 L).1=0
 ·unfold AY at bc;rw[if_pos aj]at bc ⊢;obtain⟨rows,⟨id,rfl⟩,am,aw⟩:=bc;obtain⟨_,apa,eJ⟩:=QP aj;obtain⟨R,f1,f2,f3,f4,f5⟩:=aaH rows L F 100000 am (by omega) λi x af=>by obtain⟨q,eD,ss,fR,hl⟩:=aw i x af;have F':=xk _ x (b4 _) 0;have:=(eJ x (tc af)).2;exact⟨q,eD,fR,by simp only[kO,ff,gM];omega,hl⟩
  have a5:=AC.ao6 ia f1;have xd:aB h R:=⟨by rw[f2];exact g.n,by rw[f3];exact g.ids,λk Z=>by
   refine(f5 k λi m hm=>?_).trans (g.cell k Z)
   ·obtain⟨x,af⟩:∃x,L[i]? =o x:=⟨_,fr (by rw[<-am];exact(fQ.1 hm).1)⟩;obtain⟨q,eD,ss,_⟩:=aw i x af;rw[eD]at hm;simp only[hZ,xf,E.bn.injEq,and_true]at hm;omega,λk Z=>by rw[f4];exact g.hw k Z⟩
  refine AC.forget (p:=O) a5 (dI xd ?_);have:=apf L;unfold lZ kO at*;simp only[c7,o0,hF]at this ⊢;rw[this];rfl
 ·unfold AY at bc;rw[if_neg aj]at bc ⊢;subst bc;exact AC.forget (p:=O) ia (dI g rfl)
theorem aph{v:E}{L:List bx}(U:fo fp v es)(am:gE L es)(m:∀h,iP h v L)(c5:L.length<=100000)(aC:∀x∈L,x.size<=100000):aQ ap W 40 [.agg [v]] h=o (.inl (Ae L),h):=by
 have H:∃L:List bx,(∃bs es,[E.agg [v]]=[.agg [bs]]/\fo fp bs es/\gE L es)/\AC ap 40 [.agg [v]] h (.inl (Ae L),h):=⟨L,⟨v,es,rfl,U,am⟩,apg v L m c5 aC⟩;have aw:W.ext 40=o Iz:=by show rv 40=_;unfold rv;rw[if_neg (by decide),if_neg (by decide),if_pos rfl]
 unfold aQ;rw[aw];simp only[Iz];rw[dif_pos H];obtain⟨⟨bs,gk,au,bg,bM⟩,_⟩:=Classical.choose_spec H;have:L=Classical.choose H:=by
  injection au with au;injection au with au;injection au with au;subst au;have:es=gk:=by
   rcases U with⟨rfl,rfl⟩|⟨i,rfl⟩<;>rcases bg with⟨rfl,e⟩|⟨D,e⟩
   ·rfl
   ·cases e
   ·cases e
   ·injection e
  subst this;exact(ao8 _).2 _ _ _ (b4 _) am bM
 rw[<-this]
end
open Go.RowKit
theorem api:(ap.info? 2).map (λi=>(i.zero,i.size,i.bytes))=o (o (.int j 0),1,8):=by kernel_rfl
theorem apj(A:Option Addr)(n cap:Nat)(xs:List b1)(w:dy)(ao:ln w 1 A n cap xs)(J:∀u∈xs,u.oneCell'=O)(aE:n<=1000000):Calls ap 55 #[.slice A n cap] w λe ba=>∃wd rZ,e= .returned (.slice wd n rZ)/\ba.ownsRow w.heap.size 2 1 (.slice wd n rZ) n xs/\nm w ba:=by
 obtain⟨i0,af,oz,MQ,mo⟩:=info_parts api;have aW:∀(w:dy) (a:Option Addr) (l c:Nat),(binOp .eql 60 (.slice a l c) (.slice ad 0 0)).run ap w= .ok (.bool a.isNone) w:=λw a l c=>Lib.run_eql_slice_nil w _ _ a l c 0 0 Tryz.underlying60;rcases A with _|a
 ·have an:=ao.2.2.1 rfl;have hle:=ao.2.1;obtain rfl:n=0:=by omega
  subst an;obtain rfl:xs=[]:=List.eq_nil_of_length_eq_zero (by simpa using ao.1)
  go_enter Tryz.func55,Tryz.ntmps55
  go_wp2
  go_ret
  exact⟨_,_,rfl,World.ownsRow_nil _ _ _ _,h9.refl _ _⟩
 ·have apk:(w.alloc (.cells #[] 2)).ownsRow w.heap.size 2 1 (.slice (o ⟨w.heap.size,0,ad⟩) 0 0) 0 []:=World.ownsRow_lit w #[] 0 (b4 _) (by unfold maxLen;omega) (by simp);have lb:ln (w.alloc (.cells #[] 2)) 1 (o a) n cap xs:=ao.new ((h9.refl _ _).alloc _)
  go_enter Tryz.func55,Tryz.ntmps55
  go_wp2_with (at_builtin;refine afz rfl (.tmp 5) (.tmp 6) 60 rfl w.heap.size 2 i0 _ 1 8 Tryz.underlying60 af oz MQ mo rfl (by decide) _ 0 [] _ rfl apk (o a) n cap xs rfl lb J (by unfold maxLen;omega) (by omega) (by simp) ?_)
  intro v cY QR apl U apm;have aF:nm w cY:=((h9.refl _ w).alloc (.cells #[] 2)).step apl (by intro k Z;simp;omega)
  try simp only[hH,lQ]at QR
  obtain⟨wd,rZ,rfl⟩:∃wd rZ,v= .slice wd n rZ:=by
   rcases QR.2 with⟨rfl,rfl⟩|⟨g,rZ,_,rfl,_⟩
   ·exact⟨_,_,rfl⟩
   ·exact⟨_,_,rfl⟩
  clear apm U
  go_wp2
  go_ret
  exact⟨_,_,rfl,QR,aF⟩
open Go Go.RowKit
theorem Id(g I:Nat)(xs:List b1)(w:dy)(ao:ln w 1 (o ⟨g,I,ad⟩) 12 12 xs)(J:∀u∈xs,u.oneCell'=O):Calls ap 21 #[.pointer (o ⟨g,I,ad⟩)] w λe ba=>∃wd rZ,e= .returned (.slice wd 12 rZ)/\ba.ownsRow w.heap.size 2 1 (.slice wd 12 rZ) 12 xs/\nm w ba:=by
 go_enter Tryz.func21,Tryz.ntmps21
 go_wp2_with (go_at_call 55;refine(apj _ 12 12 _ _ ao J (by omega)).mono ?_;rintro e ba ⟨wd,rZ,rfl,iW,aF⟩)
 go_ret
 exact⟨_,_,rfl,iW,aF⟩
section
variable{P:cT}{m:eh}{h:ag}{w ba:dy}
theorem cc.apn(hw:cc P m h w)(aF:nm w ba){g:Nat}(a8:w.heap.size<=g){cB:Nat->Option b1}(Ap:∀I v,cB I=o v->ba.cell? ⟨g,I,ad⟩=o v):∃a9,Ext m h a9 h/\cc P a9 h ba/\∀I v,cB I=o v->a9.eo g I=o v:=by
 have gA:=hw.new aF;have aw:Ext m h {m with eo:=λfu I=>if fu=g then cB I else m.eo fu I} h:=by refine⟨rfl,b4 _,b4 _,λ_ _=>⟨rfl,rfl,rfl⟩,λfu I v af=>?_,λ_ _=>⟨rfl,b4 _,λ_=>⟨rfl,rfl⟩⟩,λ_ _ h=>h⟩;have:=hw.r0 af;show(if fu=g then cB I else m.eo fu I)=o v;rw[if_neg (by omega)];exact af
 refine⟨_,aw,?_,λI v af=>by show(if g=g then cB I else _)=_;rw[if_pos rfl];exact af⟩;refine{gA with live:=λb es ab=>?_,eo:=λfu I v af=>?_,sep:=λb es ab I=>?_,o2:=λk Z I aF=>?_,gd:=λfu x aa=>?_}
 ·obtain⟨cs,J,R,ah,aD,bo⟩:=gA.live b es ab;exact⟨cs,J,R,ah,aD,λi af D aa=>by obtain⟨v,a,c⟩:=bo i af D aa;exact⟨v,a,c.ext aw⟩⟩
 ·have af:(if fu=g then cB I else m.eo fu I)=o v:=af;by_cases e:fu=g
  ·rw[if_pos e]at af;rw[e];exact Ap I v af
  ·rw[if_neg e]at af;exact gA.eo fu I v af
 ·have:=hw.below ab;show(if m.cm b=g then cB I else m.eo (m.cm b) I)=ad;rw[if_neg (by omega)];exact gA.sep b es ab I
 ·have:=(hw.r1 Z).2;show(if m.iB k=g then cB I else m.eo (m.iB k) I)=ad;rw[if_neg (by omega)];exact gA.o2 k Z I aF
 ·obtain⟨aR,a5,bp,cA,et⟩:=gA.gd fu x aa;refine⟨aR,a5,bp,cA,λI=>?_⟩;have:=hw.vy aa;show(if fu=g then cB I else m.eo fu I)=ad;rw[if_neg (by omega)];exact et I
end
theorem aaJ:(ap).cellsOf 2=1:=by kernel_rfl
theorem apo{h:ag}{b:Nat}(an:h.cell b=o [cs.map (.int j)++[bF]])(am:cs.length=12):AC ap 21 [.ptr b 0 0] h (.inl (.b0 ad 2 (cs.map λx=>[.int j x])),h):=by
 intro m w bA hw fl;obtain⟨u,rfl⟩:∃u,bA=[u]:=by
  match bA,fl.1 with
  |[u],_=>exact⟨u,rfl⟩
 have iq:=fl.2 0 (by simp) (by simp);simp only[List.getElem_cons_zero]at iq;obtain⟨axu,aP,bu,cd,dU,gg⟩:=hw.live b _ an;have vz:ln w 1 (o ⟨m.cm b,0,ad⟩) 12 12 (cs.map (Value.int j)):=ln.afw aP (b4 _) (by simp[am]) λD u bQ=>by
  have aa:D<cs.length:=by have:=(fQ.1 bQ).1;simpa using this
  have r2:D<(cs.map (E.int j)++[bF]).length:=by simp;omega
  obtain⟨v,cE,c6⟩:=gg 0 (by simp) D r2;have c6:bX ap m h ((cs.map (E.int j)++[bF])[D]'r2) v:=c6;rw[List.getElem_append_left (by simpa using aa),List.getElem_map]at c6;cases c6;simp only[vF,fr aa,hF,hZ]at bQ;rw[<-bQ];simpa using cE
 cases iq with
 |ptr _ _ _ ab=>
   have B1:=Id (m.cm b) 0 (cs.map (Value.int j)) w vz (by intro u bQ;obtain⟨x,_,rfl⟩:=o8.1 bQ;rfl);have dV:(0*(ap).cellsOf (m.hg b)+0)=0:=by omega
   simp only[dV];refine B1.mono ?_;rintro e ba ⟨wd,rZ,rfl,iW,aF⟩;have ei:=ln.afv iW;obtain⟨g,I,rfl⟩:=ei.some_ (by omega);have a8:w.heap.size<=g:=(iW.lt g rfl).1;have Ap:∀(p:Nat) (v:b1),(if I<=p then(cs.map (Value.int j))[p - I]? else ad)=o v->ba.cell? ⟨g,p,ad⟩=o v:=by
    intro p v U;split at U
    ·rename_i h0;have:=ei.afu (p:=p - I) U;rw[show I+(p - I)=p by omega]at this;exact this
    ·cases U
   obtain⟨a9,b3,dH,f'⟩:=hw.apn aF a8 (cB:=λp=>if I<=p then(cs.map (Value.int j))[p - I]? else ad) Ap;refine⟨a9,b3,dH,h9.below aF (λ_ h=>h.elim) hw.size,_,rfl,?_⟩;have key:=bX.b0 (P:=ap) (m:=a9) (h:=h) ad 2 (cs.map λx=>[.int j x]) g I rZ (λi _=>.int j (cs.getD i 0)) (λr ao=>by
     obtain⟨x,_,rfl⟩:=o8.1 ao;rw[aaJ];rfl) (λi af D aa=>by
     rw[aaJ]at aa ⊢;have r7:D=0:=by omega
     subst r7;refine f' _ _ ?_;have eR:i<cs.length:=by simpa using af
     show(if I<=I+(i*1+0)then(cs.map (Value.int j))[I+(i*1+0) - I]? else ad)=_;rw[if_pos (by omega),show I+(i*1+0) - I=i by omega];simp[eR,dz]) (λi af D aa=>by
     have eR:i<cs.length:=by simpa using af
     have r7:D=0:=by simp only[List.getElem_map,gM]at aa;omega
     subst r7;have e:(cs.map λx=>[E.int j x])[i][0]= .int j (cs.getD i 0):=by simp[dz,eR]
     rw[e];exact .int _ _) (by rw[fa,am];exact ei.2.1) (λk Z=>by cases Z)
   rw[fa,am]at key;exact key
theorem apq{g3:List Int}{aaK:E}(J:cs.length=12)(R:g3.length=12)(e:cs.map (E.int j)++[bF]=g3.map (E.int j)++[aaK]):cs=g3:=by have:=List.append_inj_left e (by simp[J,R]);refine List.ext_getElem? λi=>?_;have ah:=congrArg (·[i]?) this;simp only[vF]at ah;cases aw:cs[i]? <;>cases bE:g3[i]? <;>simp_all
theorem apr{h:ag}{b:Nat}(an:h.cell b=o [cs.map (.int j)++[bF]])(am:cs.length=12):aQ ap W 21 [.ptr b 0 0] h=o (.inl (.b0 ad 2 (cs.map λx=>[.int j x])),h):=by
 have H:∃cs:List Int,(∃gz bF,[E.ptr b 0 0]=[.ptr gz 0 0]/\h.cell gz=o [cs.map (.int j)++[bF]]/\cs.length=12)/\AC ap 21 [.ptr b 0 0] h (.inl (.b0 ad 2 (cs.map λx=>[.int j x])),h):=⟨cs,⟨b,bF,rfl,an,am⟩,apo an am⟩;have aw:W.ext 21=o IA:=by show rv 21=_;unfold rv;rw[if_neg (by decide),if_neg (by decide),if_neg (by decide),if_pos rfl]
 unfold aQ;rw[aw];simp only[IA];rw[dif_pos H];obtain⟨⟨gz,aaK,au,ax,bc⟩,_⟩:=Classical.choose_spec H;have:cs=Classical.choose H:=by injection au with au;injection au with au;subst au;rw[an]at ax;injection ax with ax;injection ax with ax;exact apq am bc ax
 rw[<-this]
section
variable{h:ag}{ae ai:Nat->Prop}{b:Nat}{G:a0}
theorem aps(g:eX h ae ai b G)(cH:G.dE)(c r k:Int):∃F,aQ ap W 58 [.ptr b 0 0,.int j c,.int j r,.int j k] h=o (.inl (.bU [.int j (G.j5 c r k).2.1,.int j (G.j5 c r k).2.2]),F)/\fN h ae ai b F (G.j5 c r k).1:=by
 unfold a0.j5;cases an:se c
 ·rw[if_neg (by simp)];refine⟨h,?_,fN.same g⟩;refine a2 VY rfl ?_;unfold Ok;simp only[ak,aq,ar,al,bW,I7,an]
 ·rw[if_pos rfl];obtain⟨F,e,d⟩:=O7 g cH ⟨-1,k,r,c, -1,0⟩;simp only[cQ]at e;refine⟨F,?_,d⟩;refine a2 VY rfl ?_;unfold Ok;simp only[ak,aq,ar,al,bW,I7,an,e]
theorem apt(g:eX h ae ai b G)(cH:G.dE)(c r k:Int):∃F,aQ ap W 66 [.ptr b 0 0,.int j c,.int j r,.int j k] h=o (.inl (.bU [.int j (G.j5 c r k).2.1,.int j (G.j5 c r k).2.2]),F)/\fN h ae ai b F (G.j5 c r k).1:=by
 unfold a0.j5;cases an:se c
 ·rw[if_neg (by simp)];refine⟨h,?_,fN.same g⟩;have ki:decide (c<0)=O\/decide (c<0)=T/\decide (12<=c)=O:=by simp[se]at an;simp only[decide_eq_true_eq,decide_eq_false_iff_not];omega
  refine a2 Ww rfl ?_;unfold OF;rcases ki with ki|⟨ki,iC⟩
  ·simp only[ak,aq,ar,al,bW,ki]
  ·simp only[ak,aq,ar,al,bW,ki,iC]
 ·rw[if_pos rfl];have yg:decide (c<0)=T:=by simp[se]at an;simp;omega
  have mS:decide (12<=c)=T:=by simp[se]at an;simp;omega
  obtain⟨F,e,d⟩:=O8 g cH ⟨-1,k,r,c, -1,0⟩;simp only[cQ]at e;refine⟨F,?_,d⟩;refine a2 Ww rfl ?_;unfold OF;simp only[ak,aq,ar,al,bW,yg,mS,e]
theorem aaL(p f:Int):(Et p f=O/\decide (p<0)=T/\decide (4<=p)=T/\decide (f<0)=T/\decide (6<=f)=T)\/(Et p f=T/\(decide (p<0)=O\/decide (p<0)=T/\decide (4<=p)=O\/decide (p<0)=T/\decide (4<=p)=T/\decide (f<0)=O\/decide (p<0)=T/\decide (4<=p)=T/\decide (f<0)=T/\decide (6<=f)=O)):=by simp only[Et,decide_eq_true_eq,decide_eq_false_iff_not];omega
theorem apu(g:eX h ae ai b G)(cH:G.dE)(p f r k:Int):∃F,aQ ap W 60 [.ptr b 0 0,.int j p,.int j f,.int j r,.int j k] h=o (.inl (.bU [.int j (G.j6 p f r k).2.1,.int j (G.j6 p f r k).2.2]),F)/\fN h ae ai b F (G.j6 p f r k).1:=by
 unfold a0.j6;rcases aaL p f with⟨an,J,R,ah,aD⟩|⟨an,aw⟩
 ·rw[if_pos an];obtain⟨F,e,d⟩:=O7 g cH ⟨-1,k,r,0,p,f⟩;simp only[cQ]at e;refine⟨F,?_,d⟩;refine a2 V1 rfl ?_;unfold Om;simp only[ak,aq,ar,al,bW,J,R,ah,aD,e]
 ·rw[if_neg (by simp[an])];refine⟨h,?_,fN.same g⟩;refine a2 V1 rfl ?_;unfold Om;rcases aw with J|⟨J,R⟩|⟨J,R,ah⟩|⟨J,R,ah,aD⟩
  ·simp only[ak,aq,ar,al,bW,J]
  ·simp only[ak,aq,ar,al,bW,J,R]
  ·simp only[ak,aq,ar,al,bW,J,R,ah]
  ·simp only[ak,aq,ar,al,bW,J,R,ah,aD]
theorem apv(g:eX h ae ai b G)(cH:G.dE)(p f r k:Int):∃F,aQ ap W 64 [.ptr b 0 0,.int j p,.int j f,.int j r,.int j k] h=o (.inl (.bU [.int j (G.j6 p f r k).2.1,.int j (G.j6 p f r k).2.2]),F)/\fN h ae ai b F (G.j6 p f r k).1:=by
 unfold a0.j6;rcases aaL p f with⟨an,J,R,ah,aD⟩|⟨an,aw⟩
 ·rw[if_pos an];obtain⟨F,e,d⟩:=O8 g cH ⟨-1,k,r,0,p,f⟩;simp only[cQ]at e;refine⟨F,?_,d⟩;refine a2 Wx rfl ?_;unfold OG;simp only[ak,aq,ar,al,bW,J,R,ah,aD,e]
 ·rw[if_neg (by simp[an])];refine⟨h,?_,fN.same g⟩;refine a2 Wx rfl ?_;unfold OG;rcases aw with J|⟨J,R⟩|⟨J,R,ah⟩|⟨J,R,ah,aD⟩
  ·simp only[ak,aq,ar,al,bW,J]
  ·simp only[ak,aq,ar,al,bW,J,R]
  ·simp only[ak,aq,ar,al,bW,J,R,ah]
  ·simp only[ak,aq,ar,al,bW,J,R,ah,aD]
theorem aaM(g:eX h ae ai b G)(cH:G.dE)(p r k:Int):∃F,aQ ap W 84 [.ptr b 0 0,.int j p,.int j r,.int j k] h=o (.inl (.bU [.int j (G.derive p r k).2.1,.int j (G.derive p r k).2.2]),F)/\fN h ae ai b F (G.derive p r k).1:=by
 unfold a0.derive;cases an:G.has p
 ·rw[if_neg (by simp)];refine⟨h,?_,fN.same g⟩;refine a2 V5 rfl ?_;unfold Oo;simp only[ak,aq,ar,al,bW,EU g,an]
 ·rw[if_pos rfl];obtain⟨F,e,d⟩:=O7 g cH ⟨p,k,r,0, -1,0⟩;simp only[cQ]at e;refine⟨F,?_,d⟩;refine a2 V5 rfl ?_;unfold Oo;simp only[ak,aq,ar,al,bW,EU g,an,e]
theorem QS(g:eX h ae ai b G)(cH:G.dE)(p r k:Int):∃F,aQ ap W 85 [.ptr b 0 0,.int j p,.int j r,.int j k] h=o (.inl (.bU [.int j (G.derive p r k).2.1,.int j (G.derive p r k).2.2]),F)/\fN h ae ai b F (G.derive p r k).1:=by
 obtain⟨aL,dm,J,R, -⟩:=g.ex;unfold a0.derive;cases an:G.has p
 ·rw[if_neg (by simp)];refine⟨h,?_,fN.same g⟩;have ki:decide (p<0)=O\/decide (p<0)=T/\decide ((G.nodes.length:Int)<=p)=O:=by simp[a0.has]at an;simp only[decide_eq_true_eq,decide_eq_false_iff_not];omega
  refine a2 WB rfl ?_;unfold OH;rcases ki with ki|⟨ki,iC⟩
  ·simp only[ak,aq,ar,al,bW,ki]
  ·simp only[ak,aq,ar,al,bW,ki,iC,J,R.ed.len,R.ed.fits,fa]
 ·rw[if_pos rfl];have yg:decide (p<0)=T:=by simp[a0.has]at an;simp;omega
  have mS:decide ((G.nodes.length:Int)<=p)=T:=by simp[a0.has]at an;simp;omega
  obtain⟨F,e,d⟩:=O8 g cH ⟨p,k,r,0, -1,0⟩;simp only[cQ]at e;refine⟨F,?_,d⟩;refine a2 WB rfl ?_;unfold OH;simp only[ak,aq,ar,al,bW,yg,mS,J,R.ed.len,R.ed.fits,fa,e]
theorem apw:∃F,aQ ap W 76 [] h=o (.inl (.ptr h.n 0 0),F)/\F=h.push [[.aA,.aA]]:=by refine⟨_,?_,rfl⟩;refine a2 alh rfl ?_;unfold Wj;simp only[ak,aq,ar,al]
theorem apx(h:ag):eX (h.push [[.aA,.aA]]) (λk=>k=h.n) (λ_=>False) h.n ⟨[],[]⟩:=⟨⟨rfl,by simp[ag.push]⟩,⟨λk Z=>by rw[Z];simp[ag.push],λ_=>False.elim⟩,.aA,.aA,iG,.inl ⟨rfl,rfl⟩,.inl ⟨rfl,rfl⟩⟩
end
section
variable{h F aj:ag}{ae ai aJ aG:Nat->Prop}{L:List b6}
theorem Ga:∀{ms:dj} {kept:List av} {aT:List (List E)},c8 kept aT->ms.length=kept.length->(nB ms aT).length=5*ms.length
 |[],[],aT,h,_=>by simp only[c8]at h;subst h;rfl
 |m::ms,k::kept,aT,h,am=>by obtain⟨r,rs,rfl,J,R⟩:=h;have aZ:=Ga (ms:=ms) R (by simpa using am);simp only[nB,m3,hk,ff,aZ,J.cD.1];omega
 |[],_::_,_,_,am=>by simp at am
 |_::_,[],_,_,am=>by simp at am
theorem aaN:∀{ms:dj} {kept:List av} {aT:List (List E)} {p:Nat},c8 kept aT->ms.length=kept.length->p<ms.length->(nB ms aT)[p*5]? =o (.bool (ms.getD p ad).isSome)/\(nB ms aT)[p*5+1]? =o (qL (ms.getD p ad))/\∃r,((nB ms aT).drop (p*5+2)).take 3=r/\bT (kept.getD p cv) r/\((nB ms aT).drop (p*5)).take 5= .bool (ms.getD p ad).isSome::qL (ms.getD p ad)::r
 |[],kept,aT,p,_,_,aH=>by simp at aH
 |m::ms,[],aT,p,_,am,_=>by simp at am
 |m::ms,k::kept,aT,p,h,am,aH=>by
   obtain⟨r,rs,rfl,J,R⟩:=h;have ah:=J.cD.1
   match r,ah with
   |[a,b,c],_=>
     cases p with
     |zero=>exact⟨rfl,rfl,[a,b,c],rfl,J,rfl⟩
     |succ p=>
       obtain⟨bM,bL,bj,de,fv,n2⟩:=aaN (ms:=ms) (p:=p) R (by simpa using am) (by simpa using aH);have au:∀D,(nB (m::ms) ([a,b,c]::rs))[(p+1)*5+D]? =(nB ms rs)[p*5+D]? :=λD=>by
        have:(p+1)*5+D=p*5+D+5:=by omega
        rw[this];rfl
       have ax:∀D,(nB (m::ms) ([a,b,c]::rs)).drop ((p+1)*5+D)=(nB ms rs).drop (p*5+D):=λD=>by
        have:(p+1)*5+D=p*5+D+5:=by omega
        rw[this];rfl
       have f1:=au 0;have f2:=ax 0;rw[Nat.add_zero,Nat.add_zero]at f1 f2;exact⟨f1.trans bM,(au 1).trans bL,bj,by rw[ax 2];exact de,fv,by rw[f2];exact n2⟩
theorem aaO:∀{ms:dj} {kept:List av} {aT:List (List E)} {p:Nat} {v:av} {r:List E},c8 kept aT->ms.length=kept.length->p<ms.length->bT v r->∃qZ,c8 (kept.set p v) qZ/\dh (nB ms aT) (p*5+2) r=nB ms qZ
 |[],kept,aT,p,_,_,_,_,aH,_=>by simp at aH
 |m::ms,[],aT,p,_,_,_,am,_,_=>by simp at am
 |m::ms,k::kept,aT,p,v,r,h,am,aH,U=>by
   obtain⟨gD,rs,rfl,J,R⟩:=h;have ah:=J.cD.1;have aD:=U.cD.1
   match gD,ah,r,aD with
   |[a,b,c],_,[x,y,z],_=>
     cases p with
     |zero=>exact⟨[x,y,z]::rs,⟨_,_,rfl,U,R⟩,rfl⟩
     |succ p=>
       obtain⟨qZ,bM,bL⟩:=aaO (ms:=ms) (p:=p) R (by simpa using am) (by simpa using aH) U;refine⟨[a,b,c]::qZ,⟨_,_,rfl,J,bM⟩,?_⟩;have:(p+1)*5+2=p*5+2+5:=by omega
       rw[this];unfold dh at bL ⊢;simp only[nB,m3,lQ,List.take_succ_cons,hk,gf];rw[show p*5+2+5+(0+1+1+1)=p*5+2+3+5 by omega];simp only[List.drop_succ_cons];rw[<-bL];simp
theorem KU{b ck cr:Nat}{ms:dj}{kept:List av}(x:(hQ b ck cr ms kept).A h ae ai)(am:ms.length=kept.length):∃row,h.cell b=o [row]/\b<h.n/\row[0]? =o (.ptr ck 0 0)/\row[1]? =o (.ptr cr 0 0)/\row.length=2+5*ms.length/\∀p:Nat,p<ms.length->row[2+p*5]? =o (.bool (ms.getD p ad).isSome)/\row[2+p*5+1]? =o (qL (ms.getD p ad))/\∃r,gO O 3 row (2+p*5+2)=o (.agg r)/\bT (kept.getD p cv) r/\gO O 5 row (2+p*5)=o (.agg (.bool (ms.getD p ad).isSome::qL (ms.getD p ad)::r)):=by
 obtain⟨aT,Z,_,_,J,R⟩:=x;refine⟨_,R,J,rfl,rfl,by simp only[nC,hk,Ga Z am];omega,λp aH=>?_⟩;obtain⟨bM,bL,r,de,fv,n2⟩:=aaN Z am aH;have e:∀D,(nC ck cr ms aT)[2+p*5+D]? =(nB ms aT)[p*5+D]? :=λD=>by rw[show 2+p*5+D=p*5+D+1+1 by omega];rfl
 have ax:∀D,(nC ck cr ms aT).drop (2+p*5+D)=(nB ms aT).drop (p*5+D):=λD=>by rw[show 2+p*5+D=p*5+D+1+1 by omega];rfl
 have hlen:=Ga Z am;have f0:=e 0;have f2:=ax 0;rw[Nat.add_zero,Nat.add_zero]at f0 f2;refine⟨f0.trans bM,(e 1).trans bL,r,?_,fv,?_⟩
 ·unfold gO;rw[if_pos rfl,if_pos (by simp only[nC,hk,hlen];omega),ax 2,de]
 ·unfold gO;rw[if_pos rfl,if_pos (by simp only[nC,hk,hlen];omega),f2,n2]
theorem apy{b ck cr:Nat}{ms:dj}{kept:List av}(s:aK aj aJ aG h L)(i:Nat)(af:L[i]? =o (hQ b ck cr ms kept))(am:ms.length=kept.length){p:Nat}(aH:p<ms.length){v:av}{r:List E}(U:bT v r):∃F,eQ 3 h (.ptr b 0 (2+p*5+2)) (.agg r)=o F/\aK aj aJ aG F (L.set i (hQ b ck cr ms (kept.set p v))):=by
 refine s.call (cF:=λF=>eQ 3 h (.ptr b 0 (2+p*5+2)) (.agg r)=o F) i af λae ai x=>?_;obtain⟨aT,Z,aR,a5,bp,cA⟩:=x;obtain⟨qZ,bM,bL⟩:=aaO Z am aH U;have hlen:=Ga Z am;refine⟨_,lc (es:=[nC ck cr ms aT]) (e:=nC ck cr ms aT) cA rfl U.cD.2 U.cD.1 (by simp only[nC,hk,hlen];omega),ae,ai,⟨qZ,bM,aR,a5,bp,?_⟩,⟨b4 _,b4 _,λk _ np=>eu λe=>np ((aR k).2 e),λ_ _ _=>rfl⟩,λ_=>.inl,λ_=>.inl⟩;rw[k1,vR];have:dh (nC ck cr ms aT) (2+p*5+2) r=nC ck cr ms qZ:=by unfold nC;rw[<-bL];unfold dh;rw[show 2+p*5+2=p*5+2+1+1 by omega];simp only[List.take_succ_cons,m3];rw[show p*5+2+1+1+r.length=p*5+2+r.length+1+1 by omega];simp only[List.drop_succ_cons]
 simp only[E.cells,this]
theorem QT{v:E}{rows:List (List E)}(x:(ju e v rows).A h ae ai)(J:row.all E.one=O)(am:rows.length<=1000000):∃bs F,eU T e v (.b0 (o h.ids) e [row]) (h.fresh 1)=o (bs,F)/\bs.one=O/\bs.cells=[bs]/\gw h ae ai F (ju e bs (rows++[row]))/\F.n=h.n/\F.cell=h.cell:=by
 have kW:([row].all λx=>x.all E.one)=O:=by simpa using J
 rcases x with⟨⟨rfl,rfl⟩,au,ax⟩|⟨id,⟨di,rfl⟩,aR,a5,bp,cA⟩
 ·refine⟨.b0 (o (h.ids+1)) e [row],(h.fresh 1).fresh 1,?_,rfl,rfl,⟨λ_=>False,λD=>D=h.ids+1,.inr ⟨h.ids+1,⟨by simp,rfl⟩,λ_ h=>h,λ_=>nF,by simp[ag.fresh],by simp[ag.fresh]⟩,((aB.fresh h 1).trans (aB.fresh _ 1)).uJ _ _,λ_ h=>h.elim,λD aa=>.inr (by omega)⟩,rfl,rfl⟩;simp only[eU,iT,if_true,c2,gM,sd,if_false,jX];rw[if_pos ⟨by omega,by omega,kW⟩];rfl
 ·have apz:id≠h.ids:=by omega
  refine⟨.b0 (o id) e (rows++[row]),(h.fresh 1).grow id (rows.length+1),?_,rfl,rfl,⟨λ_=>False,λD=>D=id,.inr ⟨id,⟨by simp,rfl⟩,λ_ h=>h,λ_=>nF,by simp[ag.grow,ag.fresh];omega,by simp[ag.grow]⟩,⟨b4 _,by simp[ag.grow,ag.fresh],λ_ _ _=>rfl,λD aa gs=>?_⟩,λ_ h=>h.elim,λD aa=>.inl ((a5 D).2 aa)⟩,rfl,rfl⟩
  ·simp only[eU,iT,if_true,c2,gM,sd,if_false,jX];rw[if_pos ⟨by omega,by omega,kW⟩,Em apz,cA];simp only[true_and,am,if_true]
  ·rw[NF λe=>gs ((a5 D).2 e),Em (by omega)]
theorem KV{b:Nat}{cells:List Int}{log:List nA}(x:(h3 b cells log).A h ae ai):∃v,aK h ae ai h [aY b [cells.map (.int j)++[v]],ju hP v (log.map g0)]:=by obtain⟨v,x⟩:=x;exact⟨v,aK.start (cf.two x)⟩
theorem aaP{b:Nat}{cells:List Int}{log:List nA}{v:E}(s:aK aj aJ aG h [aY b [cells.map (.int j)++[v]],ju hP v (log.map g0)]):gw aj aJ aG h (h3 b cells log):=gw.imp (λ_ _ _ x=>by obtain⟨ez,eA,dX,ec,b3,dH,r⟩:=x;exact⟨v,ez,eA,dX,ec,b3,cf.Cz dH,r⟩) s
theorem Gb{cells:List Int}{v:E}(am:cells.length=12){D:Nat}(aa:D<12):(cells.map (E.int j)++[v])[D]? =o (.int j (cells.getD D 0))/\(cells.map (E.int j)++[v])[12]? =o v/\(cells.map (E.int j)++[v]).length=13:=by
 refine⟨?_,?_,by simp[am]⟩
 ·rw[o4 (by simp;omega)];simp[dz,show D<cells.length by omega]
 ·rw[mx (by simp;omega)];simp[am]
theorem apA{b:Nat}{cells:List Int}{log:List nA}(gG:aK aj aJ aG h L)(i:Nat)(af:L[i]? =o (h3 b cells log))(am:cells.length=12)(aE:log.length<=1000000){c:Int}(an:0<=c/\c<12)(p n:Int):∃F,aQ ap W 148 [.ptr b 0 0,.int j p,.int j c,.int j n] h=o (.inl (.bU [.int j (cells.getD c.toNat 0),.bool O]),F)/\aK aj aJ aG F (L.set i (h3 b cells (log++[⟨p,c,1,n⟩]))):=by
 refine gG.call (cF:=λF=>aQ ap W 148 [.ptr b 0 0,.int j p,.int j c,.int j n] h=o (.inl (.bU [.int j (cells.getD c.toNat 0),.bool O]),F)) i af λae ai x=>?_;obtain⟨v,s⟩:=KV x;obtain⟨aP,bu⟩:=s.cell 0 rfl;obtain⟨D,rfl⟩:=lE an.1;have aa:D<12:=by omega
 obtain⟨da,ch,eF⟩:=Gb (v:=v) am aa;obtain⟨J,bs,⟨au,bt,bq,fm,cE⟩,bg⟩:=s.y4 (cF:=λF bs=>eU T hP v (.b0 (o h.ids) hP [g0 ⟨p,D,1,n⟩]) (h.fresh 1)=o (bs,F)/\bs.one=O/\bs.cells=[bs]/\F.n=h.n/\F.cell=h.cell) 1 rfl (Y:=λbs=>ju hP bs (log.map g0++[g0 ⟨p,D,1,n⟩])) λae ai y=>by obtain⟨bs,F,aR,a5,bp,cA,et,i3⟩:=QT y (row:=g0 ⟨p,D,1,n⟩) rfl (by simpa using aE);exact⟨F,bs,⟨aR,a5,bp,et,i3⟩,cA⟩
 have bV:∀q:gx,dO ad (o (12,1)) (.ptr b 0 0) (.int q (D:Int))=o (.ptr b 0 D):=λq=>by simp[dO,aa]
 have vx:se (D:Int)=O:=by simp[se];omega
 have cd:=(bg.cell 0 rfl).1;have bS:dh (cells.map (E.int j)++[v]) 12 [bs]=cells.map (E.int j)++[bs]:=by unfold dh;rw[List.take_left' (by simp[am]),List.drop_of_length_le (by simp[am])];simp
 have st:=lc (n:=1) (x:=bs) (off:=12) (i:=0) cd rfl (by rw[bq];simpa using bt) (by rw[bq];rfl) (by omega);rw[bq,bS,vR]at st;have aV:=bg.set 0 rfl [cells.map (E.int j)++[bs]];have kk:=(Gb (v:=bs) am aa).1;refine⟨_,?_,aaP (v:=bs) (log:=log++[⟨p,D,1,n⟩]) (by rw[uR];exact aV)⟩;have i6:∀(x:ag) (k:Nat) (u:E),(cells.map (E.int j)++[u])[D]? =o (.int j (cells.getD D 0))->x.cell b=o [cells.map (E.int j)++[u]]->cS T k x (.ptr b 0 D)=o (.int j (cells.getD D 0)):=λx k u bQ aw=>by rw[fL,aw,c2,mY,c2,gi,bQ]
 have QU:∀k:Nat,cS T k h (.ptr b 0 12)=o v:=λk=>by rw[fL,aP,c2,mY,c2,gi,ch]
 have f12:b5 12 (.ptr b 0 0)=o (.ptr b 0 12):=rfl;have xD:=i6 _ 1 bs kk (aV.cell 0 rfl).1;simp only[g0]at au;refine a2 amB rfl ?_;unfold Ya;simp only[ak,aq,ar,al,bW,bJ,I7,vx,f12,QU,au,st,bV,xD]
theorem apB{b:Nat}{cells:List Int}{log:List nA}(gG:aK aj aJ aG h L)(i:Nat)(af:L[i]? =o (h3 b cells log))(am:cells.length=12)(aE:log.length<=1000000){c:Int}(an:0<=c/\c<12)(p n z:Int):∃F,aQ ap W 149 [.ptr b 0 0,.int j p,.int j c,.int j n,.int j z] h=o (.inl (.bool O),F)/\aK aj aJ aG F (L.set i (h3 b (cells.set c.toNat z) (log++[⟨p,c,2,n⟩]))):=by
 refine gG.call (cF:=λF=>aQ ap W 149 [.ptr b 0 0,.int j p,.int j c,.int j n,.int j z] h=o (.inl (.bool O),F)) i af λae ai x=>?_;obtain⟨v,s⟩:=KV x;obtain⟨aP,bu⟩:=s.cell 0 rfl;obtain⟨D,rfl⟩:=lE an.1;have aa:D<12:=by omega
 obtain⟨da,ch,eF⟩:=Gb (v:=v) am aa;obtain⟨J,bs,⟨au,bt,bq,fm,cE⟩,bg⟩:=s.y4 (cF:=λF bs=>eU T hP v (.b0 (o h.ids) hP [g0 ⟨p,D,2,n⟩]) (h.fresh 1)=o (bs,F)/\bs.one=O/\bs.cells=[bs]/\F.n=h.n/\F.cell=h.cell) 1 rfl (Y:=λbs=>ju hP bs (log.map g0++[g0 ⟨p,D,2,n⟩])) λae ai y=>by obtain⟨bs,F,aR,a5,bp,cA,et,i3⟩:=QT y (row:=g0 ⟨p,D,2,n⟩) rfl (by simpa using aE);exact⟨F,bs,⟨aR,a5,bp,et,i3⟩,cA⟩
 have bV:∀q:gx,dO ad (o (12,1)) (.ptr b 0 0) (.int q (D:Int))=o (.ptr b 0 D):=λq=>by simp[dO,aa]
 have vx:se (D:Int)=O:=by simp[se];omega
 have cd:=(bg.cell 0 rfl).1;have bS:dh (cells.map (E.int j)++[v]) 12 [bs]=cells.map (E.int j)++[bs]:=by unfold dh;rw[List.take_left' (by simp[am]),List.drop_of_length_le (by simp[am])];simp
 have st:=lc (n:=1) (x:=bs) (off:=12) (i:=0) cd rfl (by rw[bq];simpa using bt) (by rw[bq];rfl) (by omega);rw[bq,bS,vR]at st;have aV:=bg.set 0 rfl [cells.map (E.int j)++[bs]];have kk:=Gb (v:=bs) am aa;have apC:dh (cells.map (E.int j)++[bs]) D [.int j z]=(cells.set D z).map (E.int j)++[bs]:=by
  have:dh (cells.map (E.int j)++[bs]) D [.int j z]=(cells.map (E.int j)++[bs]).set D (.int j z):=by
   refine List.ext_getElem? λi=>?_;rw[xc _ _ _ _ (by simp only[gM,kk.2.2];omega)];by_cases e:i=D
   ·subst e;rw[if_pos (by simp only[gM];omega),List.getElem?_set_self (by rw[kk.2.2];omega)];simp
   ·rw[if_neg (by simp only[gM];omega),List.getElem?_set_ne (by omega)]
  rw[this,List.set_append_left _ _ (by simp;omega),List.map_set]
 have aaQ:=lc (n:=1) (x:=.int j z) (off:=D) (i:=0) (aV.cell 0 rfl).1 rfl rfl rfl (by rw[kk.2.2];omega);rw[show(E.int j z).cells=[.int j z] from rfl,apC,vR]at aaQ;have br:=aV.set 0 rfl [(cells.set D z).map (E.int j)++[bs]];refine⟨_,?_,aaP (v:=bs) (log:=log++[⟨p,D,2,n⟩]) (by rw[uR];exact br)⟩;have QU:∀k:Nat,cS T k h (.ptr b 0 12)=o v:=λk=>by rw[fL,aP,c2,mY,c2,gi,ch]
 have f12:b5 12 (.ptr b 0 0)=o (.ptr b 0 12):=rfl;simp only[g0]at au;refine a2 amC rfl ?_;unfold Yd;simp only[ak,aq,ar,al,bW,bJ,I7,vx,f12,QU,au,st,bV,aaQ]
end
def hd(aj:ag)(ae ai:Nat->Prop)(b:Nat)(h:ag)(G:a0)(C cB:List Nat):Prop:=∃lu lv,eX h lu lv b G/\lW ae ai aj h/\(∀k,lu k->ae k\/aj.n<=k)/\(∀D,lv D->ai D\/aj.ids<=D)/\(∀k∈C,aj.n<=k/\k<h.n/\¬lu k)/\(∀D∈cB,aj.ids<=D/\D<h.ids/\¬lv D)
section
variable{aj h:ag}{ae ai:Nat->Prop}{b:Nat}{G cN:a0}{C cB:List Nat}
theorem hd.start(g:eX h ae ai b G):hd h ae ai b h G [] []:=⟨ae,ai,g,lW.refl _ _ _,λ_=>.inl,λ_=>.inl,by simp,by simp⟩
theorem hd.sC(m:hd aj ae ai b h G C cB):fN aj ae ai b h G:=by obtain⟨lu,lv,g,c,f,D,_⟩:=m;exact⟨lu,lv,g,c,f,D⟩
theorem hd.aaR(m:hd aj ae ai b h G C cB):∃lu lv,eX h lu lv b G:=by obtain⟨lu,lv,g,_⟩:=m;exact⟨lu,lv,g⟩
theorem hd.n(m:hd aj ae ai b h G C cB):aj.n<=h.n:=by obtain⟨_,_,_,c,_⟩:=m;exact c.n
theorem hd.lt(m:hd aj ae ai b h G C cB){k:Nat}(Z:k∈C):k<h.n:=by obtain⟨_,_,_,_,_,_,c,_⟩:=m;exact(c k Z).2.1
theorem hd.fe(m:hd aj ae ai b h G C cB){k:Nat}(Z:k<aj.n)(dt:¬ae k):h.cell k=aj.cell k:=by obtain⟨_,_,_,c,_⟩:=m;exact c.cell k Z dt
theorem hd.hb{F:ag}(m:hd aj ae ai b h G C cB)(x:aB h F):hd aj ae ai b F G C cB:=by
 obtain⟨lu,lv,g,c,f,D,an,af⟩:=m;refine⟨lu,lv,g.hb x,c.trans (x.uJ _ _),f,D,λk Z=>?_,λi Z=>?_⟩
 ·obtain⟨aR,a5,bp⟩:=an k Z;exact⟨aR,fq a5 x.n,bp⟩
 ·obtain⟨aR,a5,bp⟩:=af i Z;exact⟨aR,fq a5 x.ids,bp⟩
theorem hd.push(m:hd aj ae ai b h G C cB)(r:List (List E)):hd aj ae ai b (h.push r) G (h.n::C) cB:=by
 have aE:=m.n;obtain⟨lu,lv,g,c,f,D,an,af⟩:=m.hb (aB.push h r);obtain⟨dX,ec,ch,bu,f2,fA,iC,il⟩:=m;refine⟨dX,ec,ch.hb (aB.push h r),c,f2,fA,λk Z=>?_,λi Z=>?_⟩
 ·rcases n0.1 Z with rfl|Z
  ·exact⟨aE,by simp[ag.push],λdt=>by have:=ch.lt.1 _ dt;omega⟩
  ·obtain⟨aR,a5,bp⟩:=iC k Z;exact⟨aR,by simp only[ey];omega,bp⟩
 ·exact il i Z
theorem hd.fresh(m:hd aj ae ai b h G C cB)(r:Nat):hd aj ae ai b (h.fresh r) G C (h.ids::cB):=by
 obtain⟨dX,ec,ch,bu,f2,fA,iC,il⟩:=m;refine⟨dX,ec,ch.hb (aB.fresh h r),bu.trans ((aB.fresh h r).uJ _ _),f2,fA,iC,λi Z=>?_⟩;rcases n0.1 Z with rfl|Z
 ·exact⟨bu.ids,by simp[ag.fresh],λdt=>by have:=ch.lt.2 _ dt;omega⟩
 ·obtain⟨aR,a5,bp⟩:=il i Z;exact⟨aR,by simp only[U4];omega,bp⟩
theorem hd.set(m:hd aj ae ai b h G C cB){c:Nat}(Z:c∈C)(es:Option (List (List E))):hd aj ae ai b (h.set c es) G C cB:=by obtain⟨dX,ec,ch,bu,f2,fA,iC,il⟩:=m;obtain⟨aR,a5,bp⟩:=iC c Z;have x:lW (λk=>k=c) (λ_=>False) h (h.set c es):=⟨b4 _,b4 _,λk _ Z=>eu Z,λ_ _ _=>rfl⟩;refine⟨dX,ec,ch.g2 x (λk Z e=>bp (e ▸ Z)) (λ_ _ h=>h),bu.then x (λk e=>.inr (by rw[e];exact aR)) (λ_ h=>h.elim),f2,fA,iC,il⟩
theorem hd.grow(m:hd aj ae ai b h G C cB){i:Nat}(Z:i∈cB)(r:Nat):hd aj ae ai b (h.grow i r) G C cB:=by obtain⟨dX,ec,ch,bu,f2,fA,iC,il⟩:=m;obtain⟨aR,a5,bp⟩:=il i Z;have x:lW (λ_=>False) (λD=>D=i) h (h.grow i r):=⟨b4 _,b4 _,λ_ _ _=>rfl,λD _ aa=>NF aa⟩;exact⟨dX,ec,ch.g2 x (λ_ _ h=>h) (λD aa e=>bp (e ▸ aa)),bu.then x (λ_ h=>h.elim) (λD e=>.inr (by rw[e];exact aR)),f2,fA,iC,il⟩
theorem hd.KW(m:hd aj ae ai b h G C cB)(c:∀dX ec,eX h dX ec b G->(∀k,k<aj.n->¬ae k->¬dX k)->(∀k∈C,¬dX k)->∃F,cF F/\fN h dX ec b F cN):∃F,cF F/\hd aj ae ai b F cN C cB/\(∀k∈C,F.cell k=h.cell k)/\(∀k,k<aj.n->¬ae k->F.cell k=h.cell k)/\(∀D∈cB,F.hw D=h.hw D):=by
 obtain⟨dX,ec,ch,bu,f2,fA,iC,il⟩:=m;obtain⟨F,r,pm,pn,eF,cd,f3,vf⟩:=c dX ec ch (λk Z dt R=>by
  rcases f2 k R with h|h
  ·exact dt h
  ·omega) (λk Z=>(iC k Z).2.2)
 have iw:=bu.then cd f2 fA;refine⟨F,r,⟨pm,pn,eF,iw,λk Z=>?_,λD aa=>?_,λk Z=>?_,λi Z=>?_⟩,λk Z=>cd.cell k (iC k Z).2.1 (iC k Z).2.2,λk Z dt=>?_,λD aa=>cd.hw D (il D aa).2.1 (il D aa).2.2⟩
 ·rcases f3 k Z with h|h
  ·exact f2 k h
  ·exact .inr (e7 bu.n h)
 ·rcases vf D aa with h|h
  ·exact fA D h
  ·exact .inr (e7 bu.ids h)
 ·obtain⟨aR,a5,bp⟩:=iC k Z;refine⟨aR,fq a5 cd.n,λdt=>?_⟩;rcases f3 k dt with h|h
  ·exact bp h
  ·omega
 ·obtain⟨aR,a5,bp⟩:=il i Z;refine⟨aR,fq a5 cd.ids,λdt=>?_⟩;rcases vf i dt with h|h
  ·exact bp h
  ·omega
 ·refine cd.cell k (fq Z bu.n) λGc=>?_;rcases f2 k Gc with h|h
  ·exact dt h
  ·omega
theorem hd.call(m:hd aj ae ai b h G C cB)(c:∀ae ai,eX h ae ai b G->∃F,cF F/\fN h ae ai b F cN):∃F,cF F/\hd aj ae ai b F cN C cB/\(∀k∈C,F.cell k=h.cell k)/\(∀k,k<aj.n->¬ae k->F.cell k=h.cell k)/\(∀D∈cB,F.hw D=h.hw D):=m.KW λdX ec g _ _=>c dX ec g
def sD(e:a6)(cB:List Nat)(h:ag)(v:E)(acc:List (List E)):Prop:=(acc=[]/\v= .aA)\/∃id,id∈cB/\acc≠[]/\h.hw id=acc.length/\v= .b0 (o id) e acc
theorem sD.Cy{v:E}{acc:List (List E)}(a:sD e cB h v acc):fo e v acc:=by
 rcases a with a|⟨id,_,_,_,rfl⟩
 ·exact .inl a
 ·exact .inr ⟨_,rfl⟩
theorem sD.cell{v:E}{acc:List (List E)}(a:sD e cB h v acc):v.one=O/\v.cells=[v]:=by rcases a with⟨_,rfl⟩|⟨id,_,_,_,rfl⟩<;>exact⟨rfl,rfl⟩
theorem sD.g2{F:ag}{v:E}{acc:List (List E)}(a:sD e cB h v acc)(Z:∀D∈cB,F.hw D=h.hw D):sD e cB F v acc:=by
 rcases a with a|⟨id,aR,a5,bp,cA⟩
 ·exact .inl a
 ·exact .inr ⟨id,aR,a5,(Z id aR).trans bp,cA⟩
theorem aaS{v:E}{acc:List (List E)}(m:hd aj ae ai b h G C cB)(aX:sD e cB h v acc)(J:row.all E.one=O)(am:acc.length<=1000000):∃bs F aaT,eU T e v (.b0 (o h.ids) e [row]) (h.fresh 1)=o (bs,F)/\sD e aaT F bs (acc++[row])/\hd aj ae ai b F G C aaT/\F.cell=h.cell/\F.n=h.n:=by
 have kW:∀x,x∈row->x.one=O:=by simpa using J
 rcases aX with⟨rfl,rfl⟩|⟨id,aR,a5,bp,rfl⟩
 ·refine⟨.b0 (o (h.ids+1)) e [row],(h.fresh 1).fresh 1,(h.ids+1)::h.ids::cB,?_,.inr ⟨h.ids+1,by simp,by simp,by simp[ag.fresh],by simp⟩,(m.fresh 1).fresh 1,rfl,rfl⟩;simp only[eU,iT,if_true,c2,gM,sd,if_false,jX];rw[if_pos ⟨by omega,by omega,by simpa using kW⟩];rfl
 ·have bf:id<h.ids:=by obtain⟨_,_,_,_,_,_,_,af⟩:=m;exact(af id aR).2.1
  have di:id≠h.ids:=by omega
  refine⟨.b0 (o id) e (acc++[row]),(h.fresh 1).grow id (acc.length+1),h.ids::cB,?_,.inr ⟨id,by simp[aR],by simp,by simp[ag.grow],rfl⟩,(m.fresh 1).grow (by simp[aR]) _,rfl,rfl⟩;simp only[eU,iT,if_true,c2,gM,sd,if_false,jX];rw[if_pos ⟨by omega,by omega,by simpa using kW⟩,Em di,bp];simp only[true_and,am,if_true]
end
theorem apD{x:BitVec 64}:Ch x.toInt 4=fS x.toInt 2:=by
 have aD:(4:Int)=(4#64).toInt:=by decide
 rw[aD,Vd,I3 x (by omega)];have e:(4#64)=BitVec.twoPow 64 2:=by decide
 cases ab:x.getLsbD 2
 ·refine decide_eq_false λh=>?_;have:=congrArg (λv:BitVec 64=>v.getLsbD 2) h;simp only[BitVec.getLsbD_and,ab,Bool.false_and]at this;exact absurd this (by decide)
 ·refine decide_eq_true (BitVec.eq_of_getLsbD_eq λi af=>?_);rw[BitVec.getLsbD_and,e,BitVec.getLsbD_twoPow];by_cases R:2=i
  ·subst R;simp[ab]
  ·simp[R]
section
variable{h:ag}{ae ai:Nat->Prop}{b:Nat}{G:a0}
abbrev xL:a6:=210
theorem aaU{C:Cd}{aL:Nat}{d:pc}{bN:List ay}{k:List i'}{L:List E}{q:a6}{v:E}:bB C aL (.ops (.i d (.yz (.l 0))::bN)::k) V (.iface q v::L) h=o (.panic (.iface q v),V,h):=U1 rfl
theorem apE(c:Int):aQ ap W 161 [.bool O,.int j c] h=o (.inr (.iface xL (.int j c)),h):=by refine a2 Zv rfl ?_;unfold Qb;simp only[ak,aq,ar,al,H4,aaU,DD (aB.refl h) (rfl:c7 (.iface xL (.int j c))=_)]
theorem apF(c:Int):aQ ap W 161 [.bool T,.int j c] h=o (.inl (.bU []),h):=by refine a2 Zv rfl ?_;unfold Qb;simp only[ak,aq,ar,al,dI (aB.refl h) (rfl:c7 (.bU [])=_)]
theorem apG(g:a0)(cH:g.dE)(i:Int):aQ ap W 144 [.int j (g.dn i),.int j 4] h=o (.inl (.bool (fS (g.dn i) 2)),h):=by
 obtain⟨x,aw⟩:=ZE cH i;have e:Ch (g.dn i) 4=fS (g.dn i) 2:=by rw[aw];exact apD
 rw[<-e];refine a2 Zu rfl ?_;unfold Qa;simp only[ak,aq,ar,al];rfl
def QV(aT:List Int)(G:a0)(n:Int)(q:E⊕E):Prop:=((k2 aT G n).2.2=0/\q= .inl (.int j (k2 aT G n).2.1))\/((k2 aT G n).2.2≠0/\q= .inr (.iface xL (.int j (k2 aT G n).2.2)))
theorem aaV(k:Int)(l:List Int)(G:a0)(n:Int):k2 (k::l) G n=if(G.derive n 15 k).2.2≠0 then((G.derive n 15 k).1,0,(G.derive n 15 k).2.2)else k2 l (G.derive n 15 k).1 (G.derive n 15 k).2.1:=rfl
theorem apH{m:Nat}(g:eX h ae ai b G)(cH:G.dE)(hm:m<h.n)(dt:¬ae m)(an:h.cell m=o [[.ptr b 0 0,dS]])(a8:hn 3 dS (gl aT))(Z:aT.length<=1000000)(n:Int):∃q F,aQ ap W 146 [.ptr m 0 0,.int j n] h=o (q,F)/\(QV aT G n q/\fN h ae ai b F (k2 aT G n).1):=by
 have am:=a8.len;have bl:=a8.fits;rw[fa]at am;refine WY (rB:=λq F=>QV aT G n q/\fN h ae ai b F (k2 aT G n).1) WF rfl λQ hi fT=>?_;unfold Zw;simp only[ak,aq,ar,al,an,am,bl];refine oe (λi V F=>∃hB du b7 gJ cN b',V=[.ptr m 0 0,.int j b',.int j 0,hB,du,b7,dS,.int j aT.length,.int j (i:Nat),gJ]/\cN.dE/\hd h ae ai b F cN [] []/\k2 (aT.drop i) cN b'=k2 aT G n) aT.length ⟨_,_,_,_,G,n,rfl,cH,hd.start g,rfl⟩ ?_ ?_
 ·rintro i V F af ⟨hB,du,b7,gJ,cN,b',rfl,oT,a4,he⟩ next
  have bf:(i:Int)<(aT.length:Int):=by omega
  have hw:=eL (n:=(i:Int)+1) (by omega) (by omega);obtain⟨k,np⟩:∃k,aT[i]? =o k:=⟨_,fr af⟩;have i1:=a8.bV j i [.int j k] (by simp[np]);have a7:aT.drop i=k::aT.drop (i+1):=by obtain⟨eR,rfl⟩:=fQ.1 np;exact va eR
  have ki:F.cell m=o [[.ptr b 0 0,dS]]:=(a4.fe hm dt).trans an;obtain⟨R,ax,nK, -, -, -⟩:=a4.call λae ai g=>aaM g oT b' 15 k;rw[a7,aaV]at he;by_cases aN:(cN.derive b' 15 k).2.2=0
  ·rw[if_neg (by simp[aN])]at he;have px:=λh=>apF (h:=h) 0;rw[aN]at ax;rw[cV Kb.eq_1];simp only[ak,aq,ar,al,cb,bf,i1,ki,ax,px,hw];exact next _ _ ⟨_,_,_,_,_,_,rfl,oT.derive _ _ _,nK,he⟩
  ·rw[if_pos aN]at he;have px:=λh=>apE (h:=h) (cN.derive b' 15 k).2.2;rw[cV Kb.eq_1];simp only[ak,aq,ar,al,cb,bf,i1,ki,ax,aN,px];refine fT _ _ _ ⟨.inr ?_,?_⟩
   ·rw[<-he];exact⟨aN,rfl⟩
   ·rw[<-he];exact nK.sC
 ·rintro V F ⟨hB,du,b7,gJ,cN,b',rfl,oT,a4,he⟩;have bf:¬(aT.length:Int)<(aT.length:Int):=by omega
  rw[sw]at he;rw[cV Kb.eq_1];simp only[ak,aq,ar,al,cb,bf];refine hi _ _ _ rfl ⟨.inl ?_,?_⟩
  ·rw[<-he];exact⟨rfl,rfl⟩
  ·rw[<-he];exact a4.sC
theorem aaW{G:a0}(cH:G.dE)(l:List Int):∀(i:Nat) (n:Int),l[i]? =o n->(l.drop i).any (λn=> !fS (G.dn n) 2)=(!fS (G.dn n) 2||(l.drop (i+1)).any λn=> !fS (G.dn n) 2):=by intro i n aE;obtain⟨af,rfl⟩:=fQ.1 aE;rw[va af,List.any_cons]
theorem KX{x:av}(h:x.code=0):x.size<=40:=by
 unfold av.code at h;split at h
 ·cases h
 ·omega
theorem apI(g:eX h ae ai b G)(cH:G.dE){x:av}{r:List E}(aw:bT x r):aQ ap W 126 [.ptr b 0 0,.agg r] h=o (.inl (.int j (pj G x)),h):=by
 obtain⟨bt,bq⟩:=aw.one;have au:=λh=>Km (h:=h) aw;unfold pj;by_cases an:x.code=0
 ·have aC:=KX an;have ax:=λh=>anP _ x (b4 _) (by omega) r h aw;rw[if_neg (by simp[an])];cases fY:x.gate
  ·have bc:=λh=>anL _ x (b4 _) (by omega) r h aw;have AZ:=uH 3 (gl x.hC);have am:=AZ.len;have bl:=AZ.fits;rw[fa]at am;have pt:=x.Es;simp only[fY]at ax;simp only[l9,if_false];refine l0 Qc rfl λQ cy=>?_;unfold Kh;simp only[ak,aq,ar,al,bt,bq,gX bq,au,an,ax,bc,am,bl];refine oe (λi V F=>∃b7 hs hS,V=[.ptr b 0 0,.agg r,.ptr h.n 0 0,.int j 0,.int j 0,b7,.bool T,.bool T,i2 3 (gl x.hC),.int j x.hC.length,.int j (i:Nat),hs,hS]/\aB h F/\(x.hC.drop i).any (λn=> !fS (G.dn n) 2)=x.hC.any λn=> !fS (G.dn n) 2) x.hC.length ⟨_,_,_,rfl,(by repeat (first|exact aB.refl _|refine aB.trans ?_ (aB.push _ _)|refine aB.trans ?_ (aB.fresh _ _))),rfl⟩ ?_ ?_
   ·rintro i V F af ⟨b7,hs,hS,rfl,pA,he⟩ next
    have bf:(i:Int)<(x.hC.length:Int):=by omega
    have hw:=eL (n:=(i:Int)+1) (by omega) (by omega);obtain⟨n,aE⟩:∃n,x.hC[i]? =o n:=⟨_,fr af⟩;have i1:=AZ.bV j i [.int j n] (by simp[aE]);have bY:=WS (g.hb pA) cH n;have cU:=λh=>apG (h:=h) G cH n;rw[aaW cH _ _ _ aE]at he;cases ab:fS (G.dn n) 2
    ·rw[ab]at he;simp only[ab]at cU;rw[cV Kf.eq_1];simp only[ak,aq,ar,al,cb,bf,i1,bY,cU];refine cy _ _ _ rfl pA ?_;rw[<-he];rfl
    ·rw[ab]at he;simp only[ab]at cU;rw[cV Kf.eq_1];simp only[ak,aq,ar,al,cb,bf,i1,bY,cU,hw];exact next _ _ ⟨_,_,_,rfl,pA,he⟩
   ·rintro V F ⟨b7,hs,hS,rfl,pA,he⟩;have bf:¬(x.hC.length:Int)<(x.hC.length:Int):=by omega
    rw[sw]at he;rw[cV Kf.eq_1];simp only[ak,aq,ar,al,cb,bf];refine cy _ _ _ rfl pA ?_;rw[<-he];rfl
  ·simp only[fY]at ax;simp only[if_true];refine l0 Qc rfl λQ cy=>?_;unfold Kh;simp only[ak,aq,ar,al,bt,bq,gX bq,au,an,ax];exact cy _ _ _ rfl (by repeat (first|exact aB.refl _|refine aB.trans ?_ (aB.push _ _)|refine aB.trans ?_ (aB.fresh _ _))) rfl
 ·rw[if_pos an];refine l0 Qc rfl λQ cy=>?_;unfold Kh;simp only[ak,aq,ar,al,bt,bq,gX bq,au,an];exact cy _ _ _ rfl (by repeat (first|exact aB.refl _|refine aB.trans ?_ (aB.push _ _)|refine aB.trans ?_ (aB.fresh _ _))) rfl
theorem apJ(g:eX h ae ai b G)(cH:G.dE){x:av}{r:List E}(aw:bT x r):aQ ap W 155 [.ptr b 0 0,.agg r] h=o (.inl (.int j (pj G x)),h):=by
 obtain⟨bt,bq⟩:=aw.one;have au:=λh=>Kn (h:=h) aw;unfold pj;by_cases an:x.code=0
 ·have aC:=KX an;have ax:=λh=>anN _ x (b4 _) (by omega) r h aw;rw[if_neg (by simp[an])];cases fY:x.gate
  ·have bc:=λh=>anK _ x (b4 _) (by omega) r h aw;have AZ:=uH 3 (gl x.hC);have am:=AZ.len;have bl:=AZ.fits;rw[fa]at am;have pt:=x.Es;simp only[fY]at ax;simp only[l9,if_false];refine l0 Qe rfl λQ cy=>?_;unfold Kk;simp only[ak,aq,ar,al,bt,bq,gX bq,au,an,ax,bc];refine oe (λi V F=>∃gJ fz,V=[.ptr b 0 0,.agg r,.ptr h.n 0 0,.int j 0,.int j 0,i2 3 (gl x.hC),.int j (i:Nat),.bool T,.bool T,gJ,fz]/\aB h F/\(x.hC.drop i).any (λn=> !fS (G.dn n) 2)=x.hC.any λn=> !fS (G.dn n) 2) x.hC.length ⟨_,_,rfl,(by repeat (first|exact aB.refl _|refine aB.trans ?_ (aB.push _ _)|refine aB.trans ?_ (aB.fresh _ _))),rfl⟩ ?_ ?_
   ·rintro i V F af ⟨gJ,fz,rfl,pA,he⟩ next
    have bf:(i:Int)<(x.hC.length:Int):=by omega
    have hw:=eL (n:=(i:Int)+1) (by omega) (by omega);obtain⟨n,aE⟩:∃n,x.hC[i]? =o n:=⟨_,fr af⟩;have i1:=AZ.bV j i [.int j n] (by simp[aE]);have bY:=W8 (g.hb pA) cH n;have cU:∀h,aQ ap W 151 [.int j (G.dn n),.int j 2] h=o (.inl (.bool (fS (G.dn n) 2)),h):=λh=>O1 (G.dn n) 2 (by omega);rw[aaW cH _ _ _ aE]at he;cases ab:fS (G.dn n) 2
    ·rw[ab]at he;simp only[ab]at cU;rw[cV Ki.eq_1];simp only[ak,aq,ar,al,cb,am,bl,bf,i1,bY,cU];refine cy _ _ _ rfl pA ?_;rw[<-he];rfl
    ·rw[ab]at he;simp only[ab]at cU;rw[cV Ki.eq_1];simp only[ak,aq,ar,al,cb,am,bl,bf,i1,bY,cU,hw];exact next _ _ ⟨_,_,rfl,pA,he⟩
   ·rintro V F ⟨gJ,fz,rfl,pA,he⟩;have bf:¬(x.hC.length:Int)<(x.hC.length:Int):=by omega
    rw[sw]at he;rw[cV Ki.eq_1];simp only[ak,aq,ar,al,cb,am,bl,bf];refine cy _ _ _ rfl pA ?_;rw[<-he];rfl
  ·simp only[fY]at ax;simp only[if_true];refine l0 Qe rfl λQ cy=>?_;unfold Kk;simp only[ak,aq,ar,al,bt,bq,gX bq,au,an,ax];exact cy _ _ _ rfl (by repeat (first|exact aB.refl _|refine aB.trans ?_ (aB.push _ _)|refine aB.trans ?_ (aB.fresh _ _))) rfl
 ·rw[if_pos an];refine l0 Qe rfl λQ cy=>?_;unfold Kk;simp only[ak,aq,ar,al,bt,bq,gX bq,au,an];exact cy _ _ _ rfl (by repeat (first|exact aB.refl _|refine aB.trans ?_ (aB.push _ _)|refine aB.trans ?_ (aB.fresh _ _))) rfl
end
section
variable{h:ag}{ae ai:Nat->Prop}{b:Nat}{G:a0}
def Gd(aT:List Int)(G:a0)(x:av)(q:E⊕E):Prop:=((fO aT x G).2.2=0/\∃bj,q= .inl (.agg bj)/\bT (fO aT x G).2.1 bj)\/((fO aT x G).2.2≠0/\q= .inr (.iface xL (.int j (fO aT x G).2.2)))
theorem aaX(aT:List Int)(x:av)(l:List av)(G:a0):gv aT (x::l) G=if(fO aT x G).2.2≠0 then((fO aT x G).1,[],(fO aT x G).2.2) else((gv aT l (fO aT x G).1).1,(fO aT x G).2.1::(gv aT l (fO aT x G).1).2.1,(gv aT l (fO aT x G).1).2.2):=rfl
theorem aaY{l:List av}{i:Nat}{y:av}(h:l[i]? =o y):l.drop i=y::l.drop (i+1):=by obtain⟨af,rfl⟩:=fQ.1 h;exact va af
theorem apK{m:Nat}(a8:hn 3 dS (gl aT))(Z:aT.length<=1000000):∀(N:Nat) (x:av),kL x<=N->x.size<=100000->∀(r:List E) (h:ag) (ae ai:Nat->Prop) (G:a0),eX h ae ai b G->G.dE->m<h.n->¬ae m->h.cell m=o [[.ptr b 0 0,dS]]->bT x r->∃q F,aQ ap W 128 [.ptr m 0 0,.agg r] h=o (q,F)/\(Gd aT G x q/\fN h ae ai b F (fO aT x G).1):=by
 intro N;induction N with
 |zero=>intro x aw;have:=x.mf;omega
 |succ N aZ=>
   intro x aw eJ r h ae ai G g cH hm dt an he;obtain⟨v,es,rfl,ei,U,aE,eV⟩:=he.facts;have hlen:=x.p0;have gV:=Is aT x G;have rest:∀(Q:ls->Prop) (J:ag) (lF:a0) (fm:Int) (cB:List Nat) (dd:E),lF.dE->hd h ae ai b J lF [h.n+1+1,h.n+1,h.n] cB->J.cell h.n=o [[.int j x.kind,.int j x.n,v]]->J.cell (h.n+1)=o [[.int j 0,.int j 0,.aA]]->J.cell (h.n+1+1)=o [[.int j x.kind,.int j fm,.aA]]->(∀V F v,(iF V F [.cell O 3 3]).map iV=o v->(gv aT x.l lF).2.2=0->(∃bj,v= .agg bj/\bT (.mk x.kind fm (gv aT x.l lF).2.1) bj)->fN h ae ai b F (gv aT x.l lF).1->Q (o (.ret,V,F)))->(∀V F,(gv aT x.l lF).2.2≠0->fN h ae ai b F (gv aT x.l lF).1->Q (o (.panic (.iface xL (.int j (gv aT x.l lF).2.2)),V,F)))->Q (bB (aQ ap W) 11 (.e' FP::.bP []::.cm 0::[.bP [.ops [rE,CB],.ret]]) [.ptr m 0 0,.agg [.int j x.kind,.int j x.n,v],.ptr h.n 0 0,.ptr (h.n+1) 0 0,.ptr (h.n+1+1) 0 0,.az,dd,v,.int j es.length,.int j 0,.az] [] J):=by
    intro Q J lF fm cB dd QW Ge d1 d2 d3 hi fT;refine oe (λi V F=>∃b7 fz acc rows C cB cN er,V=[.ptr m 0 0,.agg [.int j x.kind,.int j x.n,v],.ptr h.n 0 0,.ptr (h.n+1) 0 0,.ptr (h.n+1+1) 0 0,b7,dd,v,.int j es.length,.int j (i:Nat),fz]/\cN.dE/\(hd h ae ai b F cN C cB/\h.n+1+1∈C/\h.n+1∈C/\h.n∈C)/\F.cell (h.n+1)=o [[.int j 0,.int j 0,.aA]]/\F.cell (h.n+1+1)=o [[.int j x.kind,.int j fm,acc]]/\sD bG cB F acc rows/\c8 er rows/\rows.length=i/\gv aT x.l lF=((gv aT (x.l.drop i) cN).1,er++(gv aT (x.l.drop i) cN).2.1,(gv aT (x.l.drop i) cN).2.2)) x.l.length ⟨_,_,_,[],_,cB,lF,[],rfl,QW,⟨Ge,by simp,by simp,by simp⟩,d2,d3,.inl ⟨rfl,rfl⟩,rfl,rfl,rfl⟩ ?_ ?_
    ·rintro i V F af ⟨b7,fz,acc,rows,C,cB,cN,er,rfl,oT,⟨a4,cL,c3,hY⟩,bu,cd,aX,ao,A0,aW⟩ next
     have bf:(i:Int)<(es.length:Int):=by rw[aE];omega
     obtain⟨y,bE⟩:=qS af;obtain⟨q,i1,gm,b3⟩:=eV i y bE;obtain⟨bt,bq⟩:=b3.one;have hw:=eL (n:=(i:Int)+1) (by omega) (by omega);have Gf:=a4.push [q];have ki:(F.push [q]).cell m=o [[.ptr b 0 0,dS]]:=(Gf.fe hm dt).trans an;have ft:(F.push [q]).cell (h.n+1)=o [[.int j 0,.int j 0,.aA]]:=(ir (a4.lt c3)).trans bu;have iM:(F.push [q]).cell (h.n+1+1)=o [[.int j x.kind,.int j fm,acc]]:=(ir (a4.lt cL)).trans cd;have Gg:sD bG cB (F.push [q]) acc rows:=aX;obtain⟨R,⟨bL,ax,bR⟩,nK,cE,c6,eb⟩:=Gf.KW (cF:=λR=>∃bL,aQ ap W 128 [.ptr m 0 0,.agg q] (F.push [q])=o (bL,R)/\Gd aT cN y bL) (cN:=(fO aT y cN).1) λdX ec ch Gc _=>by obtain⟨bL,R,ax,bR,d2⟩:=aZ y (by have:=av.mF (nb bE);omega) (by have:=av.ph (nb bE);omega) q (F.push [q]) dX ec cN ch oT (by have:=a4.n;simp only[ey];omega) (Gc m hm dt) ki b3;exact⟨R,⟨bL,ax,bR⟩,d2⟩
     rw[aaY bE,aaX]at aW;have f2:R.cell (h.n+1)=o [[.int j 0,.int j 0,.aA]]:=(cE _ (by simp[c3])).trans ft;have f3:R.cell (h.n+1+1)=o [[.int j x.kind,.int j fm,acc]]:=(cE _ (by simp[cL])).trans iM;rcases bR with⟨aN,bj,rfl,dH⟩|⟨aN,rfl⟩
     ·rw[if_neg (by simp[aN])]at aW;obtain⟨dW,e4⟩:=dH.one;obtain⟨ko,ah,QX,bc,aR,A1,bp,cA⟩:=aaS (e:=bG) nK (Gg.g2 eb) (row:=bj) dW (by rw[A0];omega);obtain⟨oR,ve⟩:=aR.cell;rw[cV FP.eq_1];simp only[ak,aq,ar,al,cb,bf,i1,gm,bt,bq,iM,ax,f3,dW,e4,bc,bp,oR,ve,hw];refine next _ _ ⟨_,_,_,_,_,QX,_,er++[(fO aT y cN).2.1],rfl,Eu aT y cN oT,⟨A1.set (by simp[cL]) _,by simp[cL],by simp[c3],by simp[hY]⟩,?_,k1,aR.g2 λ_ _=>rfl,ao.append dH,by simp[A0],?_⟩
      ·rw[eu (by omega),bp];exact f2
      ·rw[aW];simp
     ·rw[if_pos aN]at aW;rw[cV FP.eq_1];simp only[ak,aq,ar,al,cb,bf,i1,gm,bt,bq,iM,ax];have bM:(gv aT x.l lF).2.2=(fO aT y cN).2.2:=by rw[aW]
      have bL:(gv aT x.l lF).1=(fO aT y cN).1:=by rw[aW]
      rw[<-bM]at aN ⊢;exact fT _ _ aN (by rw[bL];exact nK.sC)
    ·rintro V F ⟨b7,fz,acc,rows,C,cB,cN,er,rfl,oT,⟨a4,cL,c3,hY⟩,bu,cd,aX,ao,A0,aW⟩;have bf:¬((x.l.length:Int)<(es.length:Int)):=by rw[aE];omega
     rw[sw]at aW;simp only[gv,n3]at aW;obtain⟨oR,ve⟩:=aX.cell;rw[cV FP.eq_1];simp only[ak,aq,ar,al,cb,bf,cd,bu,oR];refine hi _ _ (.agg [.int j x.kind,.int j fm,acc]) (by simp only[ak,hk,gf,hF,c2,sE,List.getD_cons_succ]) ?_ ⟨_,rfl,?_⟩ ?_
     ·rw[aW]
     ·rw[aW];exact bT.mk (x:=.mk x.kind fm er) aX.Cy ao
     ·rw[aW];exact(a4.set c3 _).sC
   have mH:=((hd.start g).push [[.int j x.kind,.int j x.n,v]]).push [[.int j 0,.int j 0,.aA]];have cL:=mH.push [[.int j x.kind,.int j x.n,.aA]];have kC:(((h.push [[.int j x.kind,.int j x.n,v]]).push [[.int j 0,.int j 0,.aA]]).push [[.int j x.kind,.int j x.n,.aA]]).cell m=o [[.ptr b 0 0,dS]]:=(cL.fe hm dt).trans an;refine WY (rB:=λq F=>Gd aT G x q/\fN h ae ai b F (fO aT x G).1) anz rfl λQ hi fT=>?_;unfold Zy;by_cases aD:x.kind=4
   ·have bC:jA aT G x.kind x.n=k2 aT G x.n:=by rw[jA,if_pos aD]
    rw[bC]at gV;rw[aD]at cL kC rest;obtain⟨R,⟨bL,ax,bR⟩,nK,cE,c6,eb⟩:=cL.KW (cF:=λR=>∃bL,aQ ap W 146 [.ptr m 0 0,.int j x.n] _=o (bL,R)/\QV aT G x.n bL) (cN:=(k2 aT G x.n).1) λdX ec ch Gc _=>by obtain⟨bL,R,ax,bR,d2⟩:=apH ch cH (by simp only[ey];omega) (Gc m hm dt) kC a8 Z x.n;exact⟨R,⟨bL,ax,bR⟩,d2⟩
    have f1:R.cell h.n=o [[.int j 4,.int j x.n,v]]:=(cE _ (by simp[ey])).trans tl;have f2:R.cell (h.n+1)=o [[.int j 0,.int j 0,.aA]]:=(cE _ (by simp[ey])).trans vQ;have f3:R.cell (h.n+1+1)=o [[.int j 4,.int j x.n,.aA]]:=(cE _ (by simp[ey])).trans vP;rw[aD]at gV;rcases bR with⟨aN,rfl⟩|⟨aN,rfl⟩
    ·rw[if_neg (by simp[aN])]at gV;simp only[ak,aq,ar,al,bW,U,aD,ax,f1,f3,eu (show h.n≠h.n+1+1 by omega),ei.len,ei.fits];refine rest Q _ (k2 aT G x.n).1 (k2 aT G x.n).2.1 _ _ (Vf aT G x.n cH) (nK.set (by simp[ey]) _) ?_ ?_ k1 (λV F bs e mo ao a7=>?_) (λV F mo a7=>?_)
     ·rw[eu (by omega)];exact f1
     ·rw[eu (by omega)];exact f2
     ·obtain⟨bj,rfl,ao⟩:=ao;rw[if_neg (by simp[mo])]at gV;refine hi _ _ _ e ⟨.inl ⟨by rw[gV],bj,rfl,by rw[gV];exact ao⟩,by rw[gV];exact a7⟩
     ·rw[if_pos mo]at gV;refine fT _ _ _ ⟨.inr ⟨by rw[gV];exact mo,by rw[gV]⟩,by rw[gV];exact a7⟩
    ·rw[if_pos aN]at gV;simp only[ak,aq,ar,al,bW,U,aD,ax];refine fT _ _ _ ⟨.inr ⟨by rw[gV];exact aN,by rw[gV]⟩,by rw[gV];exact nK.sC⟩
   ·have bC:jA aT G x.kind x.n=(G,x.n,0):=by rw[jA,if_neg aD]
    rw[bC]at gV;rw[if_neg (by simp)]at gV;simp only[ak,aq,ar,al,bW,U,aD,ei.len,ei.fits];refine rest Q _ G x.n _ _ cH cL tl vQ vP (λV F bs e mo ao a7=>?_) (λV F mo a7=>?_)
    ·obtain⟨bj,rfl,ao⟩:=ao;rw[if_neg (by simp[mo])]at gV;refine hi _ _ _ e ⟨.inl ⟨by rw[gV],bj,rfl,by rw[gV];exact ao⟩,by rw[gV];exact a7⟩
    ·rw[if_pos mo]at gV;refine fT _ _ _ ⟨.inr ⟨by rw[gV];exact mo,by rw[gV]⟩,by rw[gV];exact a7⟩
theorem e6:bT cv [.int j 0,.int j 0,.aA]:=by simp only[cv,bT];exact⟨_,[],rfl,.inl ⟨rfl,rfl⟩,rfl⟩
theorem apL(a8:hn 3 dS (gl aT))(Z:aT.length<=1000000):∀(N:Nat) (x:av),kL x<=N->x.size<=100000->∀(r:List E) (h:ag) (ae ai:Nat->Prop) (G:a0),eX h ae ai b G->G.dE->bT x r->∃v F,aQ ap W 156 [.ptr b 0 0,.agg r,dS] h=o (.inl v,F)/\((∃bj,v= .bU [.agg bj,.int j (fO aT x G).2.2]/\bT (fO aT x G).2.1 bj)/\fN h ae ai b F (fO aT x G).1):=by
 intro N;induction N with
 |zero=>intro x aw;have:=x.mf;omega
 |succ N aZ=>
   intro x aw eJ r h ae ai G g cH he;obtain⟨v,es,rfl,ei,U,aE,eV⟩:=he.facts;have hlen:=x.p0;have gV:=Is aT x G;have KY:=a8.len;have A2:=a8.fits;rw[fa]at KY;have rest:∀(Q:ls->Prop) (J:ag) (lF:a0) (fm:Int) (cB:List Nat) (eB fi gJ fz mK qb oS:E),lF.dE->hd h ae ai b J lF [h.n+1+1,h.n+1,h.n] cB->J.cell h.n=o [[.int j x.kind,.int j x.n,v]]->J.cell (h.n+1)=o [[.int j 0,.int j 0,.aA]]->J.cell (h.n+1+1)=o [[.int j x.kind,.int j fm,.aA]]->(∀V F v,(iF V F [.cell O 3 4,.v 5]).map iV=o v->(∃bj,v= .bU [.agg bj,.int j (gv aT x.l lF).2.2]/\bT (if(gv aT x.l lF).2.2≠0 then cv else .mk x.kind fm (gv aT x.l lF).2.1) bj)->fN h ae ai b F (gv aT x.l lF).1->Q (o (.ret,V,F)))->Q (bB (aQ ap W) 19 (.e' FR::.bP []::.cm 2::[.bP [.ops [sg,uY,p6],.ret]]) [.ptr b 0 0,.agg [.int j x.kind,.int j x.n,v],dS,.ptr h.n 0 0,.ptr (h.n+1) 0 0,.int j 0,.ptr (h.n+1+1) 0 0,eB,fi,gJ,fz,.int j 0,.az,.az,mK,qb,oS,.az,.az] [] J):=by
    intro Q J lF fm cB eB fi gJ fz mK qb oS QW Ge d1 d2 d3 hi;refine oe (λi V F=>∃hS j8 qV qW acc rows C cB cN er,V=[.ptr b 0 0,.agg [.int j x.kind,.int j x.n,v],dS,.ptr h.n 0 0,.ptr (h.n+1) 0 0,.int j 0,.ptr (h.n+1+1) 0 0,eB,fi,gJ,fz,.int j (i:Nat),hS,j8,mK,qb,oS,qV,qW]/\cN.dE/\(hd h ae ai b F cN C cB/\h.n+1+1∈C/\h.n+1∈C/\h.n∈C)/\(F.cell h.n=o [[.int j x.kind,.int j x.n,v]]/\F.cell (h.n+1)=o [[.int j 0,.int j 0,.aA]])/\F.cell (h.n+1+1)=o [[.int j x.kind,.int j fm,acc]]/\sD bG cB F acc rows/\c8 er rows/\rows.length=i/\gv aT x.l lF=((gv aT (x.l.drop i) cN).1,er++(gv aT (x.l.drop i) cN).2.1,(gv aT (x.l.drop i) cN).2.2)) x.l.length ⟨_,_,_,_,_,[],_,cB,lF,[],rfl,QW,⟨Ge,by simp,by simp,by simp⟩,⟨d1,d2⟩,d3,.inl ⟨rfl,rfl⟩,rfl,rfl,rfl⟩ ?_ ?_
    ·rintro i V F af ⟨hS,j8,qV,qW,acc,rows,C,cB,cN,er,rfl,oT,⟨a4,cL,c3,hY⟩,⟨aP,bu⟩,cd,aX,ao,A0,aW⟩ next
     have bf:(i:Int)<(es.length:Int):=by rw[aE];omega
     obtain⟨y,bE⟩:=qS af;obtain⟨q,i1,gm,b3⟩:=eV i y bE;have hw:=eL (n:=(i:Int)+1) (by omega) (by omega);obtain⟨R,⟨cn,ax,bj,rfl,dH⟩,nK,cE,c6,eb⟩:=a4.call (cF:=λR=>∃cn,aQ ap W 156 [.ptr b 0 0,.agg q,dS] F=o (.inl cn,R)/\∃bj,cn= .bU [.agg bj,.int j (fO aT y cN).2.2]/\bT (fO aT y cN).2.1 bj) (cN:=(fO aT y cN).1) λdX ec ch=>by obtain⟨cn,R,ax,bR,d2⟩:=aZ y (by have:=av.mF (nb bE);omega) (by have:=av.ph (nb bE);omega) q F dX ec cN ch oT b3;exact⟨R,⟨cn,ax,bR⟩,d2⟩
     rw[aaY bE,aaX]at aW;obtain⟨dW,e4⟩:=dH.one;have f1:R.cell h.n=o [[.int j x.kind,.int j x.n,v]]:=(cE _ hY).trans aP;have f2:R.cell (h.n+1)=o [[.int j 0,.int j 0,.aA]]:=(cE _ c3).trans bu;have f3:R.cell (h.n+1+1)=o [[.int j x.kind,.int j fm,acc]]:=(cE _ cL).trans cd;have Gf:=nK.push [bj];have dA:(R.push [bj]).cell h.n=o [[.int j x.kind,.int j x.n,v]]:=(ir (nK.lt hY)).trans f1;have ft:(R.push [bj]).cell (h.n+1)=o [[.int j 0,.int j 0,.aA]]:=(ir (nK.lt c3)).trans f2;have iM:(R.push [bj]).cell (h.n+1+1)=o [[.int j x.kind,.int j fm,acc]]:=(ir (nK.lt cL)).trans f3;by_cases aN:(fO aT y cN).2.2=0
     ·rw[if_neg (by simp[aN])]at aW;have Gg:sD bG cB (R.push [bj]) acc rows:=aX.g2 eb;obtain⟨ko,ah,QX,bc,aR,A1,bp,cA⟩:=aaS (e:=bG) Gf Gg (row:=bj) dW (by rw[A0];omega);simp only[i4]at bc;obtain⟨oR,ve⟩:=aR.cell;rw[aN]at ax;rw[cV FR.eq_1];simp only[ak,aq,ar,al,cb,aP,ei.len,ei.fits,bf,i1,gm,ax,dW,e4,gX e4,iM,bc,bp,oR,ve,hw];refine next _ _ ⟨_,_,_,_,_,_,_,QX,_,er++[(fO aT y cN).2.1],rfl,Eu aT y cN oT,⟨A1.set (by simp[cL]) _,by simp[cL],by simp[c3],by simp[hY]⟩,⟨?_,?_⟩,k1,aR.g2 λ_ _=>rfl,ao.append dH,by simp[A0],?_⟩
      ·rw[eu (by omega),bp];exact dA
      ·rw[eu (by omega),bp];exact ft
      ·rw[aW];simp
     ·rw[if_pos aN]at aW;have bM:(gv aT x.l lF).2.2=(fO aT y cN).2.2:=by rw[aW]
      have bL:(gv aT x.l lF).1=(fO aT y cN).1:=by rw[aW]
      rw[cV FR.eq_1];simp only[ak,aq,ar,al,cb,aP,ei.len,ei.fits,bf,i1,gm,ax,dW,e4,aN,ft];refine hi _ _ (.bU [.agg [.int j 0,.int j 0,.aA],.int j (fO aT y cN).2.2]) (by simp only[ak,aq]) ⟨_,by rw[bM],?_⟩ ?_
      ·rw[if_pos (by rw[bM];exact aN)];exact e6
      ·rw[bL];exact(Gf.set (by simp[c3]) _).sC
    ·rintro V F ⟨hS,j8,qV,qW,acc,rows,C,cB,cN,er,rfl,oT,⟨a4,cL,c3,hY⟩,⟨aP,bu⟩,cd,aX,ao,A0,aW⟩;have bf:¬((x.l.length:Int)<(es.length:Int)):=by rw[aE];omega
     rw[sw]at aW;simp only[gv,n3]at aW;obtain⟨oR,ve⟩:=aX.cell;rw[cV FR.eq_1];simp only[ak,aq,ar,al,cb,aP,ei.len,ei.fits,bf,cd,bu,oR];refine hi _ _ (.bU [.agg [.int j x.kind,.int j fm,acc],.int j 0]) (by simp only[ak,aq]) ⟨_,by rw[aW],?_⟩ ?_
     ·rw[aW];exact bT.mk (x:=.mk x.kind fm er) aX.Cy ao
     ·rw[aW];exact(a4.set c3 _).sC
   have cL:=(((hd.start g).push [[.int j x.kind,.int j x.n,v]]).push [[.int j 0,.int j 0,.aA]]).push [[.int j x.kind,.int j x.n,.aA]];refine WX (cF:=λv F=>(∃bj,v= .bU [.agg bj,.int j (fO aT x G).2.2]/\bT (fO aT x G).2.1 bj)/\fN h ae ai b F (fO aT x G).1) anA rfl λQ hi=>?_;unfold ZC;by_cases aD:x.kind=4
   ·have bC:jA aT G x.kind x.n=k2 aT G x.n:=by rw[jA,if_pos aD]
    rw[bC]at gV;rw[aD]at cL rest gV;simp only[ak,aq,ar,al,bW,U,aD];refine oe (λi V F=>∃gJ fz qb oS cN b',V=[.ptr b 0 0,.agg [.int j 4,.int j x.n,v],dS,.ptr h.n 0 0,.ptr (h.n+1) 0 0,.int j 0,.ptr (h.n+1+1) 0 0,.int j b',.int j (i:Nat),gJ,fz,.az,.az,.az,.bool O,qb,oS,.az,.az]/\cN.dE/\hd h ae ai b F cN [h.n+1+1,h.n+1,h.n] []/\(F.cell h.n=o [[.int j 4,.int j x.n,v]]/\F.cell (h.n+1)=o [[.int j 0,.int j 0,.aA]]/\F.cell (h.n+1+1)=o [[.int j 4,.int j x.n,.aA]])/\k2 (aT.drop i) cN b'=k2 aT G x.n) aT.length ⟨_,_,_,_,G,x.n,rfl,cH,cL,⟨tl,vQ,vP⟩,rfl⟩ ?_ ?_
    ·rintro i V F af ⟨gJ,fz,qb,oS,cN,b',rfl,oT,a4,⟨aP,bu,cd⟩,aW⟩ next
     have bf:(i:Int)<(aT.length:Int):=by omega
     have hw:=eL (n:=(i:Int)+1) (by omega) (by omega);obtain⟨k,np⟩:∃k,aT[i]? =o k:=⟨_,fr af⟩;have i1:=a8.bV j i [.int j k] (by simp[np]);have a7:aT.drop i=k::aT.drop (i+1):=by obtain⟨eR,rfl⟩:=fQ.1 np;exact va eR
     obtain⟨R,ax,nK,cE, -, -⟩:=a4.call λae ai g=>QS g oT b' 15 k;rw[a7,aaV]at aW;have f1:R.cell h.n=o [[.int j 4,.int j x.n,v]]:=(cE _ (by simp)).trans aP;have f2:R.cell (h.n+1)=o [[.int j 0,.int j 0,.aA]]:=(cE _ (by simp)).trans bu;have f3:R.cell (h.n+1+1)=o [[.int j 4,.int j x.n,.aA]]:=(cE _ (by simp)).trans cd;by_cases aN:(cN.derive b' 15 k).2.2=0
     ·rw[if_neg (by simp[aN])]at aW;rw[aN]at ax;rw[cV Kl.eq_1];simp only[ak,aq,ar,al,cb,KY,A2,bf,i1,ax,hw];exact next _ _ ⟨_,_,_,_,_,_,rfl,oT.derive _ _ _,nK,⟨f1,f2,f3⟩,aW⟩
     ·rw[if_pos aN]at aW;have mo:(k2 aT G x.n).2.2≠0:=by rw[<-aW];exact aN
      rw[if_pos mo]at gV;rw[cV Kl.eq_1];simp only[ak,aq,ar,al,cb,KY,A2,bf,i1,ax,aN,f2];refine hi _ _ (.bU [.agg [.int j 0,.int j 0,.aA],.int j (cN.derive b' 15 k).2.2]) (by simp only[ak,aq]) ⟨⟨_,by rw[gV,<-aW],?_⟩,?_⟩
      ·rw[gV];exact e6
      ·rw[gV,<-aW];exact(nK.set (by simp) _).sC
    ·rintro V F ⟨gJ,fz,qb,oS,cN,b',rfl,oT,a4,⟨aP,bu,cd⟩,aW⟩;have bf:¬(aT.length:Int)<(aT.length:Int):=by omega
     rw[sw]at aW;have aN:(k2 aT G x.n).2.2=0:=by rw[<-aW];rfl
     have ri:(k2 aT G x.n).2.1=b':=by rw[<-aW];rfl
     have apM:(k2 aT G x.n).1=cN:=by rw[<-aW];rfl
     rw[if_neg (by simp[aN]),apM,ri]at gV;rw[cV Kl.eq_1];simp only[ak,aq,ar,al,bW,cb,KY,A2,bf,cd];refine rest Q _ cN b' _ _ _ _ _ _ _ _ oT (a4.set (by simp) _) ?_ ?_ k1 (λV gF bs e ao a7=>?_)
     ·rw[eu (by omega)];exact aP
     ·rw[eu (by omega)];exact bu
     ·obtain⟨bj,rfl,ao⟩:=ao;by_cases mo:(gv aT x.l cN).2.2=0
      ·rw[if_neg (by simp[mo])]at ao gV;exact hi _ _ _ e ⟨⟨bj,by rw[gV,mo],by rw[gV];exact ao⟩,by rw[gV];exact a7⟩
      ·rw[if_pos mo]at ao gV;exact hi _ _ _ e ⟨⟨bj,by rw[gV],by rw[gV];exact ao⟩,by rw[gV];exact a7⟩
   ·have bC:jA aT G x.kind x.n=(G,x.n,0):=by rw[jA,if_neg aD]
    rw[bC]at gV;rw[if_neg (by simp)]at gV;simp only[ak,aq,ar,al,bW,U,aD];refine rest Q _ G x.n _ _ _ _ _ _ _ _ cH cL tl vQ vP (λV gF bs e ao a7=>?_);obtain⟨bj,rfl,ao⟩:=ao;by_cases mo:(gv aT x.l G).2.2=0
    ·rw[if_neg (by simp[mo])]at ao gV;exact hi _ _ _ e ⟨⟨bj,by rw[gV,mo],by rw[gV];exact ao⟩,by rw[gV];exact a7⟩
    ·rw[if_pos mo]at ao gV;exact hi _ _ _ e ⟨⟨bj,by rw[gV],by rw[gV];exact ao⟩,by rw[gV];exact a7⟩
theorem apN(a8:hn 3 dS (gl aT))(Z:aT.length<=1000000){x:av}{r:List E}(g:eX h ae ai b G)(cH:G.dE)(aw:bT x r):∃F,(∃bj,aQ ap W 140 [.ptr b 0 0,.agg r,dS] h=o (.inl (.bU [.agg bj,.int j (fC aT G x).2.2]),F)/\bT (fC aT G x).2.1 bj)/\fN h ae ai b F (fC aT G x).1:=by
 obtain⟨bt,bq⟩:=aw.one;have cL:=((hd.start g).push [r]).push [[.int j 0,.int j 0,.aA]];obtain⟨dX,ec,ch⟩:=cL.aaR;have au:=apJ ch cH aw;suffices key:∃v F,aQ ap W 140 [.ptr b 0 0,.agg r,dS] h=o (.inl v,F)/\((∃bj,v= .bU [.agg bj,.int j (fC aT G x).2.2]/\bT (fC aT G x).2.1 bj)/\fN h ae ai b F (fC aT G x).1) by obtain⟨_,F,e,⟨bj,rfl,R⟩,ah⟩:=key;exact⟨F,⟨bj,e,R⟩,ah⟩
 refine WX (cF:=λv F=>(∃bj,v= .bU [.agg bj,.int j (fC aT G x).2.2]/\bT (fC aT G x).2.1 bj)/\fN h ae ai b F (fC aT G x).1) LT rfl λQ hi=>?_;unfold ZD;by_cases aN:pj G x=0
 ·have aX:fC aT G x=fO aT x G:=by rw[fC,if_neg (by simp[aN])]
  rw[aX]at hi;rw[aN]at au;have aC:x.size<=100000:=by
   have:x.code=0:=by
    unfold pj at aN;split at aN
    ·exact aN
    ·rename_i an;simpa using an
   have:=KX this;omega
  obtain⟨R,⟨cn,ax,bj,rfl,dH⟩,nK,cE,c6,eb⟩:=cL.call (cF:=λR=>∃cn,aQ ap W 156 [.ptr b 0 0,.agg r,dS] _=o (.inl cn,R)/\∃bj,cn= .bU [.agg bj,.int j (fO aT x G).2.2]/\bT (fO aT x G).2.1 bj) (cN:=(fO aT x G).1) λdX ec ch=>by obtain⟨cn,R,ax,bR,d2⟩:=apL a8 Z _ x (b4 _) aC r _ dX ec G ch cH aw;exact⟨R,⟨cn,ax,bR⟩,d2⟩
  have f2:R.cell (h.n+1)=o [[.int j 0,.int j 0,.aA]]:=(cE _ (by simp[ey])).trans yG;obtain⟨dW,e4⟩:=dH.one;simp only[ak,aq,ar,al,bt,bq,gX bq,au,ax,dW,e4,f2];exact hi _ _ (.bU [.agg bj,.int j (fO aT x G).2.2]) (by simp only[ak,gX e4]) ⟨⟨_,rfl,dH⟩,(nK.set (by simp[ey]) _).sC⟩
 ·have aX:fC aT G x=(G,cv,pj G x):=by rw[fC,if_pos aN]
  rw[aX]at hi;simp only[ak,aq,ar,al,bt,bq,gX bq,au,aN];exact hi _ _ (.bU [.agg [.int j 0,.int j 0,.aA],.int j (pj G x)]) (by simp only[ak,aq]) ⟨⟨_,rfl,e6⟩,cL.sC⟩
end
def A3(bw aO bk:Nat)(left:Int):b6:=aY bw [[.ptr aO 0 0,.bn bk 0 0 fH,.int j left]]
section
variable{h F aj:ag}{ae ai aJ aG:Nat->Prop}{L:List b6}{bw aO bk:Nat}{left:Int}{below:List iO}{top:iO}
theorem QY:∀{rs:List (List E)} {dD:List iO} {r:List E} {f:iO} {h:ag} {ae ai:Nat->Prop},rs.length=dD.length->((sm (rs++[r]) (dD++[f])).A h ae ai↔(it (At r f) (sm rs dD)).A h ae ai)
 |[],[],r,f,h,ae,ai,_=>nF
 |q::rs,g::dD,r,f,h,ae,ai,am=>by
   have aZ:∀{h:ag} {ae ai:Nat->Prop},(sm (rs++[r]) (dD++[f])).A h ae ai↔(it (At r f) (sm rs dD)).A h ae ai:=QY (by simpa using am);constructor
   ·intro x;exact yX (rD (λ_ _ _ y=>y) (λ_ _ _ y=>aZ.1 y) x)
   ·intro x;exact rD (λ_ _ _ y=>y) (λ_ _ _ y=>aZ.2 y) (yX x)
 |[],_::_,_,_,_,_,_,am=>by simp at am
 |_::_,[],_,_,_,_,_,am=>by simp at am
structure QZ(h:ag)(bw aO bk:Nat)(left:Int)(below:List iO)(top:iO)(a:List E)(dm aL g:E):Prop where
 m:h.cell bw=o [[.ptr aO 0 0,.bn bk 0 (below.length+1) fH,.int j left]]
 axv:bw<h.n
 rd:∀(n D:Nat) (v:E),(g7 top a dm aL g)[D]? =o v->cS T n h (.ptr bk below.length D)=o v
 arg:cS O 3 h (.ptr bk below.length 3)=o (.agg a)
 all:cS O 10 h (.ptr bk below.length 0)=o (.agg (g7 top a dm aL g))
 aX:bT top.arg a
 a8:fo 3 g (gl top.eW)
 dm:dm.one=O/\dm.cells=[dm]/\hX dm=o top.stack.length/\∀s,j3 s (o bG) dm=O
 aL:aL.one=O/\aL.cells=[aL]/\hX aL=o top.names.length/\(∀s,j3 s (o bG) aL=O)/\∀(q:gx) (i:Nat) (y:av),top.names[i]? =o y->∃p r,dO (o bG) ad aL (.int q (i:Int))=o p/\cS O 3 h p=o (.agg r)/\bT y r
 apO:bk<h.n
theorem pB(gG:aK aj aJ aG h L)(i:Nat)(af:L[i]? =o (jc bw aO bk left below top)):∃a dm aL g,QZ h bw aO bk left below top a dm aL g:=by
 obtain⟨ae,ai,x⟩:=gG.get i af;obtain⟨rs,ex,a,dm,aL,g,gP,aX,a8,s⟩:=Au x;have bM:=(s.cell 1 rfl).1;have i5:=oP top a dm aL g aX.cD.1;obtain⟨ez,eA,b3⟩:=s.get 2 rfl;obtain⟨dX,ec,dH⟩:=s.get 3 rfl;have bH:=Aw b3;have bR:=Aw dH;refine⟨a,dm,aL,g,(s.cell 0 rfl).1,(s.cell 0 rfl).2,λn D v U=>FV bM gP U,?_,?_,aX,a8,⟨bH.1,bH.2.1,bH.2.2.1,bH.2.2.2.1⟩,bR,(s.cell 1 rfl).2⟩
 ·rw[fL,bM,c2,FU gP,c2];unfold gO;rw[if_pos rfl,if_pos (by rw[i5.2.1];decide)]
  match a,aX.cD.1 with
  |[x,y,z],_=>rfl
 ·rw[fL,bM,c2,FU gP,c2];exact gX i5.2.1
theorem Q0(gG:aK aj aJ aG h L)(i:Nat)(af:L[i]? =o (jc bw aO bk left below top))(bO:Nat):∃F,eQ 1 h (.ptr bk below.length 2) (.int j (bO:Int))=o F/\aK aj aJ aG F (L.set i (jc bw aO bk left below {top with bO:=bO})):=by refine gG.call (cF:=λF=>eQ 1 h (.ptr bk below.length 2) (.int j (bO:Int))=o F) i af λae ai x=>?_;obtain⟨rs,ex,a,dm,aL,g,gP,aX,a8,s⟩:=Au x;have i5:=oP top a dm aL g aX.cD.1;have ao:(g7 top a dm aL g).set 2 (.int j (bO:Int))=g7 {top with bO:=bO} a dm aL g:=rfl;have bg:=s.set 1 rfl (rs++g7 {top with bO:=bO} a dm aL g::ex);exact⟨_,Kr (s.cell 1 rfl).1 gP rfl rfl (by rw[i5.2.1];decide) ao,CA (top:={top with bO:=bO}) aX a8 bg⟩
theorem apP(gG:aK aj aJ aG h L)(i:Nat)(af:L[i]? =o (jc bw aO bk left below top))(l:Int):∃F,eQ 1 h (.ptr bw 0 2) (.int j l)=o F/\aK aj aJ aG F (L.set i (jc bw aO bk l below top)):=by refine gG.call (cF:=λF=>eQ 1 h (.ptr bw 0 2) (.int j l)=o F) i af λae ai x=>?_;obtain⟨rs,ex,a,dm,aL,g,gP,aX,a8,s⟩:=Au x;have bg:=s.set 0 rfl [[.ptr aO 0 0,.bn bk 0 (below.length+1) fH,.int j l]];exact⟨_,lc (s.cell 0 rfl).1 rfl rfl rfl (by simp),CA aX a8 bg⟩
theorem aaZ(f:iO)(a:List E)(s n g b':E)(iH:List av)(aX:a.length=3):(g7 f a s n g).set 7 b'=g7 {f with names:=iH} a s b' g:=by
 match a,aX with
 |[x,y,z],_=>rfl
theorem apQ(gG:aK aj aJ aG h L)(i:Nat)(af:L[i]? =o (jc bw aO bk left below top)){iH:List av}{v:av}(aE:top.names=iH++[v]){a:List E}{dm aL g:E}(U:QZ h bw aO bk left below top a dm aL g):∃mL F,wP aL ad (o (.int j (iH.length:Int)))=o mL/\mL.one=O/\mL.cells=[mL]/\eQ 1 h (.ptr bk below.length 7) mL=o F/\aK aj aJ aG F (L.set i (jc bw aO bk left below {top with names:=iH})):=by
 obtain⟨F,mL,⟨au,ax,bc,bY⟩,ew⟩:=gG.y4 (cF:=λF mL=>wP aL ad (o (.int j (iH.length:Int)))=o mL/\mL.one=O/\mL.cells=[mL]/\eQ 1 h (.ptr bk below.length 7) mL=o F) i af (Y:=λ_=>jc bw aO bk left below {top with names:=iH}) λae ai x=>by
  obtain⟨rs,ex,eP,zj,mL,fu,gP,aX,a8,s⟩:=Au x;have i5:=oP top eP zj mL fu aX.cD.1;have zk:=FV (n:=1) (s.cell 1 rfl).1 gP i5.2.2.1;have tM:=U.rd 1 7 aL (oP top a dm aL g U.aX.cD.1).2.2.1;rw[zk]at tM;injection tM with tM;subst tM;obtain⟨ez,eA,b3⟩:=s.get 3 rfl;rw[aE]at b3;obtain⟨b,ab⟩:=EQ b3 (by simp);rw[ff,gM]at ab;subst ab;have bg:=s.set 1 rfl (rs++g7 {top with names:=iH} eP zj (.bn b 0 iH.length bG) fu::ex);have aV:aK h ae ai _ (E8 bw aO bk left below {top with names:=iH} rs ex eP zj (.bn b 0 iH.length bG) fu):=bg.Xr 3 rfl λ_ _ _ x=>by rw[aE]at x;exact Xq x
  exact⟨_,.bn b 0 iH.length bG,⟨Qj (by omega),rfl,rfl,Kr (s.cell 1 rfl).1 gP rfl rfl (by rw[i5.2.1];decide) (aaZ _ _ _ _ _ _ iH aX.cD.1)⟩,CA (top:={top with names:=iH}) aX a8 aV⟩
 exact⟨mL,F,au,ax,bc,bY,ew⟩
theorem aa0{b n:Nat}{l:List av}(x:(h4 (.bn b 0 n bG) l).A h ae ai){i:Nat}(af:i<l.length){v:av}{r:List E}(U:bT v r):∃F,eQ 3 h (.ptr b i 0) (.agg r)=o F/\gw h ae ai F (h4 (.bn b 0 n bG) (l.set i v)):=by
 obtain⟨rows,am,x⟩:=x;have hlen:=am.len;rcases x with⟨⟨_,e⟩,_⟩|⟨⟨gz,es⟩,⟨e,J,R⟩,aR,a5,bp,cA⟩
 ·cases e
 ·injection e with au _ ax _;simp only at au J R aR bp cA;subst au;have apR:i<rows.length:=by omega
  have Hn:i<es.length:=by omega
  obtain⟨q,aW⟩:∃q,es[i]? =o q:=⟨_,fr Hn⟩;have yI:q.length=3:=by
   have bo:rows[i]? =o q:=by
    conv=>lhs;rw[R]
    rw[uv apR];exact aW
   obtain⟨y,bE⟩:∃y,l[i]? =o y:=⟨_,fr af⟩;obtain⟨bj,b9,c4⟩:=am.get bE;rw[bo]at b9;injection b9 with b9;rw[b9];exact c4.cD.1
  have bS:dh q 0 r=r:=by unfold dh;rw[List.take_zero,lQ,List.drop_of_length_le (by have:=U.cD.1;omega),n3]
  have F8:∀{l:List av} {rows:List (List E)} {i:Nat},c8 l rows->i<l.length->c8 (l.set i v) (rows.set i r):=by
   intro l;induction l with
   |nil=>intro rows i _ af;simp at af
   |cons y l aZ=>
     intro rows i am af;obtain⟨gD,rs,rfl,bM,bL⟩:=am;cases i with
     |zero=>exact⟨r,rs,rfl,U,bL⟩
     |succ i=>exact⟨gD,rs.set i r,rfl,bM,aZ bL (by simpa using af)⟩
  refine⟨_,lc (es:=es) (e:=q) cA aW U.cD.2 U.cD.1 (by omega),ae,ai,⟨rows.set i r,F8 am af,.inr ⟨⟨b,es.set i r⟩,⟨by simp only[List.length_set,ax],by simpa using J,?_⟩,aR,a5,bp,?_⟩⟩,⟨b4 _,b4 _,λk _ Z=>eu λe=>Z ((aR k).2 e),λ_ _ _=>rfl⟩,λ_=>.inl,λ_=>.inl⟩
  ·simp only[List.length_set];rw[List.take_set]
   conv=>lhs;rw[R]
  ·simp only[E.cells,bS];exact k1
theorem aa1{n b i off:Nat}{h F:ag}{r:List E}(aC:eQ n h (.ptr b i off) (.agg r)=o F):cS O n F (.ptr b i off)=o (.agg r):=by
 unfold eQ at aC;simp only[dK]at aC;obtain⟨es,R,e,ah,aD⟩:=aC;split at aD
 ·rename_i an;injection aD with aD;subst aD;have af:=(fQ.1 ah).1;have bu:=an.2.1;simp only[E.cells]at bu;rw[fL,k1,c2,List.getElem?_set_self af,c2];have am:=z1 e r off (by omega);simp only[E.cells,gO,if_true];have:((dh e off r).drop off).take n=r:=by unfold dh;rw[k',List.drop_left' (by simp;omega),List.take_left' bu]
  rw[this];exact if_pos (by omega)
 ·cases aD
theorem apS(gG:aK aj aJ aG h L)(i:Nat)(af:L[i]? =o (jc bw aO bk left below top)){v:av}{r:List E}(U:bT v r)(am:top.names.length<=1000000){jF:Nat}(aN:h.cell jF=o [aU]){a:List E}{dm aL g:E}(a4:QZ h bw aO bk left below top a dm aL g):∃q J R ah,eU O bG aL (.bn jF 0 1 bG) h=o (.bn q 0 (top.names.length+1) bG,J)/\eQ 3 J (.ptr q top.names.length 0) (.agg r)=o R/\eQ 1 R (.ptr bk below.length 7) (.bn q 0 (top.names.length+1) bG)=o ah/\cS O 3 ah (.ptr q top.names.length 0)=o (.agg r)/\aK aj aJ aG ah (L.set i (jc bw aO bk left below {top with names:=top.names++[v]})):=by
 have zT:bT cv aU:=e6;obtain⟨ah,⟨q,J,R⟩,⟨au,ax,bc,bY⟩,ew⟩:=gG.y4 (cF:=λah (q:Nat×ag×ag)=>eU O bG aL (.bn jF 0 1 bG) h=o (.bn q.1 0 (top.names.length+1) bG,q.2.1)/\eQ 3 q.2.1 (.ptr q.1 top.names.length 0) (.agg r)=o q.2.2/\eQ 1 q.2.2 (.ptr bk below.length 7) (.bn q.1 0 (top.names.length+1) bG)=o ah/\cS O 3 ah (.ptr q.1 top.names.length 0)=o (.agg r)) i af (Y:=λ_=>jc bw aO bk left below {top with names:=top.names++[v]}) λae ai x=>by
  obtain⟨rs,ex,eP,zj,mL,fu,gP,aX,a8,s⟩:=Au x;have i5:=oP top eP zj mL fu aX.cD.1;have zk:=FV (n:=1) (s.cell 1 rfl).1 gP i5.2.2.1;have tM:=a4.rd 1 7 aL (oP top a dm aL g a4.aX.cD.1).2.2.1;rw[zk]at tM;injection tM with tM;subst tM;obtain⟨J,au,bg⟩:=s.app 3 rfl aN zT am;obtain⟨R,ax,aV⟩:=bg.call (cF:=λR=>eQ 3 J (.ptr h.n top.names.length 0) (.agg r)=o R) 3 rfl λae ai x=>aa0 x (i:=top.names.length) (by simp) U;rw[show(top.names++[cv]).set top.names.length v=top.names++[v] from OX top.names [] cv v rfl]at aV;have st:=Kr (v:=.bn h.n 0 (top.names.length+1) bG) (aV.cell 1 rfl).1 gP rfl rfl (by rw[i5.2.1];decide) (aaZ _ _ _ _ _ _ (top.names++[v]) aX.cD.1);have br:=aV.set 1 rfl (rs++g7 {top with names:=top.names++[v]} eP zj (.bn h.n 0 (top.names.length+1) bG) fu::ex);obtain⟨tw,tx,hI⟩:=br.get 3 rfl;obtain⟨p,bj,dA,ft,iM⟩:=(Aw hI).2.2.2.2 j top.names.length v (WZ top.names [] v rfl);refine⟨_,(h.n,J,R),⟨au,ax,st,?_⟩,CA (top:={top with names:=top.names++[v]}) aX a8 br⟩;obtain⟨y0,y1,ha⟩:=aV.get 3 rfl;have di:bk≠h.n:=by have:=(s.cell 1 rfl).2;omega
  rw[fL,eu (lP di),<-fL (agg:=O) (n:=3)];exact aa1 ax
 exact⟨q,J,R,ah,au,ax,bc,bY,ew⟩
theorem Q1(x:(jc bw aO bk left below top).A h ae ai):∃rs ex row,rs.length=below.length/\row.length=10/\row.all E.one=O/\aK h ae ai h [aY bw [[.ptr aO 0 0,.bn bk 0 (below.length+1) fH,.int j left]],aY bk (rs++row::ex),At row top,sm rs below]:=by
 obtain⟨⟨rs,row,ex⟩,x⟩:=x;obtain⟨ez,eA,dX,ec,b3,⟨pm,pn,tw,tx,f',⟨y0,y1,y2,y3,ha,jw,Av⟩,jV⟩,bR⟩:=x;have apT:=ha;obtain⟨⟨a,s,n,g⟩,⟨e,aX,a8⟩,y⟩:=apT;simp only at e;have i5:=oP top a s n g aX.cD.1;obtain⟨_,_,_,_,fs,jy,_⟩:=y;have k7:g.one=O:=by have a8:fo _ g _:=a8;rcases a8 with⟨_,rfl⟩|⟨id,rfl⟩<;>rfl
 refine⟨rs,ex,row,Pf jw,by rw[e];exact i5.2.1,by rw[e];exact Kq aX.cD (Aw fs).1 (Aw jy).1 k7,aK.start ?_⟩;exact⟨ez,eA,dX,ec,b3,⟨pm,pn,tw,tx,f',⟨y0,y1,y2,y3,ha,cf.one jw,Av⟩,jV⟩,bR⟩
theorem aa2{rs ex:List (List E)}(s:aK aj aJ aG h [aY bw [[.ptr aO 0 0,.bn bk 0 (below.length+1) fH,.int j left]],aY bk (rs++row::ex),At row top,sm rs below]):gw aj aJ aG h (jc bw aO bk left below top):=gw.imp (λ_ _ _ x=>by obtain⟨ez,eA,dX,ec,b3,⟨pm,pn,tw,tx,f',⟨y0,y1,y2,y3,ha,jw,Av⟩,jV⟩,bR⟩:=x;exact⟨⟨rs,row,ex⟩,ez,eA,dX,ec,b3,⟨pm,pn,tw,tx,f',⟨y0,y1,y2,y3,ha,cf.Cz jw,Av⟩,jV⟩,bR⟩) s
theorem aa3{a:List E}{g:E}(aX:bT f.arg a)(a8:fo 3 g (gl f.eW))(aC:f.stack=[])(aE:f.names=[]):(At (g7 f a .aA .aA g) f).A h (λ_=>False) (λ_=>False):=by
 have e:∀(l:List av),l=[]->(h4 .aA l).A h (λ_=>False) (λ_=>False):=λl am=>by subst am;exact⟨[],rfl,.inl ⟨⟨rfl,rfl⟩,λ_ h=>h,λ_ h=>h⟩⟩
 exact⟨⟨a,.aA,.aA,g⟩,⟨rfl,aX,a8⟩,λ_=>False,λ_=>False,λ_=>False,λ_=>False,e _ aC,e _ aE,λk=>by simp,λD=>by simp,λ_ h=>h.elim,λ_ h=>h.elim⟩
theorem aK.front{X:b6}(s:aK aj aJ aG h L)(i:Nat)(af:L[i]? =o X):aK aj aJ aG h (X::L.eraseIdx i):=s.imp λ_ _ _ x=>(cf.front af).1 x
theorem apU(gG:aK aj aJ aG h L)(i:Nat)(af:L[i]? =o (jc bw aO bk left below top)){a:List E}{g:E}(aX:bT f.arg a)(a8:fo 3 g (gl f.eW))(aC:f.stack=[])(aE:f.names=[])(ab:below.length<=1000){jF:Nat}(aN:h.cell jF=o [g7 f a .aA .aA g]):∃J R,eU O fH (.bn bk 0 (below.length+1) fH) (.bn jF 0 1 fH) h=o (.bn h.n 0 (below.length+2) fH,J)/\eQ 1 J (.ptr bw 0 1) (.bn h.n 0 (below.length+2) fH)=o R/\aK aj aJ aG R (L.set i (jc bw aO h.n left (below++[top]) f)):=by
 obtain⟨R,J,⟨au,ax⟩,ew⟩:=gG.y4 (cF:=λR J=>eU O fH (.bn bk 0 (below.length+1) fH) (.bn jF 0 1 fH) h=o (.bn h.n 0 (below.length+2) fH,J)/\eQ 1 J (.ptr bw 0 1) (.bn h.n 0 (below.length+2) fH)=o R) i af (Y:=λ_=>jc bw aO h.n left (below++[top]) f) λae ai x=>by
  obtain⟨rs,ex,row,gP,aa4,aF,s⟩:=Q1 x;have aP:=(s.cell 1 rfl).1;have i5:=oP f a .aA .aA g aX.cD.1;have k7:g.one=O:=by rcases a8 with⟨_,rfl⟩|⟨id,rfl⟩<;>rfl
  have pP:([g7 f a .aA .aA g].all λx=>x.all E.one)=O:=by simp only[pO,List.all_nil,pZ];exact Kq aX.cD rfl rfl k7
  have KT:(rs++row::ex).take (below.length+1)=rs++[row]:=by rw[<-gP,List.take_append];simp[List.take_of_length_le (Nat.le_succ rs.length)]
  have Gg:eU O fH (.bn bk 0 (below.length+1) fH) (.bn jF 0 1 fH) h=o (.bn h.n 0 (below.length+2) fH,(h.set bk ad).push (rs++[row]++[g7 f a .aA .aA g])):=by
   have he:iT h fH (.bn jF 0 1 fH)=o [g7 f a .aA .aA g]:=by simp[iT,aN]
   simp only[eU,he,c2,gM];rw[if_neg (by decide)];simp only[jX,aP,c2];rw[if_pos ⟨by simp,by simp,pP⟩,if_pos ⟨trivial,trivial,by omega⟩,if_pos (by simp;omega),KT];rfl
  have bg:=s.del 1 rfl;have aV:=bg.push (rs++[row]++[g7 f a .aA .aA g]);have oA:(h.set bk ad).n=h.n:=rfl;have st:eQ 1 ((h.set bk ad).push (rs++[row]++[g7 f a .aA .aA g])) (.ptr bw 0 1) (.bn h.n 0 (below.length+2) fH)=o (((h.set bk ad).push (rs++[row]++[g7 f a .aA .aA g])).set bw (o [[.ptr aO 0 0,.bn h.n 0 (below.length+2) fH,.int j left]])):=lc (n:=1) (i:=0) (x:=.bn h.n 0 (below.length+2) fH) (off:=1) (e:=[.ptr aO 0 0,.bn bk 0 (below.length+1) fH,.int j left]) (aV.cell 1 rfl).1 rfl rfl rfl (by simp);have br:=aV.set 1 rfl [[.ptr aO 0 0,.bn h.n 0 (below.length+2) fH,.int j left]];refine⟨_,_,⟨Gg,st⟩,aa2 (rs:=rs++[row]) (ex:=[]) (row:=g7 f a .aA .aA g) ?_⟩;rw[ff,gM];have bz:=(br.front 2 rfl).drop;have b8:aK _ _ _ _ [sm (rs++[row]) (below++[top]),aY h.n (rs++[row]++[g7 f a .aA .aA g]),aY bw [[.ptr aO 0 0,.bn h.n 0 (below.length+2) fH,.int j left]]]:=(((bz.front 2 rfl).front 3 rfl).front 1 rfl).imp λ_ _ _ x=>by have y:=cf.Xp x;exact rD (λ_ _ _ z=>(QY gP).2 z) (λ_ _ _ z=>z) y
  have cM:=b8.add (aB.refl _) (aa3 aX a8 aC aE) (λ_ h=>h.elim) (λ_ h=>h.elim);have eM:=(((cM.front 1 rfl).front 1 rfl).front 2 rfl).front 3 rfl;exact eM
 exact⟨J,R,au,ax,ew⟩
theorem apV(gG:aK aj aJ aG h L)(i:Nat){t:iO}(af:L[i]? =o (jc bw aO bk left (below++[t]) top)):∃F,eQ 1 h (.ptr bw 0 1) (.bn bk 0 (below.length+1) fH)=o F/\aK aj aJ aG F (L.set i (jc bw aO bk left below t)):=by
 refine gG.call (cF:=λF=>eQ 1 h (.ptr bw 0 1) (.bn bk 0 (below.length+1) fH)=o F) i af λae ai x=>?_;obtain⟨rs,ex,row,gP,aa4,aF,s⟩:=Q1 x;rw[ff,gM]at gP;obtain⟨sb,q,rfl⟩:∃sb q,rs=sb++[q]:=by refine⟨rs.dropLast,rs.getLast (λe=>by rw[e]at gP;simp at gP),(List.dropLast_concat_getLast _).symm⟩
 have apW:sb.length=below.length:=by simpa using gP
 have st:eQ 1 h (.ptr bw 0 1) (.bn bk 0 (below.length+1) fH)=o (h.set bw (o [[.ptr aO 0 0,.bn bk 0 (below.length+1) fH,.int j left]])):=lc (n:=1) (i:=0) (x:=.bn bk 0 (below.length+1) fH) (off:=1) (e:=[.ptr aO 0 0,.bn bk 0 ((below++[t]).length+1) fH,.int j left]) (s.cell 0 rfl).1 rfl rfl rfl (by simp);have bg:=s.set 0 rfl [[.ptr aO 0 0,.bn bk 0 (below.length+1) fH,.int j left]];have aV:=(bg.front 2 rfl).drop;have br:=(aV.front 2 rfl).imp λ_ _ _ x=>cf.Xo (rD (λ_ _ _ z=>(QY apW).1 z) (λ_ _ _ z=>z) x);have bz:=(((br.front 1 rfl).front 1 rfl).front 3 rfl).front 3 rfl;exact⟨_,st,aa2 (rs:=sb) (ex:=row::ex) (row:=q) (by simpa using bz)⟩
theorem apX(gG:aK aj aJ aG h L)(i:Nat)(af:L[i]? =o (jc bw aO bk left [] top)):∃F,eQ 1 h (.ptr bw 0 1) (.bn bk 0 0 fH)=o F/\aK aj aJ aG F (L.set i (A3 bw aO bk left)):=by refine gG.call (cF:=λF=>eQ 1 h (.ptr bw 0 1) (.bn bk 0 0 fH)=o F) i af λae ai x=>?_;obtain⟨rs,ex,row,gP,aa4,aF,s⟩:=Q1 x;have st:eQ 1 h (.ptr bw 0 1) (.bn bk 0 0 fH)=o (h.set bw (o [[.ptr aO 0 0,.bn bk 0 0 fH,.int j left]])):=lc (n:=1) (i:=0) (x:=.bn bk 0 0 fH) (off:=1) (e:=[.ptr aO 0 0,.bn bk 0 1 fH,.int j left]) (s.cell 0 rfl).1 rfl rfl rfl (by simp);have bg:=s.set 0 rfl [[.ptr aO 0 0,.bn bk 0 0 fH,.int j left]];have aV:=((bg.front 3 rfl).drop.front 2 rfl).drop;have br:=(aV.front 1 rfl).drop;exact⟨_,st,gw.imp (λ_ _ _ x=>cf.Cz x) br⟩
end
theorem apY{x:BitVec 64}{k:Nat}(Z:k<64){r:Int}(ao:r=(BitVec.twoPow 64 k).toInt):Ch x.toInt r=fS x.toInt k:=by
 rw[ao,Vd,I3 x Z];cases ab:x.getLsbD k
 ·refine decide_eq_false λh=>?_;have:=congrArg (λv:BitVec 64=>v.getLsbD k) h;simp only[BitVec.getLsbD_and,ab,Bool.false_and,BitVec.getLsbD_twoPow]at this;simp[Z]at this
 ·refine decide_eq_true (BitVec.eq_of_getLsbD_eq λi af=>?_);rw[BitVec.getLsbD_and,BitVec.getLsbD_twoPow];by_cases R:k=i
  ·subst R;simp[ab]
  ·simp[R]
section
variable{h F aj:ag}{ae ai aJ aG:Nat->Prop}{L:List b6}{bw aO bk ck cr:Nat}{left:Int}{below:List iO}{top:iO}{ms:dj}{kept:List av}{G:a0}
theorem qc(c:Int):aQ ap W 89 [.bool O,.int j c] h=o (.inr (.iface mi (.int j c)),h):=by refine a2 Xt rfl ?_;unfold Pg;simp only[ak,aq,ar,al,H4,aaU,DD (aB.refl h) (rfl:c7 (.iface mi (.int j c))=_)]
theorem oU(c:Int):aQ ap W 89 [.bool T,.int j c] h=o (.inl (.bU []),h):=by refine a2 Xt rfl ?_;unfold Pg;simp only[ak,aq,ar,al,dI (aB.refl h) (rfl:c7 (.bU [])=_)]
theorem Q2(n:Int):aQ ap W 115 [.int j n] h=o (.inl (.agg [.int j 1,.int j n,.aA]),h):=by refine a2 amz rfl ?_;unfold Xw;simp only[ak,aq,ar,al,bW];exact dI (aB.push _ _) rfl
theorem we(n:Int):bT (lx n) [.int j 1,.int j n,.aA]:=⟨.aA,[],rfl,.inl ⟨rfl,rfl⟩,rfl⟩
theorem zl(n:Int):bT (ly n) [.int j 4,.int j n,.aA]:=⟨.aA,[],rfl,.inl ⟨rfl,rfl⟩,rfl⟩
theorem aa5(n:Int):bT (.mk 5 n []) [.int j 5,.int j n,.aA]:=⟨.aA,[],rfl,.inl ⟨rfl,rfl⟩,rfl⟩
theorem KZ{k n:Int}{l:List av}{id:Option Nat}(am:c8 l es):bT (.mk k n l) [.int j k,.int j n,.b0 id bG es]:=⟨_,es,rfl,.inr ⟨id,rfl⟩,am⟩
theorem bT.iQ{v:av}{r:List E}(U:bT v r):∃w,r=[.int j v.kind,.int j v.n,w]/\w.one=O:=by
 cases v with
 |mk k n l=>obtain⟨w,es,rfl,J,_⟩:=U;exact⟨w,rfl,by rcases J with⟨_,rfl⟩|⟨id,rfl⟩<;>rfl⟩
theorem tN{v:av}{r:List E}(U:bT v r){k:Int}(Z:v.kind=k):∃bj,aQ ap W 91 [.agg r,.int j k] h=o (.inl (.agg bj),h)/\bT v bj:=by
 obtain⟨bj,hw,hG⟩:=E6 U;obtain⟨w,rfl,aF⟩:=U.iQ;have qU:c7 (.agg [.int j v.kind,.int j v.n,w])=o (.agg bj):=by simp only[c7,hw,hF]
 refine⟨bj,?_,hG⟩;have d:decide (v.kind=k)=O:=decide_eq_true Z;refine a2 Xx rfl ?_;unfold Pk;simp only[ak,aq,ar,al,bJ,d,oU,aF];exact dI (by repeat (first|exact aB.refl _|refine aB.trans ?_ (aB.push _ _)|refine aB.trans ?_ (aB.fresh _ _))) qU
theorem tO{v:av}{r:List E}(U:bT v r){k:Int}(Z:v.kind≠k):aQ ap W 91 [.agg r,.int j k] h=o (.inr (.iface mi (.int j 2)),h):=by obtain⟨w,rfl,aF⟩:=U.iQ;have d:decide (v.kind=k)=T:=decide_eq_false Z;refine a2 Xx rfl ?_;unfold Pk;simp only[ak,aq,ar,al,bJ,d,qc,aF];exact DD (by repeat (first|exact aB.refl _|refine aB.trans ?_ (aB.push _ _)|refine aB.trans ?_ (aB.fresh _ _))) rfl
theorem aa6{v:av}{r:List E}(U:bT v r)(Z:v.code=0):∃bj,aQ ap W 116 [.agg r] h=o (.inl (.agg bj),h)/\bT v bj:=by
 obtain⟨bj,hw,hG⟩:=E6 U;have qU:c7 (.agg r)=o (.agg bj):=by simp only[c7,hw,hF]
 refine⟨bj,?_,hG⟩;have d:decide (v.code=0)=O:=decide_eq_true Z;have bZ:=λh=>Km (h:=h) U;obtain⟨bt,bq⟩:=U.cD;refine a2 Xy rfl ?_;unfold Pl;simp only[ak,aq,ar,al,bJ,d,oU,bZ,bt,bq];exact dI (by repeat (first|exact aB.refl _|refine aB.trans ?_ (aB.push _ _)|refine aB.trans ?_ (aB.fresh _ _))) qU
theorem aa7{v:av}{r:List E}(U:bT v r)(Z:v.code≠0):aQ ap W 116 [.agg r] h=o (.inr (.iface mi (.int j 3)),h):=by have d:decide (v.code=0)=T:=decide_eq_false Z;have bZ:=λh=>Km (h:=h) U;obtain⟨bt,bq⟩:=U.cD;refine a2 Xy rfl ?_;unfold Pl;simp only[ak,aq,ar,al,bJ,d,qc,bZ,bt,bq];exact DD (by repeat (first|exact aB.refl _|refine aB.trans ?_ (aB.push _ _)|refine aB.trans ?_ (aB.fresh _ _))) rfl
theorem K0(s:aK aj aJ aG h L){vh:Nat}(af:L[vh]? =o (hQ aO ck cr ms kept))(am:ms.length=kept.length):(∀n:Nat,cS T n h (.ptr aO 0 0)=o (.ptr ck 0 0))/\∀n:Nat,cS T n h (.ptr aO 0 1)=o (.ptr cr 0 0):=by
 obtain⟨ae,ai,x⟩:=s.get vh af;obtain⟨row,aP,_,bu,cd,_⟩:=KU x am;refine⟨λn=>?_,λn=>?_⟩
 ·rw[fL,aP,c2,mY,c2,gi,bu]
 ·rw[fL,aP,c2,mY,c2,gi,cd]
theorem apZ(cH:G.dE)(i:Int){k:Nat}{r:Int}(Z:k<64)(ao:r=(BitVec.twoPow 64 k).toInt):aQ ap W 144 [.int j (G.dn i),.int j r] h=o (.inl (.bool (fS (G.dn i) k)),h):=by
 obtain⟨x,aw⟩:=ZE cH i;have e:Ch (G.dn i) r=fS (G.dn i) k:=by rw[aw];exact apY Z ao
 rw[<-e];refine a2 Zu rfl ?_;unfold Qa;simp only[ak,aq,ar,al];rfl
abbrev ap0:c':=147
abbrev aa8:List E:=[.int j 0,.int j 0,.int j 0,.int j 0,.int j 0,.int j 0]
theorem Q3(s:aK aj aJ aG h L){aa9 vh aa':Nat}(hm:L[aa9]? =o (jc bw aO bk left below top))(ab:L[vh]? =o (hQ aO ck cr ms kept))(a8:L[aa']? =o (bi ck G))(am:ms.length=kept.length)(cH:G.dE){v:av}{r:List E}(U:bT v r){k:Nat}{q:Int}(Z:k<64)(aW:q=(BitVec.twoPow 64 k).toInt):aQ ap W ap0 [.ptr bw 0 0,.agg r,.int j q] h=o (if fS (G.dn v.n) k=O then .inl (.bU [.int j v.n,.agg (cQ (G.target v.n).1)])else .inr (.iface mi (.int j 9)),h):=by
 obtain⟨w,rfl,aF⟩:=U.iQ;have bg:=(s.push [[.int j v.kind,.int j v.n,w]]).push [aa8];obtain⟨a,dm,aL,g,a4⟩:=pB bg (aa9+2) hm;have ib:∀n:Nat,cS T n _ (.ptr bw 0 0)=o (.ptr aO 0 0):=λn=>by rw[fL,a4.m,c2,mY,c2,gi];rfl
 have cK:=(K0 bg (vh:=vh+2) ab am).1;obtain⟨ae,ai,zm⟩:=bg.get (aa'+2) a8;have lD:=WS (zm:eX _ ae ai ck G) cH v.n;have EV:=alT (zm:eX _ ae ai ck G) cH v.n;have bC:=apZ (h:=(h.push [[.int j v.kind,.int j v.n,w]]).push [aa8]) cH v.n Z aW;have f0:b5 0 (.ptr bw 0 0)=o (.ptr bw 0 0):=rfl;have f1:b5 0 (.ptr aO 0 0)=o (.ptr aO 0 0):=rfl;cases aba:fS (G.dn v.n) k with
 |false=>rw[aba]at bC;rw[if_neg (by decide)];refine a2 XE rfl ?_;unfold Eq;simp only[ak,aq,ar,al,bJ,aF,f0,f1,ib,cK,lD,bC,qc];exact DD (by repeat (first|exact aB.refl _|refine aB.trans ?_ (aB.push _ _)|refine aB.trans ?_ (aB.fresh _ _))) rfl
 |true=>rw[aba]at bC;rw[if_pos rfl];refine a2 XE rfl ?_;unfold Eq;simp only[ak,aq,ar,al,bJ,aF,f0,f1,ib,cK,lD,bC,oU,EV,cQ,ir];exact dI (aB.set (by repeat (first|exact aB.refl _|refine aB.trans ?_ (aB.push _ _)|refine aB.trans ?_ (aB.fresh _ _))) (by omega)) rfl
end
structure ix where
 (bw aO ck cr:Nat)
 ms:dj
structure fJ where
 bk:Nat
 S:bK
 below:List iO
 top:iO
structure eY(c:ix)(L:List b6)(i:Nat)(n:fJ):Prop where
 m:L[i]? =o (jc c.bw c.aO n.bk (n.S.left:Int) n.below n.top)
 b:L[i+1]? =o (hQ c.aO c.ck c.cr c.ms n.S.kept)
 g:L[i+2]? =o (bi c.ck n.S.G)
 w:L[i+3]? =o (h3 c.cr n.S.cells n.S.log)
def put(c:ix)(L:List b6)(i:Nat)(n:fJ):List b6:=(((L.set i (jc c.bw c.aO n.bk (n.S.left:Int) n.below n.top)).set (i+1) (hQ c.aO c.ck c.cr c.ms n.S.kept)).set (i+2) (bi c.ck n.S.G)).set (i+3) (h3 c.cr n.S.cells n.S.log)
theorem tP{c:ix}{L:List b6}{i D:Nat}{n:fJ}:(put c L i n)[D]? =if D<L.length then(if D=i+3 then o (h3 c.cr n.S.cells n.S.log)else if D=i+2 then o (bi c.ck n.S.G)else if D=i+1 then o (hQ c.aO c.ck c.cr c.ms n.S.kept)else if D=i then o (jc c.bw c.aO n.bk (n.S.left:Int) n.below n.top)else L[D]?)else ad:=by
 unfold put;by_cases aa:D<L.length
 ·rw[if_pos aa];simp only[tQ,List.length_set];by_cases ah:D=i+3
  ·subst ah;simp[aa]
  ·by_cases R:D=i+2
   ·subst R;simp[aa]
   ·by_cases J:D=i+1
    ·subst J;simp[aa]
    ·by_cases aj:D=i
     ·subst aj;simp[aa]
     ·simp[aj,J,R,ah,lP aj,lP J,lP R,lP ah]
 ·rw[if_neg aa,o3 (by simpa using aa)]
theorem eY.len{c:ix}{L:List b6}{i:Nat}{n:fJ}(a:eY c L i n):i+3<L.length:=(fQ.1 a.w).1
theorem eY.put{c:ix}{L:List b6}{i:Nat}{n:fJ}(a:eY c L i n)(b':fJ):eY c (put c L i b') i b':=by
 have:=a.len;refine⟨?_,?_,?_,?_⟩<;>rw[tP]
 ·rw[if_pos (by omega),if_neg (by omega),if_neg (by omega),if_neg (by omega),if_pos rfl]
 ·rw[if_pos (by omega),if_neg (by omega),if_neg (by omega),if_pos rfl]
 ·rw[if_pos (by omega),if_neg (by omega),if_pos rfl]
 ·rw[if_pos (by omega),if_pos rfl]
theorem wn{c:ix}{L:List b6}{i:Nat}{n:fJ}:(Go.Proofs.YtkdbjfncchmmpaaGreat.put c L i n).length=L.length:=by simp[Go.Proofs.YtkdbjfncchmmpaaGreat.put]
theorem A4{L pV:List b6}(h:∀D:Nat,L[D]? =pV[D]?):L=pV:=List.ext_getElem? h
theorem hT{c:ix}{L:List b6}{i:Nat}{n b':fJ}:put c (put c L i n) i b'=put c L i b':=by
 refine A4 λD=>?_;rw[tP,tP,wn,tP];by_cases aa:D<L.length
 ·simp only[if_pos aa]
  repeat' (first|rfl|split)
  all_goals first|rfl|omega
 ·simp only[if_neg aa]
theorem eY.same{c:ix}{L:List b6}{i:Nat}{n:fJ}(a:eY c L i n):Go.Proofs.YtkdbjfncchmmpaaGreat.put c L i n=L:=by
 have:=a.len;refine A4 λD=>?_;rw[tP];split
 ·split
  ·rename_i e;rw[e,a.w]
  ·split
   ·rename_i e;rw[e,a.g]
   ·split
    ·rename_i e;rw[e,a.b]
    ·split
     ·rename_i e;rw[e,a.m]
     ·rfl
 ·rename_i aa;exact(o3 (Nat.le_of_not_lt aa)).symm
theorem eY.wg{c:ix}{L:List b6}{i:Nat}{n:fJ}(a:eY c L i n)(hu:Nat)(l:Nat)(abb:List iO)(abc:iO):L.set i (jc c.bw c.aO hu (l:Int) abb abc)=Go.Proofs.YtkdbjfncchmmpaaGreat.put c L i ⟨hu,{n.S with left:=l},abb,abc⟩:=by
 have:=a.len;refine A4 λD=>?_;rw[tP,tQ];by_cases aa:D<L.length
 ·rw[if_pos aa];by_cases aj:i=D
  ·subst aj;simp[aa]
  ·rw[if_neg aj,if_neg (lP aj:¬D=i)];split
   ·rename_i e;rw[e,a.w]
   ·split
    ·rename_i e;rw[e,a.g]
    ·split
     ·rename_i e;rw[e,a.b]
     ·rfl
 ·rw[if_neg aa,if_neg (by omega)];exact o3 (Nat.le_of_not_lt aa)
theorem eY.ap1{c:ix}{L:List b6}{i:Nat}{n:fJ}(a:eY c L i n)(k:List av):L.set (i+1) (hQ c.aO c.ck c.cr c.ms k)=Go.Proofs.YtkdbjfncchmmpaaGreat.put c L i {n with S:={n.S with kept:=k}}:=by
 have:=a.len;refine A4 λD=>?_;rw[tP,tQ];by_cases aa:D<L.length
 ·rw[if_pos aa];by_cases aj:i+1=D
  ·subst aj;simp[aa]
  ·rw[if_neg aj,if_neg (lP aj:¬D=i+1)];split
   ·rename_i e;rw[e,a.w]
   ·split
    ·rename_i e;rw[e,a.g]
    ·split
     ·rename_i e;rw[e,a.m]
     ·rfl
 ·rw[if_neg aa,if_neg (by omega)];exact o3 (Nat.le_of_not_lt aa)
theorem eY.ap2{c:ix}{L:List b6}{i:Nat}{n:fJ}(a:eY c L i n)(G:a0):L.set (i+2) (bi c.ck G)=Go.Proofs.YtkdbjfncchmmpaaGreat.put c L i {n with S:={n.S with G:=G}}:=by
 have:=a.len;refine A4 λD=>?_;rw[tP,tQ];by_cases aa:D<L.length
 ·rw[if_pos aa];by_cases aj:i+2=D
  ·subst aj;simp[aa]
  ·rw[if_neg aj,if_neg (lP aj:¬D=i+2)];split
   ·rename_i e;rw[e,a.w]
   ·split
    ·rename_i e;rw[e,a.b]
    ·split
     ·rename_i e;rw[e,a.m]
     ·rfl
 ·rw[if_neg aa,if_neg (by omega)];exact o3 (Nat.le_of_not_lt aa)
theorem eY.abd{c:ix}{L:List b6}{i:Nat}{n:fJ}(a:eY c L i n)(cells:List Int)(log:List nA):L.set (i+3) (h3 c.cr cells log)=Go.Proofs.YtkdbjfncchmmpaaGreat.put c L i {n with S:={n.S with cells:=cells,log:=log}}:=by
 have:=a.len;refine A4 λD=>?_;rw[tP,tQ];by_cases aa:D<L.length
 ·rw[if_pos aa];by_cases aj:i+3=D
  ·subst aj;simp[aa]
  ·rw[if_neg aj,if_neg (lP aj:¬D=i+3)];split
   ·rename_i e;rw[e,a.g]
   ·split
    ·rename_i e;rw[e,a.b]
    ·split
     ·rename_i e;rw[e,a.m]
     ·rfl
 ·rw[if_neg aa,if_neg (by omega)];exact o3 (Nat.le_of_not_lt aa)
theorem eY.cons{c:ix}{L:List b6}{i:Nat}{n:fJ}(a:eY c L i n)(X:b6):eY c (X::L) (i+1) n:=⟨a.m,a.b,a.g,a.w⟩
theorem eC{c:ix}{L:List b6}{i:Nat}{n:fJ}{X:b6}:Go.Proofs.YtkdbjfncchmmpaaGreat.put c (X::L) (i+1) n=X::Go.Proofs.YtkdbjfncchmmpaaGreat.put c L i n:=rfl
def Q4:List be:=[.ops [Az,v5,.i (.v 5) PL]]
def CV:List be:=[.ops [bd,sn,.i .l (.call (.c (.fn 126 [] [])) [.l 1,.l 0]),jC],.ops [k5,JE],.cond (.v 8) [.ops [kN,k5,FT,.i .n (.store 1 (.v 5) (.l 0))],.ret] []]
def Q5:List be:=[abe,.ops [j7,sn,Zx,uY,.i .n (.store 1 (.v 5) (.c (.int j 0)))],.ret]
def Q6:List be:=[abe]
def K1:List be:=[.ops [gT,.i (.v 5) (.yy .iface ad O .neq (.l 0) (.c .ig))],.cond (.v 5) [.ops [gT,.i .l (.D8 210 O (.l 0)),cl,fx,fy,Pn,jl],.ops [fb,Cq],.cond (.v 6) [.ops [gT,Jf]] [],.ops [kN,cR,.i .n (.store 3 (.v 0) (.l 1)),.i .n (.store 1 (.v 1) (.l 0))]] []]
open Go Go.RowKit
abbrev jH:c':=113
abbrev fD:c':=127
noncomputable def wh:fK:=Tryz.f113.body.getD .skip
noncomputable def qd:fK:=Tryz.f127.body.getD .skip
theorem abf:(ap).funcs[fD]? =o Tryz.f127:=Tryz.func127
theorem ap3:Tryz.f127.body=o qd:=rfl
theorem ap4:qd= .seq (ep qd) (gK qd):=rfl
theorem ap5:Tryz.f127.ntmps=18:=rfl
noncomputable def Q7:bh:={dst:=o 5,op:=.call {callee:=.builtin .recover,args:= #[],argTypes:= #[]},type:=((mj (ep qd)).getD 0 default).type,pos:=((mj (ep qd)).getD 0 default).pos,after:= #[],guard:=ad}
noncomputable def Q8:bh:={dst:=o 2,op:=.assign (.tmp 5),type:=((mj (ep qd)).getD 1 default).type,pos:=((mj (ep qd)).getD 1 default).pos,after:=((mj (ep qd)).getD 1 default).after,guard:=ad}
theorem ap6:ep qd= .region 0 #[Q7,Q8] T:=rfl
theorem ap7:g5 ap (W.a' fD) (W.cz fD) 18 [0,1,2,3,4,7,14] (gK qd) []=o K1:=by kernel_rfl
theorem ap8:iz (W.cz fD) (W.e9 fD) (gK qd)=O:=by kernel_rfl
theorem ap9:tj 2 18 (W.aL fD) 7 [0,1,2,3,4,7,14]=O:=by kernel_rfl
theorem abg{h F:ag}{e:E}{ga:List E}(ao:bB (aQ ap W) 7 [.bP K1,.halt []] [.ptr ic 0 0,.ptr jI 0 0,e,.az,.az,.az,.az] [] h=o (.halt [],ga,F)){m:eh}{w:dy}{v:b1}(hw:cc ap m h w)(dd:bX ap m h (.ptr ic 0 0) hp)(eB:bX ap m h (.ptr jI 0 0) hq)(FB:bX ap m h e v){u:FrameMode}(gB:FrameMode)(PD:∀c:gI,c.mode=u->∀cs,(recoverD (c::cs)=o (v,{c with mode:=gB}::cs))\/(recoverD (c::cs)=ad/\v= .nilIface/\gB=u)):CallsD ap fD #[hp,hq] u w λe oi ba=>(∃v,e= .returned v)/\oi=gB/\∃a9,Ext m h a9 F/\cc ap a9 F ba/\Below m.base w ba:=by
 intro c cs bQ;have fl:dT ap m h [.ptr ic 0 0,.ptr jI 0 0] [hp,hq]:=⟨rfl,λD aa dv=>by
  match D,aa with
  |0,_=>exact dd
  |1,_=>exact eB⟩
 have he:=JJ abf ap3 [hp,hq] .deferred;have a3:=JK (P:=ap) (h:=h) (k:=18) fl;generalize ab:j0 ap fD #[hp,hq] .deferred=b at he;have s3:b.kind= .deferred:=by rw[<-ab];simp[j0]
 have FC:b.fn=fD:=by rw[<-ab];simp[j0]
 have PF:b.roundOf=ad:=by rw[<-ab];simp[j0]
 rw[ap5]at he;generalize aX:([hp,hq]++al (18 - [hp,hq].length) gq).toArray=cw at he a3;have J:Steps ap (e3 b (c::cs) w) (e3 (b.at {tmps:=cw,defers:=[]} [.code (ep qd),.code (gK qd)]) (c::cs) w):=by
  rw[<-he]
  conv=>lhs;rw[ap4]
  exact .one step_seq
 have eJ:cw.size=18:=by rw[a3.1];rfl
 have NC:(ep qd).wpS ap (λe eP g3 ba=>e= .normal/\g3={c with mode:=gB}::cs/\ba=w/\eP=(({tmps:=cw,defers:=[]}:Act).put (o 5) v).put (o 2) v) {tmps:=cw,defers:=[]} (c::cs) w:=by
  rw[ap6];apply wpS_region;rcases PD c bQ cs with J|⟨J,R,ah⟩
  ·simp[wpOpsS,go_sem,Q7,Q8,J,Act.put,Act.eval,eJ]
  ·have aD:({c with mode:=gB}:gI)=c:=by rw[ah,<-bQ]
   simp[wpOpsS,go_sem,Q7,Q8,J,Act.put,Act.eval,eJ,R,aD]
 obtain⟨au,aR,Ny,cY,⟨rfl,rfl,rfl,rfl⟩,AG⟩:=NC b [.code (gK qd)] s3 PF;have CK:=(a3.put (a:={tmps:=cw,defers:=[]}) FB (o 5)).put FB (o 2);have cx:g6 18 [0,1,2,3,4,7,14] [] (fj (fj ([E.ptr ic 0 0,.ptr jI 0 0]++al (18 - [E.ptr ic 0 0,.ptr jI 0 0].length) .az) (o 5) e) (o 2) e) [.ptr ic 0 0,.ptr jI 0 0,e,.az,.az,.az,.az] []:=by
  refine⟨by simp[fj],rfl,rfl,λD s aa=>?_,λD s aa=>by simp at aa⟩
  match D,aa with
  |0,aa|1,aa|2,aa|3,aa|4,aa|5,aa|6,aa=>obtain rfl:=kx aa;exact⟨by decide,rfl⟩
  |D+7,aa=>simp at aa
 obtain⟨dF,aH,v9⟩:=v7 dg (lk ap9) ap7 ap8 ao cx;obtain⟨a9,ba,b3,dH,f',eP,hI,ha,jw⟩:=aH m cY _ {b with defers:=[]} ({c with mode:=gB}::cs) hw CK rfl;have oD:Steps ap (e3 b (c::cs) cY) (e3 {b.at eP []with mode:=.returning} ({c with mode:=gB}::cs) ba):=J.trans (AG.trans (jw.trans (.one step_end)));refine⟨.returned (.tuple #[]),gB,ba,_,⟨⟨_,rfl⟩,rfl,a9,b3,dH,f'⟩,oD,s3,rfl,ha,Tryz.f127,?_,?_⟩
 ·show(ap).funcs[b.fn]? =_;rw[FC];exact abf
 ·simp[results,Tryz.results127]
theorem ap'(c:gI)(h:c.mode= .returning)(cs:List gI):recoverD (c::cs)=ad:=by simp[recoverD,h]
theorem aqa{v:b1}(c:gI)(h:c.mode= .panicking [{v:=v,recovered:=T}])(cs:List gI):recoverD (c::cs)=o (v,{c with mode:=.panicking [{v:=v,recovered:=O}]}::cs):=by simp[recoverD,h]
theorem aqb{q:a6}{v:E}:B7 q O (.iface q v)=o (.bU [v,.bool O]):=by simp[B7]
theorem aqc{h:ag}{m:eh}{w:dy}(hw:cc ap m h w)(dd:bX ap m h (.ptr ic 0 0) hp)(eB:bX ap m h (.ptr jI 0 0) hq):CallsD ap fD #[hp,hq] .returning w λe oi ba=>(∃v,e= .returned v)/\oi= .returning/\∃a9,Ext m h a9 h/\cc ap a9 h ba/\Below m.base w ba:=by refine abg (ga:=[.ptr ic 0 0,.ptr jI 0 0,.ig,.az,.az,.bool T,.az]) (e:=.ig) ?_ hw dd eB .ig .returning λc an cs=>.inr ⟨ap' c an cs,rfl,rfl⟩;unfold K1;simp only[ak]
theorem aqd{h:ag}{m:eh}{w:dy}{u:b1}{code x y:Int}{l z:E}(hw:cc ap m h w)(dd:bX ap m h (.ptr ic 0 0) hp)(eB:bX ap m h (.ptr jI 0 0) hq)(Q9:bX ap m h (.iface xL (.int j code)) u)(b9:h.cell ic=o [[.int j x,.int j y,l]])(c4:h.cell jI=o [[z]])(di:jI≠ic)(am:l.one=O):CallsD ap fD #[hp,hq] (.panicking [{v:=u,recovered:=T}]) w λe oi ba=>(∃v,e= .returned v)/\oi= .panicking [{v:=u,recovered:=O}]/\∃a9,Ext m h a9 ((h.set ic (o [[.int j 0,.int j 0,.aA]])).set jI (o [[.int j code]]))/\cc ap a9 ((h.set ic (o [[.int j 0,.int j 0,.aA]])).set jI (o [[.int j code]])) ba/\Below m.base w ba:=by refine abg (ga:=[.ptr ic 0 0,.ptr jI 0 0,.iface xL (.int j code),.int j code,.bool O,.bool O,.bool T]) (e:=.iface xL (.int j code)) ?_ hw dd eB Q9 (.panicking [{v:=u,recovered:=O}]) λc an cs=>.inl (aqa c an cs);have QL:(h.set ic (o [[.int j 0,.int j 0,.aA]])).cell jI=o [[z]]:=(eu di).trans c4;unfold K1;simp only[ak,aq,aqb,b9,QL]
open Go Go.RowKit
theorem aqe:(ap).funcs[jH]? =o Tryz.f113:=Tryz.func113
theorem aqf:Tryz.f113.body=o wh:=rfl
theorem aqg:Tryz.f113.ntmps=25:=rfl
noncomputable abbrev Gh:fK:=ep (gK wh)
noncomputable abbrev m':fK:=gK (gK wh)
noncomputable abbrev na:fK:=gK m'
theorem aqh:wh= .seq (ep wh) (gK wh):=rfl
theorem aqi:gK wh= .seq Gh m':=rfl
theorem aqj:m'= .seq (ep m') na:=rfl
theorem aqk:na= .seq (ep na) (gK na):=rfl
theorem aql:gK na= .seq (ep (gK na)) .ret:=rfl
abbrev vi:List Nat:=[0,1,2,4,6,7,8,9,14]
theorem K2:tj 3 25 (W.aL jH) 9 vi=O:=by kernel_rfl
theorem aqm:g5 ap (W.a' jH) (W.cz jH) 25 vi (ep wh) []=o Q4:=by kernel_rfl
theorem aqn:g5 ap (W.a' jH) (W.cz jH) 25 vi Gh []=o CV:=by kernel_rfl
theorem aqo:g5 ap (W.a' jH) (W.cz jH) 25 vi na []=o Q5:=by kernel_rfl
theorem aqp:g5 ap (W.a' jH) (W.cz jH) 25 vi (ep na) []=o Q6:=by kernel_rfl
theorem aqq:iz (W.cz jH) (W.e9 jH) (ep wh)=O:=by kernel_rfl
theorem aqr:iz (W.cz jH) (W.e9 jH) Gh=O:=by kernel_rfl
theorem aqs:iz (W.cz jH) (W.e9 jH) na=O:=by kernel_rfl
theorem aqt:iz (W.cz jH) (W.e9 jH) (ep na)=O:=by kernel_rfl
theorem aqu:pX ap vi Tryz.f113.results.toList=o [.cell O 3 4,.cell T 1 5]:=by kernel_rfl
noncomputable def abh:bh:={dst:=o 17,op:=.makeFunc (.func fD) #[] #[.tmp 6,.tmp 7],type:=((mj (ep m')).getD 0 default).type,pos:=((mj (ep m')).getD 0 default).pos,after:= #[],guard:=ad}
noncomputable def abi:bh:={dst:=ad,op:=.defer {callee:=.value (.tmp 17),args:= #[],argTypes:= #[]},type:=((mj (ep m')).getD 1 default).type,pos:=((mj (ep m')).getD 1 default).pos,after:=((mj (ep m')).getD 1 default).after,guard:=ad}
theorem aqv:ep m'= .region 4 #[abh,abi] T:=rfl
section
variable{h:ag}{m:eh}{w:dy}
abbrev mM:List E:=[.int j 0,.int j 0,.aA]
def g1(h:ag)(r:List E):ag:=((h.push [r]).push [mM]).push [[.int j 0]]
theorem aqw{b:Nat}{r:List E}{K:List Item}(bt:r.all E.one=O)(bq:r.length=3):bB (aQ ap W) 9 [.bP Q4,.halt K] [.ptr b 0 0,.agg r,dS,.az,.az,.az,.az,.az,.az] [] h=o (.halt K,[.ptr b 0 0,.agg r,dS,.ptr h.n 0 0,.ptr (h.n+1) 0 0,.ptr (h.n+1+1) 0 0,.az,.az,.az],g1 h r):=by unfold Q4;simp only[ak,bt,bq,g1]
theorem aqx(x y z:E):g6 25 vi [] ([x,y,z]++al (25 - [x,y,z].length) .az) [x,y,z,.az,.az,.az,.az,.az,.az] []:=by
 refine⟨by simp,rfl,rfl,λD s aa=>?_,λD s aa=>by simp at aa⟩
 match D,aa with
 |0,aa|1,aa|2,aa|3,aa|4,aa|5,aa|6,aa|7,aa|8,aa=>obtain rfl:=kx aa;exact⟨by decide,rfl⟩
 |D+9,aa=>simp at aa
theorem Q'{b:Nat}{r:List E}{x:kw}{oq:List E}(bt:r.all E.one=O)(bq:r.length=3)(ao:bB (aQ ap W) 9 [.bP CV,.halt [.code m']] [.ptr b 0 0,.agg r,dS,.ptr h.n 0 0,.ptr (h.n+1) 0 0,.ptr (h.n+1+1) 0 0,.az,.az,.az] [] (g1 h r)=o (x,oq,R))(aw:∀v,x≠.panic v){bA:List b1}(hw:cc ap m h w)(fl:dT ap m h [.ptr b 0 0,.agg r,dS] bA)(cs:List gI):∃(fc:gI) (t2:List E),fc.fn=jH/\fc.kind= .normal/\fc.defers=[]/\g6 25 vi [] t2 oq []/\eS ap (W.e9 jH) m h w fc cs (e3 (j0 ap jH bA.toArray .normal) cs w) (x,t2,R):=by
 have he:=JJ aqe aqf bA .normal;have a3:=JK (P:=ap) (h:=h) (k:=25) fl;rw[aqg]at he;obtain⟨t1,pb,aqy⟩:=v7 dg (lk K2) aqm aqq (aqw (K:=[.code (gK wh)]) (h:=h) (dS:=dS) (b:=b) bt bq) (aqx _ _ _);obtain⟨t2,E4,aqz⟩:=v7 dg (lk K2) aqn aqr ao aqy;refine⟨j0 ap jH bA.toArray .normal,t2,by simp[j0],by simp[j0],by simp[j0],aqz,?_⟩;generalize j0 ap jH bA.toArray .normal=fc at he ⊢;obtain⟨cL,cY,b3,dH,f',aR,hI,ha,jw⟩:=pb m w {tmps:=_,defers:=[]} {fc with defers:=[]} cs hw a3 rfl;have ha:aR.defers=[]:=ha;have gG:Steps ap (e3 fc cs w) (e3 (fc.at aR [.code Gh,.code m']) cs cY):=by
  conv=>lhs;rw[<-he,aqh]
  refine .head step_seq (jw.trans ?_)
  conv=>lhs;rw[aqi]
  exact .one step_seq
 obtain⟨c3,gC,fs,jy,kI,nu⟩:=E4 cL cY aR {fc with defers:=[]} cs dH hI ha;have mc:eS ap (W.e9 jH) cL (g1 h r) cY {fc with defers:=[]} cs (e3 (fc.at aR [.code Gh,.code m']) cs cY) (x,t2,R):=⟨c3,gC,fs,jy,kI,nu⟩;have su:=eS.steps gG (eS.after b3 f' mc);have a7:fc.defers=[]:=by rw[<-he];rfl
 have FC:({fc with defers:=[]}:gI)=fc:=by rw[<-a7]
 rwa [FC]at su
theorem Ra{h:ag}{v:E}(cx:g6 25 vi [] t V [])(U:(iF V h [.cell O 3 4,.cell T 1 5]).map iV=o v):qr Tryz.f113 t h ap=o v:=by unfold qr;rw[Cb (h:=h) cx aqu];exact U
theorem aqA{h:ag}{b:Nat}{es:Option (List (List E))}(an:h.cell b=es):h.set b es=h:=by
 cases h with
 |mk=>
   simp only[ag.set,ag.mk.injEq,and_true,true_and];funext k;by_cases Z:k=b
   ·subst Z;simpa using an.symm
   ·simp[Z]
theorem aqB{b:Nat}{r:List E}{c:Int}(bt:r.all E.one=O)(bq:r.length=3)(an:c≠0)(q0:aQ ap W 126 [.ptr b 0 0,.agg r] (g1 h r)=o (.inl (.int j c),g1 h r)):AC ap jH [.ptr b 0 0,.agg r,dS] h (.inl (.bU [.agg mM,.int j c]),(g1 h r).set (h.n+1+1) (o [[.int j c]])):=by
 intro m w bA hw fl cs;have dU:(g1 h r).cell h.n=o [r]:=tl;have ic:(g1 h r).cell (h.n+1)=o [mM]:=vQ;have jI:(g1 h r).cell (h.n+1+1)=o [[.int j 0]]:=vP;have aqC:(g1 h r).set (h.n+1) (o [mM])=g1 h r:=aqA ic;have ao:bB (aQ ap W) 9 [.bP CV,.halt [.code m']] [.ptr b 0 0,.agg r,dS,.ptr h.n 0 0,.ptr (h.n+1) 0 0,.ptr (h.n+1+1) 0 0,.az,.az,.az] [] (g1 h r)=o (.ret,[.ptr b 0 0,.agg r,dS,.ptr h.n 0 0,.ptr (h.n+1) 0 0,.ptr (h.n+1+1) 0 0,.int j c,.az,.bool O],(g1 h r).set (h.n+1+1) (o [[.int j c]])):=by unfold CV;simp only[ak,aq,dU,gX bq,q0,an,ic,aqC,jI]
 obtain⟨fc,t2,cg,dw,fW,cx,a9,ba,b3,dH,f',eP,todo,hI,ha,jw⟩:=Q' bt bq ao (λv=>by simp) hw fl cs;rw[fW]at ha;have kH:=Ra (h:=(g1 h r).set (h.n+1+1) (o [[.int j c]])) (v:=.bU [.agg mM,.int j c]) cx (by have uA:((g1 h r).set (h.n+1+1) (o [[.int j c]])).cell (h.n+1)=o [mM]:=(eu (by omega)).trans ic;simp only[ak,aq,uA]);obtain⟨u,c4,hh⟩:=yq dH hI kH;exact⟨.returned u,ba,_,⟨a9,b3,dH,f',u,rfl,hh⟩,jw,cg,rfl,ha,dw,_,by simp[Frame.at,cg],c4⟩
theorem K3{n:Nat}{bb:List Nat}{i:Nat}{v:E}(cx:g6 n bb [] t V [])(af:i ∉ bb):g6 n bb [] (fj t (o i) v) V []:=by refine⟨by simpa[fj]using cx.len,cx.bF,cx.vM,λD s aa=>?_,λD s aa=>by simp at aa⟩;obtain⟨J,R⟩:=cx.v D s aa;refine⟨J,?_⟩;rw[<-R];have di:i≠s:=λe=>af (by rw[e];exact tc aa);simp[fj,dz,di]
theorem K4{n:Nat}{bb:List Nat}(cx:g6 n bb [] t V []){D s:Nat}(aa:bb[D]? =o s):s<t.length/\t.getD s .az=V.getD D .az:=by obtain⟨J,R⟩:=cx.v D s aa;exact⟨by rw[cx.len];exact J,R⟩
theorem abj{fc:gI}{a5:Act}{cs:List gI}(eJ:a5.tmps.size=25)(b9:a5.tmps.getD 6 gq=hp)(c4:a5.tmps.getD 7 gq=hq):Steps ap (e3 (fc.at a5 [.code m']) cs w) (e3 (fc.at {a5.put (o 17) (.func (.func fD) #[] #[hp,hq])with defers:={target:=.fn (.func fD) #[hp,hq],args:= #[]}::a5.defers} [.code na]) cs w):=by
 have hw:(ep m').wp ap (λe eP ba=>e= .normal/\ba=w/\eP={a5.put (o 17) (.func (.func fD) #[] #[hp,hq])with defers:={target:=.fn (.func fD) #[hp,hq],args:= #[]}::a5.defers}) a5 w:=by have aqD:∀(fn:Fn) (first cap:Array b1) (w:dy),(Instr.makeFunc fn first cap).run ap w= .ok (.func fn first cap) w:=λ_ _ _ _=>rfl;subst b9 c4;rw[aqv];apply wp_region;simp[wpOps,go_sem,abh,abi,Act.put,Act.eval,eJ]
 obtain⟨e,eP,ba,⟨rfl,rfl,rfl⟩,AG⟩:=hw fc [.code na] cs
 conv=>lhs;rw[aqj]
 exact .head step_seq AG
theorem abk{b:Nat}{r:List E}(bq:r.length=3)(q0:aQ ap W 126 [.ptr b 0 0,.agg r] (g1 h r)=o (.inl (.int j 0),g1 h r)):bB (aQ ap W) 9 [.bP CV,.halt [.code m']] [.ptr b 0 0,.agg r,dS,.ptr h.n 0 0,.ptr (h.n+1) 0 0,.ptr (h.n+1+1) 0 0,.az,.az,.az] [] (g1 h r)=o (.halt [.code m'],[.ptr b 0 0,.agg r,dS,.ptr h.n 0 0,.ptr (h.n+1) 0 0,.ptr (h.n+1+1) 0 0,.int j 0,.az,.bool T],g1 h r):=by have dU:(g1 h r).cell h.n=o [r]:=tl;unfold CV;simp only[ak,dU,gX bq,q0]
theorem K5{c3:eh}{t2 oq:List E}{a5:Act}(cx:g6 25 vi [] t2 oq [])(a3:dY ap c3 R t2 a5.tmps){D s:Nat}(aa:vi[D]? =o s):bX ap c3 R (oq.getD D .az) (a5.tmps.getD s gq):=by obtain⟨J,au⟩:=K4 cx aa;rw[<-au];exact Yo a3 J
theorem aqE{b:Nat}{r bj:List E}{aD:ag}(bt:r.all E.one=O)(bq:r.length=3)(dW:bj.all E.one=O)(e4:bj.length=3)(Rb:dS= .aA\/∃id e rows,dS= .b0 id e rows)(q0:aQ ap W 126 [.ptr b 0 0,.agg r] (g1 h r)=o (.inl (.int j 0),g1 h r))(xM:aQ ap W 128 [.ptr (g1 h r).n 0 0,.agg r] ((g1 h r).push [[.ptr b 0 0,dS]])=o (.inl (.agg bj),aD))(iD:aD.cell (h.n+1)=o [mM])(r':aD.cell (h.n+1+1)=o [[.int j 0]]):AC ap jH [.ptr b 0 0,.agg r,dS] h (.inl (.bU [.agg bj,.int j 0]),(aD.set (h.n+1) (o [bj])).set (h.n+1+1) (o [[.int j 0]])):=by
 intro m w bA hw fl cs;have dU:((g1 h r).push [[.ptr b 0 0,dS]]).cell h.n=o [r]:=(ir (by simp only[g1,ey];omega)).trans tl;have abl:(aD.set (h.n+1) (o [bj])).cell (h.n+1+1)=o [[.int j 0]]:=(eu (by omega)).trans r';have qw:bB (aQ ap W) 9 [.bP Q5,.halt []] [.ptr b 0 0,.agg r,dS,.ptr h.n 0 0,.ptr (h.n+1) 0 0,.ptr (h.n+1+1) 0 0,.int j 0,.az,.bool T] [] (g1 h r)=o (.ret,[.ptr b 0 0,.agg r,dS,.ptr h.n 0 0,.ptr (h.n+1) 0 0,.ptr (h.n+1+1) 0 0,.int j 0,.ptr (g1 h r).n 0 0,.bool T],(aD.set (h.n+1) (o [bj])).set (h.n+1+1) (o [[.int j 0]])):=by
  unfold Q5;rcases Rb with rfl|⟨id,e,rows,rfl⟩
  ·simp only[ak,aq,bW,dU,gX bq,xM,iD,dW,e4,abl]
  ·simp only[ak,aq,bW,dU,gX bq,xM,iD,dW,e4,abl]
 obtain⟨fc,t2,cg,dw,fW,cx,c3,gC,b3,dH,f',a5,hI,ha,jw⟩:=Q' bt bq (abk (dS:=dS) bq q0) (λv=>by simp) hw fl cs;rw[fW]at ha;have dd:=K5 cx hI (D:=4) (s:=6) rfl;have eB:=K5 cx hI (D:=5) (s:=7) rfl;have eJ:a5.tmps.size=25:=by rw[hI.1,cx.len]
 have lay:=abj (w:=gC) (fc:=fc) (a5:=a5) (cs:=cs) eJ rfl rfl;generalize aqF:a5.tmps.getD 6 gq=hp at dd lay;generalize aqG:a5.tmps.getD 7 gq=hq at eB lay;rw[ha]at lay;have FA:=hI.put (bX.az (.func (.func fD) #[] #[hp,hq])) (o 17);have AE:=K3 (i:=17) (v:=.az) cx (by decide);obtain⟨t5,aH,y'⟩:=v7 dg (lk K2) aqo aqs qw AE;obtain⟨hY,ht,fs,jy,kI,et,todo,nu,mc,su⟩:=aH c3 gC {a5.put (o 17) (.func (.func fD) #[] #[hp,hq])with defers:=[{target:=.fn (.func fD) #[hp,hq],args:= #[]}]} {fc with defers:=[{target:=.fn (.func fD) #[hp,hq],args:= #[]}]} cs dH FA rfl;have tE:Leaves ap Tryz.f113 et.tmps (λe ba=>∃a9,Ext m h a9 ((aD.set (h.n+1) (o [bj])).set (h.n+1+1) (o [[.int j 0]]))/\cc ap a9 ((aD.set (h.n+1) (o [bj])).set (h.n+1+1) (o [[.int j 0]])) ba/\Below m.base w ba/\∃u,e= .returned u/\bX ap a9 ((aD.set (h.n+1) (o [bj])).set (h.n+1+1) (o [[.int j 0]])) (.bU [.agg bj,.int j 0]) u) [{target:=.fn (.func fD) #[hp,hq],args:= #[]}] .returning ht:=by refine leaves_cons (f:=fD) (args:= #[hp,hq]) (by simp) (by simp[go_sem]) ?_;refine(aqc jy (dd.ext fs) (eB.ext fs)).mono ?_;rintro e oi ba ⟨⟨v,rfl⟩,rfl,dP,eD,fR,hl⟩;have kH:=Ra (h:=(aD.set (h.n+1) (o [bj])).set (h.n+1+1) (o [[.int j 0]])) (v:=.bU [.agg bj,.int j 0]) y' (by have uA:((aD.set (h.n+1) (o [bj])).set (h.n+1+1) (o [[.int j 0]])).cell (h.n+1)=o [bj]:=(eu (by omega)).trans k1;simp only[ak,uA,gX e4]);obtain⟨u,c4,hh⟩:=yq fR (nu.ext eD) kH;refine⟨u,c4,dP,(b3.trans fs).trans eD,fR,?_,u,rfl,hh⟩;have bM:c3.base=m.base:=b3.base;have bL:hY.base=c3.base:=fs.base;rw[bL,bM]at hl;rw[bM]at kI;exact(f'.trans kI).trans hl
 obtain⟨e,gH,AF,hi,aC,oF,am⟩:=leaves_steps [{target:=.fn (.func fD) #[hp,hq],args:= #[]}] .returning ht {(({fc with defers:=[{target:=.fn (.func fD) #[hp,hq],args:= #[]}]}:gI).at et todo)with mode:=.returning} cs rfl mc rfl (by simp[Frame.at,cg]) (by simpa[Frame.at]using dw) tE;exact⟨e,gH,AF,hi,Comes.of_steps (jw.trans (lay.trans su)) aC,oF.trans cg,am⟩
noncomputable abbrev wi:Array bh:=mj (ep (gK na))
noncomputable abbrev qD (i:Nat):bh:=wi.getD i default
theorem aqH:ep (gK na)= .region 6 wi T:=rfl
theorem aqI:((ap).underlying bG).isNone=T:=by kernel_rfl
theorem aqJ:kv ap bG=O:=by kernel_rfl
theorem aqK:dl ap bG=3:=by kernel_rfl
theorem aqL(t:List E)(h:ag):zW ap W jH t h (qD 0) (t.getD 9 .az) h:=.inl ⟨rfl,rfl⟩
theorem aqM{h:ag}{v:E}(am:cS O 3 h (t.getD 4 .az)=o v):zW ap W jH t h (qD 1) v h:=by refine .inl ⟨rfl,?_⟩;show(if((ap).underlying bG).isNone then ad else(cS (kv ap bG) (dl ap bG) h (t.getD 4 .az)).map λv=>(v,h))=_;rw[aqI,aqJ,aqK,am];rfl
theorem aqN(t:List E):fP t (qD 2)=o (128,[t.getD 22 .az,t.getD 23 .az]):=rfl
theorem aqO:∃fn,(ap).funcs[(128:Nat)]? =o fn/\(fn.body.isNone=T/\(fn.name== "runtime.NumGoroutine")=T):=⟨_,Tryz.func128,by kernel_rfl,by kernel_rfl⟩
theorem aqP{b:Nat}{r:List E}{aD:ag}{c:Int}(bt:r.all E.one=O)(bq:r.length=3)(Rb:dS= .aA\/∃id e rows,dS= .b0 id e rows)(q0:aQ ap W 126 [.ptr b 0 0,.agg r] (g1 h r)=o (.inl (.int j 0),g1 h r))(xM:aQ ap W 128 [.ptr (g1 h r).n 0 0,.agg r] ((g1 h r).push [[.ptr b 0 0,dS]])=o (.inr (.iface xL (.int j c)),aD))(iD:aD.cell (h.n+1)=o [mM])(r':aD.cell (h.n+1+1)=o [[.int j 0]]):AC ap jH [.ptr b 0 0,.agg r,dS] h (.inl (.bU [.agg mM,.int j c]),(aD.set (h.n+1) (o [mM])).set (h.n+1+1) (o [[.int j c]])):=by
 intro m w bA hw fl cs;have dU:((g1 h r).push [[.ptr b 0 0,dS]]).cell h.n=o [r]:=(ir (by simp only[g1,ey];omega)).trans tl;have aqQ:bB (aQ ap W) 9 [.bP Q6,.halt [.code (gK na)]] [.ptr b 0 0,.agg r,dS,.ptr h.n 0 0,.ptr (h.n+1) 0 0,.ptr (h.n+1+1) 0 0,.int j 0,.az,.bool T] [] (g1 h r)=o (.halt [.code (gK na)],[.ptr b 0 0,.agg r,dS,.ptr h.n 0 0,.ptr (h.n+1) 0 0,.ptr (h.n+1+1) 0 0,.int j 0,.ptr (g1 h r).n 0 0,.bool T],(g1 h r).push [[.ptr b 0 0,dS]]):=by
  unfold Q6;rcases Rb with rfl|⟨id,e,rows,rfl⟩
  ·simp only[ak,aq,bW]
  ·simp only[ak,aq,bW]
 obtain⟨fc,t2,cg,dw,fW,cx,c3,gC,b3,dH,f',a5,hI,ha,jw⟩:=Q' bt bq (abk (dS:=dS) bq q0) (λv=>by simp) hw fl cs;rw[fW]at ha;have dd:=K5 cx hI (D:=4) (s:=6) rfl;have eB:=K5 cx hI (D:=5) (s:=7) rfl;have eJ:a5.tmps.size=25:=by rw[hI.1,cx.len]
 have lay:=abj (w:=gC) (fc:=fc) (a5:=a5) (cs:=cs) eJ rfl rfl;generalize aqF:a5.tmps.getD 6 gq=hp at dd lay;generalize aqG:a5.tmps.getD 7 gq=hq at eB lay;rw[ha]at lay;have FA:=hI.put (bX.az (.func (.func fD) #[] #[hp,hq])) (o 17);have AE:=K3 (i:=17) (v:=.az) cx (by decide);obtain⟨t5,aH,y'⟩:=v7 dg (lk K2) aqp aqt aqQ AE;obtain⟨hY,ht,fs,jy,kI,et,nu,mc,su⟩:=aH c3 gC {a5.put (o 17) (.func (.func fD) #[] #[hp,hq])with defers:=[{target:=.fn (.func fD) #[hp,hq],args:= #[]}]} {fc with defers:=[{target:=.fn (.func fD) #[hp,hq],args:= #[]}]} cs dH FA rfl;have bg:Steps ap (e3 (fc.at {a5.put (o 17) (.func (.func fD) #[] #[hp,hq])with defers:=[{target:=.fn (.func fD) #[hp,hq],args:= #[]}]} [.code na]) cs gC) (e3 (fc.at et [.inRegion wi [0,1,2,3,4],.code .ret]) cs ht):=by
  conv=>lhs;rw[aqk]
  refine .head step_seq (su.trans ?_)
  conv=>lhs;rw[aql]
  refine .head step_seq ?_
  conv=>lhs;rw[aqH]
  exact .one step_region
 obtain⟨axw,oo⟩:=K4 y' (D:=7) (s:=9) rfl;obtain⟨fv,bY⟩:=K4 y' (D:=3) (s:=4) rfl;obtain⟨xK,jm,CW,d1,d2,d3,d4,d5⟩:=HW (b:=fc) (cs:=cs) (K:=[.code .ret]) (all:=wi) (i:=0) (rest:=[1,2,3,4]) dg rfl (rfl:bv wi t5 (qD 0)=o O) jy nu (aqL t5 _);have abm:=(nu.ext d1).put d3 (o 22);have abn:=K3 (i:=22) (v:=t5.getD 9 .az) y' (by decide);obtain⟨axx,aqR⟩:=K4 abn (D:=3) (s:=4) rfl;obtain⟨AW,l2,sk,f1,f2,f3,f4,f5⟩:=HW (b:=fc) (cs:=cs) (K:=[.code .ret]) (all:=wi) (i:=1) (rest:=[2,3,4]) (I:=qD 1) (a:=et.put (o 22) CW) (v:=.agg r) dg rfl (rfl:bv wi _ (qD 1)=o O) d2 abm (aqM (by rw[aqR];simp[cS,ag.row,dU,gX bq]));have Rc:=(abm.ext f1).put f3 (o 23);have abo:=K3 (i:=23) (v:=.agg r) abn (by decide);obtain⟨fn,da,ch,eF⟩:=aqO;have axy:(fj (fj t5 (o 22) (t5.getD 9 .az)) (o 23) (.agg r)).length=25:=abo.len;have A5:t5.length=25:=y'.len;have abp:=aqN (fj (fj t5 (o 22) (t5.getD 9 .az)) (o 23) (.agg r));have pz:(fj (fj t5 (o 22) (t5.getD 9 .az)) (o 23) (.agg r)).getD 22 .az= .ptr (g1 h r).n 0 0:=by
  have:(fj (fj t5 (o 22) (t5.getD 9 .az)) (o 23) (.agg r)).getD 22 .az=t5.getD 9 .az:=by simp[fj,dz,A5]
  rw[this,oo];rfl
 have aqS:(fj (fj t5 (o 22) (t5.getD 9 .az)) (o 23) (.agg r)).getD 23 .az= .agg r:=by simp[fj,dz,A5]
 rw[pz,aqS]at abp;have ia:=UE dg xM;obtain⟨aqT,dL,cn⟩:=HF (w:=l2) Rc abp da eF ch;obtain⟨e,oQ,hi,bS⟩:=DP (b:=fc) (cs:=cs) (k:=[.code .ret]) (rest:=[3,4]) (all:=wi) (i:=2) rfl (yp Rc wi (qD 2) (rfl:bv wi _ (qD 2)=o O)) cn (ia AW l2 aqT f2 dL) (by rintro ba ⟨a9,_,_,_,gB,h,_⟩;cases h);obtain⟨QM,eD,fR,hl,u8,rfl,kj⟩:=hi;rcases bS with⟨bs,ah,_⟩|⟨gr,ah,todo,nc⟩
 ·cases ah
 injection ah with ah;subst ah;have tE:Leaves ap Tryz.f113 ((et.put (o 22) CW).put (o 23) sk).tmps (λe ba=>∃a9,Ext m h a9 ((aD.set (h.n+1) (o [mM])).set (h.n+1+1) (o [[.int j c]]))/\cc ap a9 ((aD.set (h.n+1) (o [mM])).set (h.n+1+1) (o [[.int j c]])) ba/\Below m.base w ba/\∃u,e= .returned u/\bX ap a9 ((aD.set (h.n+1) (o [mM])).set (h.n+1+1) (o [[.int j c]])) (.bU [.agg mM,.int j c]) u) [{target:=.fn (.func fD) #[hp,hq],args:= #[]}] (.panicking [{v:=u8,recovered:=T}]) oQ:=by refine leaves_cons (f:=fD) (args:= #[hp,hq]) (by simp) (by simp[go_sem]) ?_;refine(aqd (code:=c) fR (((((dd.ext fs).ext d1).ext f1).ext eD)) (((((eB.ext fs).ext d1).ext f1).ext eD)) kj iD r' (by omega) rfl).mono ?_;rintro e oi ba ⟨⟨v,rfl⟩,rfl,F9,fm,lp,ll⟩;have kH:=Ra (h:=(aD.set (h.n+1) (o [mM])).set (h.n+1+1) (o [[.int j c]])) (v:=.bU [.agg mM,.int j c]) abo (by have uA:((aD.set (h.n+1) (o [mM])).set (h.n+1+1) (o [[.int j c]])).cell (h.n+1)=o [mM]:=(eu (by omega)).trans k1;simp only[ak,aq,uA]);obtain⟨u,c4,hh⟩:=yq lp ((Rc.ext eD).ext fm) kH;refine⟨u,c4,F9,((((b3.trans fs).trans d1).trans f1).trans eD).trans fm,lp,?_,u,rfl,hh⟩;have bM:c3.base=m.base:=b3.base;have bL:hY.base=c3.base:=fs.base;have de:xK.base=hY.base:=d1.base;have n2:AW.base=xK.base:=f1.base;have uA:QM.base=AW.base:=eD.base;rw[uA,n2,de,bL,bM]at ll;rw[n2,de,bL,bM]at hl;rw[de,bL,bM]at f4;rw[bL,bM]at d4;rw[bM]at kI;exact((((f'.trans kI).trans d4).trans f4).trans hl).trans ll
 have aqU:((et.put (o 22) CW).put (o 23) sk).defers=[{target:=.fn (.func fD) #[hp,hq],args:= #[]}]:=mc;obtain⟨e,wb,AF,hi,aC,oF,am⟩:=leaves_steps [{target:=.fn (.func fD) #[hp,hq],args:= #[]}] (.panicking [{v:=u8,recovered:=T}]) oQ {(fc.at ((et.put (o 22) CW).put (o 23) sk) todo)with mode:=.panicking [{v:=u8,recovered:=T}]} cs rfl aqU rfl (by simp[Frame.at,cg]) (by simpa[Frame.at]using dw) tE;exact⟨e,wb,AF,hi,Comes.of_steps (jw.trans (lay.trans (bg.trans (d5.trans (f5.trans nc))))) aC,oF.trans cg,am⟩
end
section
variable{h:ag}{ae ai:Nat->Prop}{b:Nat}{G:a0}
theorem Rd(g:eX h ae ai b G)(r:List E):hd h ae ai b (g1 h r) G [h.n+1+1,h.n+1,h.n] []:=(((hd.start g).push [r]).push [mM]).push [[.int j 0]]
theorem K6(g:eX h ae ai b G)(cH:G.dE){x:av}{r:List E}(aw:bT x r):aQ ap W 126 [.ptr b 0 0,.agg r] (g1 h r)=o (.inl (.int j (pj G x)),g1 h r):=by obtain⟨dX,ec,ch⟩:=(Rd g r).aaR;exact apI ch cH aw
theorem aqV{x:av}(aN:pj G x=0):x.size<=100000:=by
 have:x.code=0:=by
  unfold pj at aN;split at aN
  ·exact aN
  ·rename_i an;simpa using an
 have:=KX this;omega
theorem Re(g:eX h ae ai b G)(cH:G.dE){x:av}{r:List E}(aw:bT x r)(a8:fo 3 dS (gl aT))(Z:aT.length<=1000000)(aN:pj G x=0):∃aD,(∃q,aQ ap W 128 [.ptr (g1 h r).n 0 0,.agg r] ((g1 h r).push [[.ptr b 0 0,dS]])=o (q,aD)/\Gd aT G x q)/\hd h ae ai b aD (fO aT x G).1 [(g1 h r).n,h.n+1+1,h.n+1,h.n] []/\aD.cell (h.n+1)=o [mM]/\aD.cell (h.n+1+1)=o [[.int j 0]]:=by
 have cL:=(Rd g r).push [[.ptr b 0 0,dS]];obtain⟨aD,e,c3,k, -, -⟩:=cL.KW (cF:=λaD=>∃q,aQ ap W 128 [.ptr (g1 h r).n 0 0,.agg r] ((g1 h r).push [[.ptr b 0 0,dS]])=o (q,aD)/\Gd aT G x q) (cN:=(fO aT x G).1) λdX ec ch _ tR=>by obtain⟨q,aD,e,bR,d⟩:=apK a8.ed Z _ x (b4 _) (aqV aN) r ((g1 h r).push [[.ptr b 0 0,dS]]) dX ec G ch cH (by simp only[ey];omega) (tR _ (by simp)) iG aw;exact⟨aD,⟨q,e,bR⟩,d⟩
 refine⟨aD,e,c3,(k _ (by simp)).trans ?_,(k _ (by simp)).trans ?_⟩
 ·exact(ir (by simp only[g1,ey];omega)).trans vQ
 ·exact(ir (by simp only[g1,ey];omega)).trans vP
theorem abq{rows:List (List E)}(a8:fo e dS rows):dS= .aA\/∃id e rows,dS= .b0 id e rows:=by
 rcases a8 with⟨_,h⟩|⟨id,h⟩
 ·exact .inl h
 ·exact .inr ⟨_,_,_,h⟩
theorem aqW(g:eX h ae ai b G)(cH:G.dE){x:av}{r:List E}(aw:bT x r)(a8:fo 3 dS (gl aT))(Z:aT.length<=1000000):∃q,AC ap jH [.ptr b 0 0,.agg r,dS] h q/\Vp [.ptr b 0 0,.agg r,dS] h q:=by
 obtain⟨bt,bq⟩:=aw.one;have q0:=K6 g cH aw;by_cases aN:pj G x=0
 ·rw[aN]at q0;obtain⟨aD,⟨q,xM,me⟩,a4,iD,r'⟩:=Re g cH aw a8 Z aN;rcases me with⟨mo,bj,rfl,dH⟩|⟨mo,rfl⟩
  ·obtain⟨dW,e4⟩:=dH.one;refine⟨_,aqE bt bq dW e4 (abq a8) q0 xM iD r',?_⟩;rintro dX ec dw wj f' hz sF zn e eF A6 xi K7 K8;simp only[xf,E.ptr.injEq,E.agg.injEq,and_true]at e;obtain⟨rfl,rfl,rfl⟩:=e;have rL:=K6 eF A6 xi;rw[q0]at rL;simp only[hZ,kh,Sum.inl.injEq,E.int.injEq,true_and,and_true]at rL;obtain⟨bo,⟨q,A7,Rf⟩,A1, -, -⟩:=Re eF A6 xi K7 K8 rL.symm;rw[xM]at A7;simp only[hZ,kh]at A7;obtain⟨rfl,rfl⟩:=A7;have aX:fC zn wj f'=fO zn f' wj:=by rw[fC,if_neg (by simp[<-rL])]
   rcases Rf with⟨CX,jV,bY,hI⟩|⟨_,bY⟩
   ·simp only[Sum.inl.injEq,E.agg.injEq]at bY;subst bY;rw[aX];exact⟨bj,_,by rw[CX],hI,((A1.set (by simp) _).set (by simp) _).sC⟩
   ·cases bY
  ·refine⟨_,aqP bt bq (abq a8) q0 xM iD r',?_⟩;rintro dX ec dw wj f' hz sF zn e eF A6 xi K7 K8;simp only[xf,E.ptr.injEq,E.agg.injEq,and_true]at e;obtain⟨rfl,rfl,rfl⟩:=e;have rL:=K6 eF A6 xi;rw[q0]at rL;simp only[hZ,kh,Sum.inl.injEq,E.int.injEq,true_and,and_true]at rL;obtain⟨bo,⟨q,A7,Rf⟩,A1, -, -⟩:=Re eF A6 xi K7 K8 rL.symm;rw[xM]at A7;simp only[hZ,kh]at A7;obtain⟨rfl,rfl⟩:=A7;have aX:fC zn wj f'=fO zn f' wj:=by rw[fC,if_neg (by simp[<-rL])]
   rcases Rf with⟨_,jV,bY,_⟩|⟨CX,bY⟩
   ·cases bY
   ·simp only[Sum.inr.injEq,E.iface.injEq,E.int.injEq,true_and]at bY;have U:(fO zn f' wj).2.1=cv:=by
     rw[Is]at CX ⊢;split
     ·rfl
     ·rename_i J;rw[if_neg J]at CX;split
      ·rfl
      ·rename_i R;rw[if_neg R]at CX;exact absurd rfl CX
    rw[aX,U];exact⟨mM,_,by rw[bY],e6,((A1.set (by simp) _).set (by simp) _).sC⟩
 ·refine⟨_,aqB bt bq aN q0,?_⟩;rintro dX ec dw wj f' hz sF zn e eF A6 xi K7 K8;simp only[xf,E.ptr.injEq,E.agg.injEq,and_true]at e;obtain⟨rfl,rfl,rfl⟩:=e;have rL:=K6 eF A6 xi;rw[q0]at rL;simp only[hZ,kh,Sum.inl.injEq,E.int.injEq,true_and,and_true]at rL;have aX:fC zn wj f'=(wj,cv,pj wj f'):=by rw[fC,if_pos (by rw[<-rL];exact aN)]
  rw[aX];exact⟨mM,_,by rw[rL],e6,((Rd eF r).set (by simp) _).sC⟩
theorem aqX:W.ext jH=o Ez:=by show rv jH=_;unfold rv;exact if_pos rfl
theorem abr(g:eX h ae ai b G)(cH:G.dE){x:av}{r:List E}(aw:bT x r)(a8:fo 3 dS (gl aT))(Z:aT.length<=1000000):∃F,(∃bj,aQ ap W 113 [.ptr b 0 0,.agg r,dS] h=o (.inl (.bU [.agg bj,.int j (fC aT G x).2.2]),F)/\bT (fC aT G x).2.1 bj)/\fN h ae ai b F (fC aT G x).1:=by
 have H:=aqW g cH aw a8 Z;have e:aQ ap W jH [.ptr b 0 0,.agg r,dS] h=o (Classical.choose H):=by unfold aQ;rw[aqX];show Ez _ _=_;unfold Ez;rw[dif_pos H]
 obtain⟨bj,F,J,R,ah⟩:=(Classical.choose_spec H).2 ae ai b G x r dS aT rfl g cH aw a8 Z;rw[J]at e;exact⟨F,⟨bj,e,R⟩,ah⟩
end
structure ie(c:ix)(n:fJ):Prop where
 ms:c.ms.length=4
 S:n.S.Good
 below:n.below.length<=100
 db:n.top.stack.length<=100000
 vX:n.top.names.length<=100000
 log:n.S.log.length<=1000000
theorem ie.len{c:ix}{n:fJ}(I:ie c n):c.ms.length=n.S.kept.length:=I.ms.trans I.S.kept.symm
def eZ(aj:ag)(aJ aG:Nat->Prop)(c:ix)(L:List b6)(i:Nat)(n:fJ)(q:bK×av×Int)(aI:E⊕E)(F:ag):Prop:=(q.2.2=0/\aI= .inl (.bU [])/\aK aj aJ aG F (put c L i {n with S:=q.1,top:={n.top with stack:=n.top.stack++[q.2.1]}}))\/(q.2.2≠0/\aI= .inr (.iface mi (.int j q.2.2))/\∃b':fJ,b'.S=q.1/\aK aj aJ aG F (put c L i b'))
section
variable{h F aj:ag}{ae ai aJ aG:Nat->Prop}{L:List b6}{c:ix}{i:Nat}{n:fJ}
theorem eZ.no{S:bK}{k:Int}(Z:k≠0)(b':fJ)(cO:b'.S=S)(s:aK aj aJ aG F (put c L i b')):eZ aj aJ aG c L i n (S.no k) (.inr (.iface mi (.int j k))) F:=.inr ⟨Z,rfl,b',cO,s⟩
theorem eZ.ok{S:bK}{v:av}(s:aK aj aJ aG F (put c L i {n with S:=S,top:={n.top with stack:=n.top.stack++[v]}})):eZ aj aJ aG c L i n (S.ok v) (.inl (.bU [])) F:=.inl ⟨rfl,rfl,s⟩
theorem eZ.fail(a:eY c L i n){k:Int}(Z:k≠0)(s:aK aj aJ aG F L):eZ aj aJ aG c L i n (n.S.no k) (.inr (.iface mi (.int j k))) F:=eZ.no Z n rfl (by rw[a.same];exact s)
theorem eZ.drop{X:b6}{q:bK×av×Int}{aI:E⊕E}(r:eZ aj aJ aG c (X::L) (i+1) n q aI F):eZ aj aJ aG c L i n q aI F:=by
 rcases r with⟨a,b,s⟩|⟨a,b,b',e,s⟩
 ·exact .inl ⟨a,b,s.drop⟩
 ·exact .inr ⟨a,b,b',e,s.drop⟩
theorem pC(s:aK aj aJ aG h L)(a:eY c L i n)(ab:n.below.length<=100)(aC:n.top.stack.length<=100000){v:av}{r:List E}(U:bT v r):∃F,aQ ap W oO [.ptr c.bw 0 0,.agg r] h=o (.inl (.bU []),F)/\aK aj aJ aG F (put c L i {n with top:={n.top with stack:=n.top.stack++[v]}}):=by obtain⟨F,e,ew⟩:=anQ s i a.m U (by omega) (by omega);rw[a.wg]at ew;exact⟨F,e,ew⟩
theorem Rg(s:aK aj aJ aG h L)(a:eY c L i n){v:av}(bS:n.top.stack=st++[v])(ab:n.below.length<=100)(am:st.length<=100000):∃F r,aQ ap W 90 [.ptr c.bw 0 0] h=o (.inl (.agg r),F)/\bT v r/\aK aj aJ aG F (put c L i {n with top:={n.top with stack:=st}}):=by obtain⟨F,⟨r,e,U⟩,ew⟩:=anR s i a.m bS (by omega) (by omega);rw[a.wg]at ew;exact⟨F,r,e,U,ew⟩
theorem Gi(s:aK aj aJ aG h L)(a:eY c L i n){cN:a0}(iw:∀ae ai,eX h ae ai c.ck n.S.G->∃F,cF F/\fN h ae ai c.ck F cN):∃F,cF F/\aK aj aJ aG F (put c L i {n with S:={n.S with G:=cN}}):=by obtain⟨F,r,ew⟩:=s.call (cF:=cF) (Y:=bi c.ck cN) (i+2) a.g iw;rw[a.ap2]at ew;exact⟨F,r,ew⟩
theorem d8(s:aK aj aJ aG h L)(a:eY c L i n)(am:c.ms.length=n.S.kept.length):(∀k:Nat,cS T k h (.ptr c.bw 0 0)=o (.ptr c.aO 0 0))/\(∀k:Nat,cS T k h (.ptr c.aO 0 0)=o (.ptr c.ck 0 0))/\∀k:Nat,cS T k h (.ptr c.aO 0 1)=o (.ptr c.cr 0 0):=by obtain⟨eP,dm,aL,g,a4⟩:=pB s i a.m;obtain⟨cg,dw⟩:=K0 s a.b am;refine⟨λk=>?_,cg,dw⟩;rw[fL,a4.m,c2,mY,c2,gi];rfl
theorem nL(s:aK aj aJ aG h L)(a:eY c L i n)(ab:n.below.length<=100):aQ ap W JN [.ptr c.bw 0 0] h=o (.inl (.ptr n.bk n.below.length 0),h)/\∀k:Nat,cS T k h (.ptr n.bk n.below.length 0)=o (.int j n.top.bI):=by obtain⟨eP,dm,aL,g,a4⟩:=pB s i a.m;exact⟨JP a4.m (by omega),λk=>a4.rd k 0 _ (oP n.top eP dm aL g a4.aX.cD.1).2.2.2.2.2.1⟩
theorem CY(t:e5):cQ t=[.int j t.parent,.int j t.gate,.int j t.dn,.int j t.cell,.int j t.bI,.int j t.func]:=rfl
theorem abs{p k n:Int}{v:av}{S:bK}:gZ p 13 k n [v] S=if v.kind≠4 then S.no 2 else if fS (S.G.dn v.n) 0=T then S.no 9 else if 0<=(S.G.target v.n).1.bI then S.no 2 else({S with log:=S.log++[nA.mk p (S.G.target v.n).1.cell 1 v.n]}:bK).ok (lx (S.cells.getD (S.G.target v.n).1.cell.toNat 0)):=rfl
theorem K9{G:a0}(cH:G.dE){i:Int}{k:Nat}(ab:fS (G.dn i) k=O)(aH:¬0<=(G.target i).1.bI):0<=(G.target i).1.cell/\(G.target i).1.cell<12:=by
 have bC:G.has i=O:=by
  cases h:G.has i with
  |true=>rfl
  |false=>
    have:G.dn i=0:=by unfold a0.dn;rw[if_pos (.inl (a0.Ac h))]
    rw[this]at ab;have R:fS 0 k=T:=by unfold fS;rw[Int.zero_ediv];decide
    rw[R]at ab;cases ab
 obtain⟨_,_,J|J⟩:=a0.Qf cH bC
 ·exact⟨J.2.1,J.2.2.1⟩
 ·omega
theorem aqY(s:aK aj aJ aG h L)(a:eY c L i n)(I:ie c n){v:av}{r:List E}(U:bT v r)(k m:Int):∃aI F,aQ ap W 129 [.ptr c.bw 0 0,.agg r] h=o (aI,F)/\eZ aj aJ aG c L i n (gZ n.top.bI 13 k m [v] n.S) aI F:=by
 rw[abs];have bg:=s.push [r];have aR:=a.cons (aY h.n [r]);obtain⟨bt,bq⟩:=U.cD;by_cases Z:v.kind=4
 ·rw[if_neg (by simpa using Z)];obtain⟨bj,e8,mR⟩:=tN (h:=h.push [r]) U Z;have l4:=Q3 bg aR.m aR.b aR.g I.len I.S.wf mR (k:=0) (q:=1) (by decide) (by decide);by_cases ab:fS (n.S.G.dn v.n) 0=O
  ·rw[if_pos ab]at l4;rw[if_neg (by simp[ab])];have aV:=bg.push [cQ (n.S.G.target v.n).1];have a5:=aR.cons (aY (h.push [r]).n [cQ (n.S.G.target v.n).1]);by_cases aH:0<=(n.S.G.target v.n).1.bI
   ·rw[if_pos aH];have d:decide (0<=(n.S.G.target v.n).1.bI)=O:=decide_eq_true aH;refine⟨_,_,?_,eZ.fail a (by decide) aV.drop.drop⟩;refine a2 Jo rfl ?_;unfold Fc;simp only[ak,aq,ar,al,bJ,bt,bq,e8,l4,CY,d,qc]
   ·rw[if_neg aH];have d:decide (0<=(n.S.G.target v.n).1.bI)=T:=decide_eq_false aH;obtain⟨ib,cK,cX⟩:=d8 aV a5 I.len;obtain⟨dM,lA⟩:=nL aV a5 I.below;obtain⟨ah,bc,br⟩:=apA aV (i+1+1+3) a5.w I.S.cells I.log (K9 I.S.wf ab aH) n.top.bI v.n;rw[a5.abd]at br;have bp:=a5.put {n with S:={n.S with cells:=n.S.cells,log:=n.S.log++[⟨n.top.bI,(n.S.G.target v.n).1.cell,1,v.n⟩]}};obtain⟨aD,bY,bz⟩:=pC br bp I.below I.db (we (n.S.cells.getD (n.S.G.target v.n).1.cell.toNat 0));rw[hT,eC,eC]at bz;refine⟨_,aD,?_,eZ.ok bz.drop.drop⟩;have f0:b5 0 (.ptr c.bw 0 0)=o (.ptr c.bw 0 0):=rfl;have f1:b5 1 (.ptr c.aO 0 0)=o (.ptr c.aO 0 1):=rfl;have f2:b5 0 (.ptr n.bk n.below.length 0)=o (.ptr n.bk n.below.length 0):=rfl;rw[CY]at ib cK cX dM lA bc;refine a2 Jo rfl ?_;unfold Fc;simp only[ak,aq,ar,al,bJ,bt,bq,e8,l4,CY,d,oU,f0,f1,f2,ib,cX,dM,lA,bc,Q2,bY]
  ·rw[if_neg ab]at l4;rw[if_pos (by simpa using ab)];refine⟨_,_,?_,eZ.fail a (by decide) bg.drop⟩;refine a2 Jo rfl ?_;unfold Fc;simp only[ak,aq,ar,al,bJ,bt,bq,e8,l4]
 ·rw[if_pos Z];have e8:=tO (h:=h.push [r]) U Z;refine⟨_,_,?_,eZ.fail a (by decide) bg.drop⟩;refine a2 Jo rfl ?_;unfold Fc;simp only[ak,aq,ar,al,bJ,bt,bq,e8]
theorem abt{p k n:Int}{v x:av}{S:bK}:gZ p 14 k n [v,x] S=if v.kind≠4\/x.kind≠1 then S.no 2 else if fS (S.G.dn v.n) 1=T then S.no 9 else if 0<=(S.G.target v.n).1.bI then S.no 2 else({S with log:=S.log++[nA.mk p (S.G.target v.n).1.cell 2 v.n],cells:=S.cells.set (S.G.target v.n).1.cell.toNat x.n}:bK).ok x:=rfl
theorem aqZ(s:aK aj aJ aG h L)(a:eY c L i n)(I:ie c n){v x:av}{r:List E}(U:bT v r)(aw:bT x t)(k m:Int):∃aI F,aQ ap W 130 [.ptr c.bw 0 0,.agg r,.agg t] h=o (aI,F)/\eZ aj aJ aG c L i n (gZ n.top.bI 14 k m [v,x] n.S) aI F:=by
 rw[abt];have bg:=(s.push [r]).push [t];have aR:=(a.cons (aY h.n [r])).cons (aY (h.push [r]).n [t]);obtain⟨bt,bq⟩:=U.cD;obtain⟨dW,e4⟩:=aw.cD;have aP:((h.push [r]).push [t]).cell h.n=o [r]:=(bg.cell 1 rfl).1;have bu:((h.push [r]).push [t]).cell (h.n+1)=o [t]:=(bg.cell 0 rfl).1;by_cases Z:v.kind=4
 ·obtain⟨bj,e8,mR⟩:=tN (h:=(h.push [r]).push [t]) U Z;by_cases sl:x.kind=1
  ·rw[if_neg (by simp[Z,sl])];obtain⟨dF,xN,ur⟩:=tN (h:=(h.push [r]).push [t]) aw sl;have l4:=Q3 bg aR.m aR.b aR.g I.len I.S.wf U (k:=1) (q:=2) (by decide) (by decide);by_cases ab:fS (n.S.G.dn v.n) 1=O
   ·rw[if_pos ab]at l4;rw[if_neg (by simp[ab])];have aV:=bg.push [cQ (n.S.G.target v.n).1];have a5:=aR.cons (aY ((h.push [r]).push [t]).n [cQ (n.S.G.target v.n).1]);by_cases aH:0<=(n.S.G.target v.n).1.bI
    ·rw[if_pos aH];have d:decide (0<=(n.S.G.target v.n).1.bI)=O:=decide_eq_true aH;refine⟨_,_,?_,eZ.fail a (by decide) aV.drop.drop.drop⟩;refine a2 Fg rfl ?_;unfold CD;simp only[ak,aq,ar,al,bJ,bt,bq,dW,e4,aP,bu,e8,xN,l4,CY,d,qc]
    ·rw[if_neg aH];have d:decide (0<=(n.S.G.target v.n).1.bI)=T:=decide_eq_false aH;obtain⟨ib,cK,cX⟩:=d8 aV a5 I.len;obtain⟨dM,lA⟩:=nL aV a5 I.below;obtain⟨w,hw,_⟩:=aw.iQ;have cd:(((h.push [r]).push [t]).push [cQ (n.S.G.target v.n).1]).cell (h.n+1)=o [t]:=(aV.cell 1 rfl).1;have aq0:t[1]? =o (.int j x.n):=by rw[hw];rfl
     obtain⟨ah,bc,br⟩:=apB aV (i+1+1+1+3) a5.w I.S.cells I.log (K9 I.S.wf ab aH) n.top.bI v.n x.n;rw[a5.abd]at br;have bp:=a5.put {n with S:={n.S with cells:=n.S.cells.set (n.S.G.target v.n).1.cell.toNat x.n,log:=n.S.log++[⟨n.top.bI,(n.S.G.target v.n).1.cell,2,v.n⟩]}};have dU:=(br.cell 1 rfl).1;simp only[ey]at dU;obtain⟨aD,bY,bz⟩:=pC br bp I.below I.db aw;rw[hT,eC,eC,eC]at bz;refine⟨_,aD,?_,eZ.ok bz.drop.drop.drop⟩;have f0:b5 0 (.ptr c.bw 0 0)=o (.ptr c.bw 0 0):=rfl;have f1:b5 1 (.ptr c.aO 0 0)=o (.ptr c.aO 0 1):=rfl;have f2:b5 0 (.ptr n.bk n.below.length 0)=o (.ptr n.bk n.below.length 0):=rfl;rw[CY]at ib cK cX dM lA bc cd;refine a2 Fg rfl ?_;unfold CD;simp only[ak,aq,ar,al,bJ,bt,bq,dW,e4,aP,bu,e8,xN,l4,CY,d,oU,f0,f1,f2,ib,cX,dM,lA,cd,aq0,bc,dU,bY]
   ·rw[if_neg ab]at l4;rw[if_pos (by simpa using ab)];refine⟨_,_,?_,eZ.fail a (by decide) bg.drop.drop⟩;refine a2 Fg rfl ?_;unfold CD;simp only[ak,aq,ar,al,bJ,bt,bq,dW,e4,aP,bu,e8,xN,l4]
  ·rw[if_pos (.inr sl)];have xN:=tO (h:=(h.push [r]).push [t]) aw sl;refine⟨_,_,?_,eZ.fail a (by decide) bg.drop.drop⟩;refine a2 Fg rfl ?_;unfold CD;simp only[ak,aq,ar,al,bJ,bt,bq,dW,e4,aP,bu,e8,xN]
 ·rw[if_pos (.inl Z)];have e8:=tO (h:=(h.push [r]).push [t]) U Z;refine⟨_,_,?_,eZ.fail a (by decide) bg.drop.drop⟩;refine a2 Fg rfl ?_;unfold CD;simp only[ak,aq,ar,al,bJ,bt,bq,dW,e4,aP,e8]
end
section
variable{h F aj:ag}{ae ai aJ aG:Nat->Prop}{L:List b6}{c:ix}{i:Nat}{n:fJ}
theorem abu(s:aK aj aJ aG h L)(a:eY c L i n)(am:c.ms.length=n.S.kept.length)(cH:n.S.G.dE){v:av}{r:List E}(U:bT v r)(lD g:Int):∃F,aQ ap W 131 [.ptr c.bw 0 0,.agg r,.int j lD,.int j g] h=o (if(n.S.G.derive v.n lD g).2.2=0 then .inl (.agg [.int j 4,.int j (n.S.G.derive v.n lD g).2.1,.aA])else .inr (.iface mi (.int j (n.S.G.derive v.n lD g).2.2)),F)/\aK aj aJ aG F (put c L i {n with S:={n.S with G:=(n.S.G.derive v.n lD g).1}}):=by
 have bg:=(s.push [r]).push [aU];have aR:=(a.cons (aY h.n [r])).cons (aY (h.push [r]).n [aU]);obtain⟨w,hw,aF⟩:=U.iQ;obtain⟨bt,bq⟩:=U.cD;have aP:((h.push [r]).push [aU]).cell h.n=o [r]:=(bg.cell 1 rfl).1;obtain⟨ib,cK,cX⟩:=d8 bg aR am;have aE:r[1]? =o (.int j v.n):=by rw[hw];rfl
 obtain⟨R,ax,aV⟩:=Gi bg aR (cF:=λF=>aQ ap W 84 [.ptr c.ck 0 0,.int j v.n,.int j lD,.int j g] ((h.push [r]).push [aU])=o (.inl (.bU [.int j (n.S.G.derive v.n lD g).2.1,.int j (n.S.G.derive v.n lD g).2.2]),F)) λae ai x=>aaM x cH v.n lD g;rw[eC,eC]at aV;have bu:=(aV.cell 0 rfl).1;simp only[ey]at bu;have f0:b5 0 (.ptr c.bw 0 0)=o (.ptr c.bw 0 0):=rfl;have f1:b5 0 (.ptr c.aO 0 0)=o (.ptr c.aO 0 0):=rfl;by_cases an:(n.S.G.derive v.n lD g).2.2=0
 ·have d:decide ((n.S.G.derive v.n lD g).2.2=0)=O:=decide_eq_true an;rw[if_pos an];have br:=aV.set 0 rfl [[.int j 4,.int j (n.S.G.derive v.n lD g).2.1,.aA]];refine⟨_,?_,br.drop.drop⟩;generalize n.S.G.derive v.n lD g=q at*;refine a2 XH rfl ?_;unfold Pq;simp only[ak,aq,ar,al,bW,bJ,bt,bq,aP,ib,cK,f0,f1,aE,ax,d,oU,bu]
 ·have d:decide ((n.S.G.derive v.n lD g).2.2=0)=T:=decide_eq_false an;rw[if_neg an];refine⟨_,?_,aV.drop.drop⟩;generalize n.S.G.derive v.n lD g=q at*;refine a2 XH rfl ?_;unfold Pq;simp only[ak,aq,ar,al,bJ,bt,bq,aP,ib,cK,f0,f1,aE,ax,d,qc]
theorem abv{p k n:Int}{v:av}{S:bK}:gZ p 16 k n [v] S=if v.kind≠4 then S.no 2 else if S.G.gate.2.2≠0 then({S with G:=S.G.gate.1}:bK).no S.G.gate.2.2 else match S.G.gate.1.derive v.n 15 S.G.gate.2.1 with
   |(cN,m,c)=>if c≠0 then({S with G:=cN}:bK).no c else({S with G:=cN}:bK).ok (.mk 2 0 [ly m,.mk 5 S.G.gate.2.1 []]):=rfl
theorem aq1(s:aK aj aJ aG h L)(a:eY c L i n)(I:ie c n){v:av}{r:List E}(U:bT v r)(k m:Int):∃aI F,aQ ap W 132 [.ptr c.bw 0 0,.agg r] h=o (aI,F)/\eZ aj aJ aG c L i n (gZ n.top.bI 16 k m [v] n.S) aI F:=by
 rw[abv];have bg:=s.push [r];have aR:=a.cons (aY h.n [r]);obtain⟨bt,bq⟩:=U.cD;by_cases Z:v.kind=4
 ·rw[if_neg (by simpa using Z)];obtain⟨bj,e8,mR⟩:=tN (h:=h.push [r]) U Z;obtain⟨ib,cK,cX⟩:=d8 bg aR I.len;have f0:b5 0 (.ptr c.bw 0 0)=o (.ptr c.bw 0 0):=rfl;have f1:b5 0 (.ptr c.aO 0 0)=o (.ptr c.aO 0 0):=rfl;obtain⟨R,ax,aV⟩:=Gi bg aR (cF:=λF=>aQ ap W 63 [.ptr c.ck 0 0] (h.push [r])=o (.inl (.bU [.int j n.S.G.gate.2.1,.int j n.S.G.gate.2.2]),F)) λae ai x=>Xb x I.S.wf;have a5:=aR.put {n with S:={n.S with G:=n.S.G.gate.1}};have Rh:=aV;rw[eC]at Rh;have bu:=(Rh.cell 0 rfl).1;by_cases a8:n.S.G.gate.2.2=0
  ·rw[if_neg (by simpa using a8)];have xO:decide (n.S.G.gate.2.2=0)=O:=decide_eq_true a8;obtain⟨ah,bc,br⟩:=abu aV a5 I.len (I.S.wf.gate) U 15 n.S.G.gate.2.1;rw[hT]at br;have bp:=aR.put {n with S:={n.S with G:=(n.S.G.gate.1.derive v.n 15 n.S.G.gate.2.1).1}};generalize n.S.G.gate.1.derive v.n 15 n.S.G.gate.2.1=q at*;obtain⟨cN,a9,iw⟩:=q;simp only at bc br bp ⊢;by_cases an:iw=0
   ·subst an;rw[if_pos rfl]at bc;rw[if_neg (by simp)];have bz:=(br.push [[.int j 4,.int j a9,.aA]]).fresh 2;have cA:=(bp.cons (aY ah.n [[.int j 4,.int j a9,.aA]])).cons (Ev (ah.push [[.int j 4,.int j a9,.aA]]).ids 2);have A8:bT (.mk 2 0 [ly a9,.mk 5 n.S.G.gate.2.1 []]) [.int j 2,.int j 0,.b0 (o ah.ids) bG [[.int j 4,.int j a9,.aA],[.int j 5,.int j n.S.G.gate.2.1,.aA]]]:=KZ ⟨_,_,rfl,zl a9,_,_,rfl,aa5 _,rfl⟩;obtain⟨bo,cU,b8⟩:=pC bz cA I.below I.db A8;rw[eC,eC,hT,eC]at b8;refine⟨_,bo,?_,eZ.ok b8.drop.drop.drop⟩;refine a2 Ju rfl ?_;unfold Fh;simp only[ak,aq,ar,al,bW,tG,bJ,bt,bq,e8,ib,cK,f0,f1,ax,xO,oU,bu,bc,cU]
   ·rw[if_neg an]at bc;rw[if_pos an];rw[eC]at br;refine⟨_,_,?_,eZ.no an {n with S:={n.S with G:=cN}} rfl br.drop⟩;refine a2 Ju rfl ?_;unfold Fh;simp only[ak,aq,ar,al,bJ,bt,bq,e8,ib,cK,f0,f1,ax,xO,oU,bu,bc]
  ·rw[if_pos a8];have xO:decide (n.S.G.gate.2.2=0)=T:=decide_eq_false a8;refine⟨_,_,?_,eZ.no a8 {n with S:={n.S with G:=n.S.G.gate.1}} rfl Rh.drop⟩;refine a2 Ju rfl ?_;unfold Fh;simp only[ak,aq,ar,al,bJ,bt,bq,e8,ib,cK,f0,f1,ax,xO,qc]
 ·rw[if_pos Z];have e8:=tO (h:=h.push [r]) U Z;refine⟨_,_,?_,eZ.fail a (by decide) bg.drop⟩;refine a2 Ju rfl ?_;unfold Fh;simp only[ak,aq,ar,al,bJ,bt,bq,e8]
theorem abw(s:aK aj aJ aG h L)(a:eY c L i n)(ab:n.below.length<=100){gu:List E}{g:E}(aX:bT f.arg gu)(a8:fo 3 g (gl f.eW))(aC:f.stack=[])(aE:f.names=[]):(n.below.length+1=20->∃F,aQ ap W 133 [.ptr c.bw 0 0,.agg (g7 f gu .aA .aA g)] h=o (.inr (.iface mi (.int j 4)),F)/\aK aj aJ aG F L)/\(n.below.length+1≠20->∃F hu,aQ ap W 133 [.ptr c.bw 0 0,.agg (g7 f gu .aA .aA g)] h=o (.inl (.bU []),F)/\aK aj aJ aG F (put c L i ⟨hu,n.S,n.below++[n.top],f⟩)):=by
 have k7:g.one=O:=by rcases a8 with⟨_,rfl⟩|⟨id,rfl⟩<;>rfl
 have bq:=(oP f gu .aA .aA g aX.cD.1).2.1;have bt:=Kq (f:=f) (s:=.aA) (n:=.aA) aX.cD rfl rfl k7;generalize lo:g7 f gu .aA .aA g=row at*;have bg:=s.push [row];have aR:=a.cons (aY h.n [row]);obtain⟨_,_,_,_,a4⟩:=pB bg (i+1) aR.m;have i6:∀(k:Nat) (x:ag),x.cell c.bw=o [[.ptr c.aO 0 0,.bn n.bk 0 (n.below.length+1) fH,.int j (n.S.left:Int)]]->cS T k x (.ptr c.bw 0 1)=o (.bn n.bk 0 (n.below.length+1) fH):=λk x aw=>by rw[fL,aw];rfl
 have cK:=λk=>i6 k _ a4.m;have f1:b5 1 (.ptr c.bw 0 0)=o (.ptr c.bw 0 1):=rfl;refine⟨λm6=>?_,λm6=>?_⟩
 ·have d:decide (((n.below.length+1:Nat):Int)=20)=O:=decide_eq_true (by omega);refine⟨_,?_,bg.drop⟩;refine a2 XM rfl ?_;unfold Ps;simp only[ak,aq,ar,al,bJ,bt,bq,f1,cK,d,qc]
 ·have d:decide (((n.below.length+1:Nat):Int)=20)=T:=decide_eq_false (by omega);have aV:=bg.push [row];have a5:=aR.cons (aY (h.push [row]).n [row]);obtain⟨_,_,_,_,nK⟩:=pB aV (i+2) a5.m;have cX:=λk=>i6 k _ nK.m;obtain⟨ah,aD,bc,bY,bz⟩:=apU aV (i+1+1) a5.m (f:=f) (a:=gu) (g:=g) aX a8 aC aE (by omega) (jF:=h.n+1) (by rw[lo];exact(aV.cell 0 rfl).1);rw[a5.wg,eC,eC]at bz;have aP:(h.push [row]).cell h.n=o [row]:=(bg.cell 0 rfl).1;simp only[ey]at bc bY;refine⟨_,_,?_,bz.drop.drop⟩;refine a2 XM rfl ?_;unfold Ps;simp only[ak,aq,ar,al,bJ,bt,bq,f1,cK,cX,d,oU,aP,bc,bY]
theorem abx{p k n:Int}{v:av}{S:bK}:gZ p 9 k n [v] S=if v.kind≠2 then S.no 2 else S.ok (v.l.getD 0 cv):=rfl
theorem aby{p k n:Int}{v:av}{S:bK}:gZ p 10 k n [v] S=if v.kind≠2 then S.no 2 else S.ok (v.l.getD 1 cv):=rfl
end
abbrev nd:c':=93
section
variable{h F aj:ag}{ae ai aJ aG:Nat->Prop}{L:List b6}{c:ix}{i:Nat}{n:fJ}
theorem aq2(k x y:Int):aQ ap W 42 [.int j k,.int j x,.int j y] h=o (.inl (.int j (yH k x y)),h):=by
 unfold yH;by_cases J:k=1
 ·subst J;refine a2 y6 rfl ?_;unfold xy;simp only[ak,aq,ar,al]
 have d1:decide (k=1)=T:=decide_eq_false J;rw[if_neg J];by_cases R:k=2
 ·subst R;rw[if_pos rfl];refine a2 y6 rfl ?_;unfold xy;simp only[ak,aq,ar,al,d1]
 have d2:decide (k=2)=T:=decide_eq_false R;rw[if_neg R];by_cases ah:k=3
 ·subst ah;rw[if_pos rfl];refine a2 y6 rfl ?_;unfold xy;simp only[ak,aq,ar,al,d1,d2]
 have d3:decide (k=3)=T:=decide_eq_false ah;rw[if_neg ah];by_cases aD:k=4
 ·subst aD;rw[if_pos rfl];by_cases am:x<y
  ·have jJ:decide (x<y)=O:=decide_eq_true am;rw[if_pos am];refine a2 y6 rfl ?_;unfold xy;simp only[ak,aq,ar,al,d1,d2,d3,jJ]
  ·have jJ:decide (x<y)=T:=decide_eq_false am;rw[if_neg am];refine a2 y6 rfl ?_;unfold xy;simp only[ak,aq,ar,al,d1,d2,d3,jJ]
 have d4:decide (k=4)=T:=decide_eq_false aD;rw[if_neg aD];by_cases bo:k=5
 ·subst bo;rw[if_pos rfl];by_cases am:x=y
  ·have jJ:decide (x=y)=O:=decide_eq_true am;rw[if_pos am];refine a2 y6 rfl ?_;unfold xy;simp only[ak,aq,ar,al,d1,d2,d3,d4,jJ]
  ·have jJ:decide (x=y)=T:=decide_eq_false am;rw[if_neg am];refine a2 y6 rfl ?_;unfold xy;simp only[ak,aq,ar,al,d1,d2,d3,d4,jJ]
 have d5:decide (k=5)=T:=decide_eq_false bo;rw[if_neg bo];refine a2 y6 rfl ?_;unfold xy;simp only[ak,aq,ar,al,d1,d2,d3,d4,d5]
abbrev ev(op k m:Int):List E:=[.int j op,.int j k,.int j m]
abbrev fJ.db(n:fJ)(l:List av):fJ:={n with top:={n.top with stack:=l}}
theorem tS(s:aK aj aJ aG h L)(a:eY c L i n)(I:ie c n){v:av}(bS:n.top.stack=st++[v]):∃F r,aQ ap W 90 [.ptr c.bw 0 0] h=o (.inl (.agg r),F)/\bT v r/\aK aj aJ aG F (put c L i (n.db st))/\eY c (put c L i (n.db st)) i (n.db st):=by have ei:=I.db;rw[bS]at ei;simp only[ff,gM]at ei;obtain⟨F,r,e,U,ew⟩:=Rg s a bS I.below (by omega);exact⟨F,r,e,U,ew,a.put _⟩
theorem K'(s:aK aj aJ aG h L)(a:eY c L i n)(I:ie c n){v w:av}(bS:n.top.stack=st++[v]++[w]):∃R ah l5 cx,aQ ap W 90 [.ptr c.bw 0 0] h=o (.inl (.agg l5),R)/\aQ ap W 90 [.ptr c.bw 0 0] R=o (.inl (.agg cx),ah)/\bT w l5/\bT v cx/\aK aj aJ aG ah (put c L i (n.db st))/\eY c (put c L i (n.db st)) i (n.db st):=by have ei:=I.db;rw[bS]at ei;simp only[ff,gM]at ei;obtain⟨R,bR,ax,hw,aV⟩:=Rg s a bS I.below (by simp;omega);obtain⟨ah,hz,bc,U,br⟩:=Rg aV (a.put (n.db (st++[v]))) rfl I.below (by omega);rw[hT]at br;exact⟨R,ah,bR,hz,ax,bc,hw,U,br,a.put _⟩
theorem ie.rM{n:fJ}{l:List av}(I:ie c n)(bS:n.top.stack=st++l):ie c (n.db st):=by have ei:=I.db;rw[bS]at ei;simp only[ff]at ei;exact⟨I.ms,I.S,I.below,by simp only;omega,I.vX,I.log⟩
theorem abz{p k n:Int}{v x:av}{S:bK}:gZ p 6 k n [v,x] S=if v.kind≠1\/x.kind≠1 then S.no 2 else S.ok (lx (yH k v.n x.n)):=rfl
theorem aq3(s:aK aj aJ aG h L)(a:eY c L i n)(I:ie c n){v w:av}(bS:n.top.stack=st++[v]++[w])(k m:Int):∃aI F,aQ ap W nd [.ptr c.bw 0 0,.agg (ev 6 k m)] h=o (aI,F)/\eZ aj aJ aG c L i (n.db st) (gZ n.top.bI 6 k m [v,w] n.S) aI F:=by
 rw[abz];have bg:=s.push [ev 6 k m];have aR:=a.cons (aY h.n [ev 6 k m]);obtain⟨dM,lA⟩:=nL bg aR I.below;have aP:=(bg.cell 0 rfl).1;obtain⟨R,ah,l5,cx,ax,bc,hw,U,br,bp⟩:=K' bg aR I bS;rw[eC]at br bp;have dW:=(I.rM (st:=st) (l:=[v]++[w]) (by rw[bS,k']));have bz:=(br.push [aU]).push [aU];have b8:aK aj aJ aG _ (aY (ah.n+1) [aU]::aY ah.n [l5]::aY h.n [ev 6 k m]::put c L i (n.db st)):=bz.set 1 rfl [l5];have cM:aK aj aJ aG _ (aY (ah.n+1) [cx]::aY ah.n [l5]::aY h.n [ev 6 k m]::put c L i (n.db st)):=b8.set 0 rfl [cx];have i3:=(bp.cons (aY ah.n [l5])).cons (aY (ah.n+1) [cx]);obtain⟨bt,bq⟩:=hw.cD;obtain⟨g',e4⟩:=U.cD;have kC:=(b8.cell 0 rfl).1;have bM:=(cM.cell 0 rfl).1;have bL:=(cM.cell 1 rfl).1;have de:=(cM.cell 2 rfl).1;generalize qe:(((ah.push [aU]).push [aU]).set ah.n (o [l5])).set (ah.n+1) (o [cx])=b9 at*;by_cases Z:v.kind=1
 ·obtain⟨bH,La,mR⟩:=tN (h:=b9) U Z;by_cases sl:w.kind=1
  ·rw[if_neg (by simp[Z,sl])];obtain⟨bR,xN,k0⟩:=tN (h:=b9) hw sl;obtain⟨fs,DF,_⟩:=U.iQ;obtain⟨jy,DG,_⟩:=hw.iQ;have fm:cx[1]? =o (.int j v.n):=by rw[DF];rfl
   have lp:l5[1]? =o (.int j w.n):=by rw[DG];rfl
   obtain⟨c4,km,eM⟩:=pC cM i3 I.below dW.db (we (yH k v.n w.n));rw[eC,eC,eC,hT]at eM;refine⟨_,c4,?_,eZ.ok eM.drop.drop.drop⟩;refine a2 nH rfl ?_;unfold m9;simp only[ak,aq,ar,al,bW,tG,bJ,dM,aP,cC,ax,bc,bt,bq,g',e4,kC,qe,bM,bL,de,La,xN,fm,lp,aq2,Q2,km]
  ·rw[if_pos (.inr sl)];have xN:=tO (h:=b9) hw sl;refine⟨_,_,?_,eZ.no (by decide) (n.db st) rfl cM.drop.drop.drop⟩;refine a2 nH rfl ?_;unfold m9;simp only[ak,aq,ar,al,bW,tG,bJ,dM,aP,cC,ax,bc,bt,bq,g',e4,kC,qe,bM,bL,La,xN]
 ·rw[if_pos (.inl Z)];have La:=tO (h:=b9) U Z;refine⟨_,_,?_,eZ.no (by decide) (n.db st) rfl cM.drop.drop.drop⟩;refine a2 nH rfl ?_;unfold m9;simp only[ak,aq,ar,al,bW,tG,bJ,dM,aP,cC,ax,bc,bt,bq,g',e4,kC,qe,bM,bL,La]
end
section
variable{h F aj:ag}{ae ai aJ aG:Nat->Prop}{L:List b6}{c:ix}{i:Nat}{n:fJ}
theorem abA{p k n:Int}{v x:av}{S:bK}:gZ p 8 k n [v,x] S=if(av.mk 2 0 [v,x]).code≠0 then S.no 3 else S.ok (.mk 2 0 [v,x]):=rfl
theorem abB{p k n:Int}{v:av}{S:bK}:gZ p 11 k n [v] S=if(av.mk 3 p [v]).code≠0 then S.no 3 else S.ok (.mk 3 p [v]):=rfl
theorem abC{p k n:Int}{v:av}{S:bK}:gZ p 12 k n [v] S=if v.kind≠3 then S.no 2 else if v.n≠p then S.no 10 else S.ok (v.l.getD 0 cv):=rfl
theorem aq4(s:aK aj aJ aG h L)(a:eY c L i n)(I:ie c n){v w:av}(bS:n.top.stack=st++[v]++[w])(k m:Int):∃aI F,aQ ap W nd [.ptr c.bw 0 0,.agg (ev 8 k m)] h=o (aI,F)/\eZ aj aJ aG c L i (n.db st) (gZ n.top.bI 8 k m [v,w] n.S) aI F:=by
 rw[abA];have bg:=s.push [ev 8 k m];have aR:=a.cons (aY h.n [ev 8 k m]);obtain⟨dM,lA⟩:=nL bg aR I.below;have aP:=(bg.cell 0 rfl).1;obtain⟨R,ah,l5,cx,ax,bc,hw,U,br,bp⟩:=K' bg aR I bS;rw[eC]at br bp;have dW:=(I.rM (st:=st) (l:=[v]++[w]) (by rw[bS,k']));have bz:=(br.push [aU]).push [aU];have b8:aK aj aJ aG _ (aY (ah.n+1) [aU]::aY ah.n [l5]::aY h.n [ev 8 k m]::put c L i (n.db st)):=bz.set 1 rfl [l5];have cM:aK aj aJ aG _ (aY (ah.n+1) [cx]::aY ah.n [l5]::aY h.n [ev 8 k m]::put c L i (n.db st)):=b8.set 0 rfl [cx];have i3:=(bp.cons (aY ah.n [l5])).cons (aY (ah.n+1) [cx]);obtain⟨bt,bq⟩:=hw.cD;obtain⟨g',e4⟩:=U.cD;have kC:=(b8.cell 0 rfl).1;have bM:=(cM.cell 0 rfl).1;have bL:=(cM.cell 1 rfl).1;generalize qe:(((ah.push [aU]).push [aU]).set ah.n (o [l5])).set (ah.n+1) (o [cx])=b9 at*;have eM:=cM.fresh 2;have tv:=i3.cons (Ev b9.ids 2);have A8:bT (.mk 2 0 [v,w]) [.int j 2,.int j 0,.b0 (o b9.ids) bG [cx,l5]]:=KZ ⟨_,_,rfl,U,_,_,rfl,hw,rfl⟩;by_cases Z:(av.mk 2 0 [v,w]).code=0
 ·rw[if_neg (by simpa using Z)];obtain⟨bj,es,hG⟩:=aa6 (h:=b9.fresh 2) A8 Z;obtain⟨hh,om,g8⟩:=pC eM tv I.below dW.db hG;rw[eC,eC,eC,eC,hT]at g8;refine⟨_,hh,?_,eZ.ok g8.drop.drop.drop.drop⟩;refine a2 nH rfl ?_;unfold m9;simp only[ak,aq,ar,al,bW,tG,bJ,dM,aP,cC,ax,bc,bt,bq,g',e4,kC,qe,bM,bL,es,om]
 ·rw[if_pos Z];have es:=aa7 (h:=b9.fresh 2) A8 Z;refine⟨_,_,?_,eZ.no (by decide) (n.db st) rfl eM.drop.drop.drop.drop⟩;refine a2 nH rfl ?_;unfold m9;simp only[ak,aq,ar,al,bW,tG,bJ,dM,aP,cC,ax,bc,bt,bq,g',e4,kC,qe,bM,bL,es]
theorem bT.part{v:av}{r:List E}(U:bT v r){D:Nat}{x:av}(aw:v.l[D]? =o x):∃bF tT,r[2]? =o bF/\(∀q:gx,dO (o bG) ad bF (.int q (D:Int))=o (.ip tT 0))/\gO O 3 tT 0=o (.agg tT)/\bT x tT:=by
 cases v with
 |mk k n l=>
   obtain⟨w,es,rfl,J,R⟩:=U;obtain⟨tT,au,ax⟩:=R.get aw;rcases J with⟨rfl,_⟩|⟨id,rfl⟩
   ·simp at au
   ·exact⟨_,tT,rfl,λq=>Ii rfl au,gX ax.cD.1,ax⟩
theorem abD(s:aK aj aJ aG h L)(a:eY c L i n)(I:ie c n){v:av}(bS:n.top.stack=st++[v])(an:v.code=0){D:Nat}(aa:D<2):∃aI F,aQ ap W 117 [.ptr c.bw 0 0,.int j (D:Int)] h=o (aI,F)/\eZ aj aJ aG c L i (n.db st) (if v.kind≠2 then n.S.no 2 else n.S.ok (v.l.getD D cv)) aI F:=by
 obtain⟨R,r,ax,U,aV,a5⟩:=tS s a I bS;have dW:=I.rM bS;by_cases Z:v.kind=2
 ·rw[if_neg (by simpa using Z)];obtain⟨x,y,uV⟩:=(Ex an).1 Z;obtain⟨z,aN⟩:∃z,v.l[D]? =o z:=by rw[uV];match D,aa with|0,_=>exact⟨x,rfl⟩|1,_=>exact⟨y,rfl⟩
  have Ri:v.l.getD D cv=z:=by simp[dz,aN]
  rw[Ri];obtain⟨bj,e8,hG⟩:=tN (h:=R) U Z;obtain⟨bt,bq⟩:=hG.cD;obtain⟨bF,vj,dA,ft,iM,kZ⟩:=hG.part aN;have br:=aV.push [bj];have bp:=a5.cons (aY R.n [bj]);have cd:=(br.cell 0 rfl).1;obtain⟨aD,bY,bz⟩:=pC br bp I.below dW.db kZ;rw[eC,hT]at bz;refine⟨_,aD,?_,eZ.ok bz.drop⟩;refine a2 XP rfl ?_;unfold Pu;simp only[ak,aq,ar,al,bJ,ax,e8,bt,bq,cd,dA,ft,iM,bY]
 ·rw[if_pos Z];have e8:=tO (h:=R) U Z;refine⟨_,_,?_,eZ.no (by decide) (n.db st) rfl aV⟩;refine a2 XP rfl ?_;unfold Pu;simp only[ak,aq,ar,al,bJ,ax,e8]
theorem WP(s:aK aj aJ aG h L)(a:eY c L i n)(I:ie c n){v:av}(bS:n.top.stack=st++[v])(an:v.code=0)(k m:Int):∃aI F,aQ ap W nd [.ptr c.bw 0 0,.agg (ev 9 k m)] h=o (aI,F)/\eZ aj aJ aG c L i (n.db st) (gZ n.top.bI 9 k m [v] n.S) aI F:=by
 rw[abx];have bg:=s.push [ev 9 k m];have aR:=a.cons (aY h.n [ev 9 k m]);obtain⟨dM,lA⟩:=nL bg aR I.below;have aP:=(bg.cell 0 rfl).1;obtain⟨aI,R,ax,bR⟩:=abD bg aR I bS an (D:=0) (by decide);have ax:aQ ap W 117 [.ptr c.bw 0 0,.int j 0] (h.push [ev 9 k m])=o (aI,R):=ax;refine⟨aI,R,?_,bR.drop⟩;rcases bR with⟨_,rfl,_⟩|⟨_,rfl,_⟩
 ·refine a2 nH rfl ?_;unfold m9;simp only[ak,aq,ar,al,bJ,dM,aP,cC,ax]
 ·refine a2 nH rfl ?_;unfold m9;simp only[ak,aq,ar,al,bJ,dM,aP,cC,ax]
theorem aq5(s:aK aj aJ aG h L)(a:eY c L i n)(I:ie c n){v:av}(bS:n.top.stack=st++[v])(an:v.code=0)(k m:Int):∃aI F,aQ ap W nd [.ptr c.bw 0 0,.agg (ev 10 k m)] h=o (aI,F)/\eZ aj aJ aG c L i (n.db st) (gZ n.top.bI 10 k m [v] n.S) aI F:=by
 rw[aby];have bg:=s.push [ev 10 k m];have aR:=a.cons (aY h.n [ev 10 k m]);obtain⟨dM,lA⟩:=nL bg aR I.below;have aP:=(bg.cell 0 rfl).1;obtain⟨aI,R,ax,bR⟩:=abD bg aR I bS an (D:=1) (by decide);have ax:aQ ap W 117 [.ptr c.bw 0 0,.int j 1] (h.push [ev 10 k m])=o (aI,R):=ax;refine⟨aI,R,?_,bR.drop⟩;rcases bR with⟨_,rfl,_⟩|⟨_,rfl,_⟩
 ·refine a2 nH rfl ?_;unfold m9;simp only[ak,aq,ar,al,bJ,dM,aP,cC,ax]
 ·refine a2 nH rfl ?_;unfold m9;simp only[ak,aq,ar,al,bJ,dM,aP,cC,ax]
theorem aq6(s:aK aj aJ aG h L)(a:eY c L i n)(I:ie c n){v:av}(bS:n.top.stack=st++[v])(k m:Int):∃aI F,aQ ap W nd [.ptr c.bw 0 0,.agg (ev 11 k m)] h=o (aI,F)/\eZ aj aJ aG c L i (n.db st) (gZ n.top.bI 11 k m [v] n.S) aI F:=by
 rw[abB];have bg:=s.push [ev 11 k m];have aR:=a.cons (aY h.n [ev 11 k m]);obtain⟨dM,_⟩:=nL bg aR I.below;have aP:=(bg.cell 0 rfl).1;obtain⟨R,r,ax,U,aV,a5⟩:=tS bg aR I bS;rw[eC]at aV a5;have dW:=I.rM bS;obtain⟨bt,bq⟩:=U.cD;have br:=aV.push [r];have bp:=a5.cons (aY R.n [r]);have cd:=(br.cell 0 rfl).1;obtain⟨_,Gj⟩:=nL br bp I.below;have bz:=br.fresh 1;have cA:=bp.cons (Ev (R.push [r]).ids 1);obtain⟨_,abE⟩:=nL bz cA I.below;have f0:b5 0 (.ptr n.bk n.below.length 0)=o (.ptr n.bk n.below.length 0):=rfl;have A8:bT (.mk 3 n.top.bI [v]) [.int j 3,.int j n.top.bI,.b0 (o R.ids) bG [r]]:=KZ ⟨_,_,rfl,U,rfl⟩;by_cases Z:(av.mk 3 n.top.bI [v]).code=0
 ·rw[if_neg (by simpa using Z)];obtain⟨bj,es,hG⟩:=aa6 (h:=(R.push [r]).fresh 1) A8 Z;obtain⟨bo,cU,b8⟩:=pC bz cA I.below dW.db hG;rw[eC,eC,eC,hT]at b8;refine⟨_,bo,?_,eZ.ok b8.drop.drop.drop⟩;refine a2 nH rfl ?_;unfold m9;simp only[ak,aq,ar,al,bW,bJ,dM,aP,cC,ax,bt,bq,cd,f0,Gj,abE,es,cU]
 ·rw[if_pos Z];have es:=aa7 (h:=(R.push [r]).fresh 1) A8 Z;refine⟨_,_,?_,eZ.no (by decide) (n.db st) rfl bz.drop.drop.drop⟩;refine a2 nH rfl ?_;unfold m9;simp only[ak,aq,ar,al,bW,bJ,dM,aP,cC,ax,bt,bq,cd,f0,Gj,abE,es]
theorem aq7(s:aK aj aJ aG h L)(a:eY c L i n)(I:ie c n){v:av}(bS:n.top.stack=st++[v])(an:v.code=0)(k m:Int):∃aI F,aQ ap W nd [.ptr c.bw 0 0,.agg (ev 12 k m)] h=o (aI,F)/\eZ aj aJ aG c L i (n.db st) (gZ n.top.bI 12 k m [v] n.S) aI F:=by
 rw[abC];have bg:=s.push [ev 12 k m];have aR:=a.cons (aY h.n [ev 12 k m]);obtain⟨dM,_⟩:=nL bg aR I.below;have aP:=(bg.cell 0 rfl).1;obtain⟨R,r,ax,U,aV,a5⟩:=tS bg aR I bS;rw[eC]at aV a5;have dW:=I.rM bS;have f0:b5 0 (.ptr n.bk n.below.length 0)=o (.ptr n.bk n.below.length 0):=rfl;by_cases Z:v.kind=3
 ·rw[if_neg (by simpa using Z)];obtain⟨x,aw⟩:=(Ex an).2 Z;have aN:v.l[0]? =o x:=by rw[aw];rfl
  have Ri:v.l.getD 0 cv=x:=by rw[aw];rfl
  rw[Ri];obtain⟨bj,e8,hG⟩:=tN (h:=R) U Z;obtain⟨bt,bq⟩:=hG.cD;obtain⟨bF,vj,dA,ft,iM,kZ⟩:=hG.part aN;have ft:∀q:gx,dO (o bG) ad bF (.int q 0)=o (.ip vj 0):=ft;obtain⟨w,hw,_⟩:=hG.iQ;have aE:bj[1]? =o (.int j v.n):=by rw[hw];rfl
  have br:=aV.push [bj];have bp:=a5.cons (aY R.n [bj]);have cd:=(br.cell 0 rfl).1;obtain⟨_,Gj⟩:=nL br bp I.below;by_cases aH:v.n=n.top.bI
  ·rw[if_neg (by simpa using aH)];have d:decide (v.n=n.top.bI)=O:=decide_eq_true aH;obtain⟨aD,bY,bz⟩:=pC br bp I.below dW.db kZ;rw[eC,eC,hT]at bz;refine⟨_,aD,?_,eZ.ok bz.drop.drop⟩;refine a2 nH rfl ?_;unfold m9;simp only[ak,aq,ar,al,bJ,dM,aP,cC,ax,e8,bt,bq,cd,aE,f0,Gj,d,oU,dA,ft,iM,bY]
  ·rw[if_pos aH];have d:decide (v.n=n.top.bI)=T:=decide_eq_false aH;refine⟨_,_,?_,eZ.no (by decide) (n.db st) rfl br.drop.drop⟩;refine a2 nH rfl ?_;unfold m9;simp only[ak,aq,ar,al,bJ,dM,aP,cC,ax,e8,bt,bq,cd,aE,f0,Gj,d,qc]
 ·rw[if_pos Z];have e8:=tO (h:=R) U Z;refine⟨_,_,?_,eZ.no (by decide) (n.db st) rfl aV.drop⟩;refine a2 nH rfl ?_;unfold m9;simp only[ak,aq,ar,al,bJ,dM,aP,cC,ax,e8]
theorem aq8(s:aK aj aJ aG h L)(a:eY c L i n)(I:ie c n)(k m:Int):∃F,aQ ap W nd [.ptr c.bw 0 0,.agg (ev 1 k m)] h=o (.inl (.bU []),F)/\aK aj aJ aG F (put c L i (n.db (n.top.stack++[cv]))):=by have bg:=s.push [ev 1 k m];have aR:=a.cons (aY h.n [ev 1 k m]);obtain⟨dM,_⟩:=nL bg aR I.below;have aP:=(bg.cell 0 rfl).1;obtain⟨R,ax,aV⟩:=pC bg aR I.below I.db e6;rw[eC]at aV;refine⟨R,?_,aV.drop⟩;refine a2 nH rfl ?_;unfold m9;simp only[ak,aq,ar,al,bJ,dM,aP,cC,ax]
theorem aq9(s:aK aj aJ aG h L)(a:eY c L i n)(I:ie c n)(k m:Int):∃F,aQ ap W nd [.ptr c.bw 0 0,.agg (ev 2 k m)] h=o (.inl (.bU []),F)/\aK aj aJ aG F (put c L i (n.db (n.top.stack++[lx m]))):=by have bg:=s.push [ev 2 k m];have aR:=a.cons (aY h.n [ev 2 k m]);obtain⟨dM,_⟩:=nL bg aR I.below;have aP:=(bg.cell 0 rfl).1;obtain⟨R,ax,aV⟩:=pC bg aR I.below I.db (we m);rw[eC]at aV;refine⟨R,?_,aV.drop⟩;refine a2 nH rfl ?_;unfold m9;simp only[ak,aq,ar,al,bJ,dM,aP,cC,Q2,ax]
theorem aq'(s:aK aj aJ aG h L)(a:eY c L i n)(I:ie c n)(k m:Int):∃F,aQ ap W nd [.ptr c.bw 0 0,.agg (ev 3 k m)] h=o (.inl (.bU []),F)/\aK aj aJ aG F (put c L i (n.db (n.top.stack++[n.top.arg]))):=by have bg:=s.push [ev 3 k m];have aR:=a.cons (aY h.n [ev 3 k m]);obtain⟨dM,_⟩:=nL bg aR I.below;have aP:=(bg.cell 0 rfl).1;obtain⟨gu,dm,aL,g,a4⟩:=pB bg (i+1) aR.m;have f3:b5 3 (.ptr n.bk n.below.length 0)=o (.ptr n.bk n.below.length 3):=rfl;have mq:=a4.arg;obtain⟨R,ax,aV⟩:=pC bg aR I.below I.db a4.aX;rw[eC]at aV;refine⟨R,?_,aV.drop⟩;refine a2 nH rfl ?_;unfold m9;simp only[ak,aq,ar,al,bJ,dM,aP,cC,f3,mq,ax]
theorem ara(s:aK aj aJ aG h L)(a:eY c L i n)(I:ie c n){k:Int}(Z:0<=k/\k<n.top.names.length)(m:Int):∃F,aQ ap W nd [.ptr c.bw 0 0,.agg (ev 4 k m)] h=o (.inl (.bU []),F)/\aK aj aJ aG F (put c L i (n.db (n.top.stack++[n.top.names.getD (n.top.names.length - 1 - k.toNat) cv]))):=by have bg:=s.push [ev 4 k m];have aR:=a.cons (aY h.n [ev 4 k m]);obtain⟨dM,_⟩:=nL bg aR I.below;have aP:=(bg.cell 0 rfl).1;obtain⟨gu,dm,aL,g,a4⟩:=pB bg (i+1) aR.m;have f7:b5 7 (.ptr n.bk n.below.length 0)=o (.ptr n.bk n.below.length 7):=rfl;have eN:=λq=>a4.rd q 7 aL (oP n.top gu dm aL g a4.aX.cD.1).2.2.1;obtain⟨p,tT,dA,ft,iM⟩:=a4.aL.2.2.2.2 j (n.top.names.length - 1 - k.toNat) (n.top.names.getD (n.top.names.length - 1 - k.toNat) cv) (by simp only[dz];rw[fr (by omega)];rfl);have aE:=I.vX;have cY:kK j ((n.top.names.length:Int) - 1)=(n.top.names.length:Int) - 1:=eL (by omega) (by omega);have gC:kK j ((n.top.names.length:Int) - 1 - k)=((n.top.names.length - 1 - k.toNat:Nat):Int):=Ar (by omega) (by omega) (by omega);have arb:=a4.aL.2.2.1;have fn:=a4.aL.2.2.2.1;obtain⟨R,ax,aV⟩:=pC bg aR I.below I.db iM;rw[eC]at aV;refine⟨R,?_,aV.drop⟩;refine a2 nH rfl ?_;unfold m9;simp only[ak,aq,ar,al,bJ,dM,aP,cC,f7,eN,arb,fn,cY,gC,dA,ft,ax]
end
def Gk(aj:ag)(aJ aG:Nat->Prop)(c:ix)(L:List b6)(i:Nat)(q:qJ)(aI:E⊕E)(F:ag):Prop:=match q with
 |.go m=>aI= .inl (.bU [])/\∃hu,aK aj aJ aG F (put c L i ⟨hu,m.S,m.below,m.top⟩)
 |.fail S k=>aI= .inr (.iface mi (.int j k))/\∃b':fJ,b'.S=S/\aK aj aJ aG F (put c L i b')
 |.over _ _=>False
section
variable{h F aj:ag}{ae ai aJ aG:Nat->Prop}{L:List b6}{c:ix}{i:Nat}{n:fJ}
theorem A9(M:List bx):hX (lZ M)=o M.length/\(∀s,j3 s (o 174) (lZ M)=O)/\(lZ M).one=O:=by unfold lZ;exact⟨by simp[hX],λs=>Ei,rfl⟩
theorem arc(e:a6)(rows:List (List E)):fo e (i2 e rows) rows:=by
 unfold i2;by_cases aN:rows=[]
 ·exact .inl ⟨aN,by rw[if_pos aN]⟩
 ·exact .inr ⟨ad,by rw[if_neg aN]⟩
theorem Lb(s:aK aj aJ aG h L)(a:eY c L i n)(I:ie c n){p:Nat}(aH:p<4):(∀q:gx,dO ad (o (4,5)) (.ptr c.aO 0 2) (.int q (p:Int))=o (.ptr c.aO 0 (2+p*5)))/\(∀k:Nat,cS T k h (.ptr c.aO 0 (2+p*5+1))=o (qL (c.ms.getD p ad)))/\∃r,cS O 3 h (.ptr c.aO 0 (2+p*5+2))=o (.agg r)/\bT (n.S.kept.getD p cv) r/\cS O 5 h (.ptr c.aO 0 (2+p*5))=o (.agg (.bool (c.ms.getD p ad).isSome::qL (c.ms.getD p ad)::r))/\c.aO<h.n:=by
 obtain⟨ae,ai,x⟩:=s.get (i+1) a.b;obtain⟨row,aP,Gl,_,_,_,jZ⟩:=KU x I.len;obtain⟨bM,bL,r,de,fv,n2⟩:=jZ p (by rw[I.ms];exact aH);refine⟨λq=>by simp[dO,aH],λk=>?_,r,?_,fv,?_,Gl⟩
 ·rw[fL,aP,c2,mY,c2,gi,bL]
 ·rw[fL,aP,c2,mY,c2,de]
 ·rw[fL,aP,c2,mY,c2,n2]
theorem abF{b i off k:Nat}{g:Bool}(ab:b<h.n):cS g k (h.push es) (.ptr b i off)=cS g k h (.ptr b i off):=by rw[fL,fL,ir ab]
abbrev Lc:List E:=[.bool T,.aA,.int j 0,.int j 0,.aA]
theorem abG{G:a0}{i:Int}{k:Nat}(ab:fS (G.dn i) k=O):G.has i=O:=by
 cases h:G.has i with
 |true=>rfl
 |false=>
   have:G.dn i=0:=by unfold a0.dn;rw[if_pos (.inl (a0.Ac h))]
   rw[this]at ab;have R:fS 0 k=T:=by unfold fS;rw[Int.zero_ediv];decide
   rw[R]at ab;cases ab
def oV(aj:ag)(aJ aG:Nat->Prop)(c:ix)(L:List b6)(i:Nat)(n:fJ)(q:bK×tm×Int)(aI:E⊕E)(F:ag):Prop:=(q.2.2=0/\aI= .inl (.bU [])/\∃hu,aK aj aJ aG F (put c L i ⟨hu,q.1,n.below++[n.top],⟨q.2.1.bI,q.2.1.func,0,q.2.1.arg,[],[],O,q.2.1.eW⟩⟩))\/(q.2.2≠0/\aI= .inr (.iface mi (.int j q.2.2))/\∃b':fJ,b'.S=q.1/\aK aj aJ aG F (put c L i b'))
theorem oV.no(a:eY c L i n){q:tm}{k:Int}(Z:k≠0)(s:aK aj aJ aG F L):oV aj aJ aG c L i n (n.S,q,k) (.inr (.iface mi (.int j k))) F:=.inr ⟨Z,rfl,n,rfl,by rw[a.same];exact s⟩
theorem ard(s:aK aj aJ aG h L)(a:eY c L i n)(I:ie c n){v x:av}{r:List E}(U:bT v r)(aw:bT x t):∃aI F,aQ ap W 134 [.ptr c.bw 0 0,.agg r,.agg t] h=o (aI,F)/\oV aj aJ aG c L i n (hO c.ms v x (n.below.length+1) n.S) aI F:=by
 unfold hO;simp only;have bg:=(s.push [r]).push [t];have aR:=(a.cons (aY h.n [r])).cons (aY (h.push [r]).n [t]);obtain⟨bt,bq⟩:=U.cD;obtain⟨dW,e4⟩:=aw.cD;have aP:((h.push [r]).push [t]).cell h.n=o [r]:=(bg.cell 1 rfl).1;have bu:((h.push [r]).push [t]).cell (h.n+1)=o [t]:=(bg.cell 0 rfl).1;by_cases Z:v.kind=4
 case neg=>
  rw[if_pos Z];have e8:=tO (h:=(h.push [r]).push [t]) U Z;refine⟨_,_,?_,oV.no a (by decide) bg.drop.drop⟩;refine a2 y7 rfl ?_;unfold xz;simp only[ak,aq,ar,al,bJ,bt,bq,dW,e4,aP,e8]
 rw[if_neg (by simpa using Z)];obtain⟨bj,e8,mR⟩:=tN (h:=(h.push [r]).push [t]) U Z;have l4:=Q3 bg aR.m aR.b aR.g I.len I.S.wf mR (k:=3) (q:=8) (by decide) (by decide);by_cases ab:fS (n.S.G.dn v.n) 3=O
 case neg=>
  rw[if_neg ab]at l4;rw[if_pos (by simpa using ab)];refine⟨_,_,?_,oV.no a (by decide) bg.drop.drop⟩;refine a2 y7 rfl ?_;unfold xz;simp only[ak,aq,ar,al,bJ,bt,bq,dW,e4,aP,e8,l4]
 rw[if_pos ab]at l4;rw[if_neg (by simp[ab])];obtain⟨_,_,a3⟩:=a0.Qf I.S.wf (abG ab);generalize (n.S.G.target v.n).1=eT at*;obtain⟨t1,t2,t3,t4,t5,t6⟩:=eT;simp only[cQ]at a3 l4 ⊢;generalize eK:([.int j t1,.int j t2,.int j t3,.int j t4,.int j t5,.int j t6]:List E)=N at*;have zd:N[4]? =o (.int j t5):=by rw[<-eK];rfl
 have zo:N[5]? =o (.int j t6):=by rw[<-eK];rfl
 have CZ:N.length=6:=by rw[<-eK];rfl
 have no:N.all E.one=O:=by rw[<-eK];rfl
 have aV:=bg.push [N];have a5:=aR.cons (aY ((h.push [r]).push [t]).n [N]);have cd:=(aV.cell 0 rfl).1;simp only[ey]at cd;by_cases aH:t5<0
 ·rw[if_pos aH];have d:decide (t5<0)=O:=decide_eq_true aH;refine⟨_,_,?_,oV.no a (by decide) aV.drop.drop.drop⟩;refine a2 y7 rfl ?_;unfold xz;simp only[ak,aq,ar,al,bJ,bt,bq,dW,e4,aP,e8,l4,CZ,no,zd,d,qc]
 rw[if_neg aH];obtain⟨P,rfl⟩:=lE (show 0<=t5 by omega);have d:decide ((P:Int)<0)=T:=decide_eq_false (by omega);have pD:P<4:=by omega
 rw[mE];have Gm:=aV.push [Lc];have Ld:=a5.cons (aY (((h.push [r]).push [t]).push [N]).n [Lc]);obtain⟨ib,_,_⟩:=d8 aV a5 I.len;obtain⟨zp,_,_⟩:=d8 Gm Ld I.len;obtain⟨bV,_,dk,_,wk,nr,Rj⟩:=Lb aV a5 I pD;have Gn:cS O 5 ((((h.push [r]).push [t]).push [N]).push [Lc]) (.ptr c.aO 0 (2+P*5))=_:=(abF Rj).trans nr;have Gp:b5 0 (.ptr c.bw 0 0)=o (.ptr c.bw 0 0):=rfl;have Gq:b5 2 (.ptr c.aO 0 0)=o (.ptr c.aO 0 2):=rfl;have Rk:b5 1 (.ptr c.bw 0 0)=o (.ptr c.bw 0 1):=rfl;have abH:b5 0 (.ptr c.aO 0 0)=o (.ptr c.aO 0 0):=rfl;have C0:=(Gm.cell 1 rfl).1;have jI:=(Gm.cell 0 rfl).1;have dP:∀x,((((h.push [r]).push [t]).push [N]).push [Lc]).set (h.n+1+1+1) (o x)=(((h.push [r]).push [t]).push [N]).push x:=λx=>i9 (h:=((h.push [r]).push [t]).push [N]);simp only[ey]at C0 jI;generalize j9:c.ms.getD P ad=M at*;have are:(qL M).one=O:=by cases M<;>first|rfl|exact(A9 _).2.2
 obtain⟨cE,c6⟩:=wk.cD;generalize aW:E.bool M.isSome::qL M::dk=pl at*;have d':pl[0]? =o (.bool M.isSome):=by rw[<-aW];rfl
 have dA:pl[1]? =o (qL M):=by rw[<-aW];rfl
 have Gr:pl.length=5:=by rw[<-aW];simp[cE]
 have Gs:pl.all E.one=O:=by rw[<-aW];simp only[pO,are,c6,pZ];rfl
 have br:aK aj aJ aG _ (aY (h.n+1+1+1) [pl]::aY (h.n+1+1) [N]::aY (h.n+1) [t]::aY h.n [r]::L):=aV.push [pl];have bp:=a5.cons (aY (h.n+1+1+1) [pl]);have dU:=(br.cell 0 rfl).1;have gg:=(br.cell 1 rfl).1;have ic:=(br.cell 2 rfl).1;have abI:gS c.ms (P:Int)=M.getD []:=by unfold gS;rw[mE,j9]
 by_cases qf:M.isNone\/((gS c.ms (P:Int)).length:Int)<=t6\/t6<0
 ·rw[if_pos qf];refine⟨_,_,?_,oV.no a (by decide) br.drop.drop.drop.drop⟩;cases M with
  |none=>simp only[Option.isSome_none]at d';refine a2 y7 rfl ?_;unfold xz;simp only[ak,aq,ar,al,bJ,bt,bq,dW,e4,aP,e8,l4,CZ,no,zd,d,oU,qc,Gp,Gq,ib,zp,bV,nr,Gn,cd,C0,Gr,Gs,jI,dP,dU,d']
  |some M=>
    simp only[Option.isSome_some]at d';have d2:decide ((M.length:Int)<=t6)=O:=by
     refine decide_eq_true ?_;rw[abI]at qf;simp only[rf]at qf;rcases qf with h|h|h
     ·cases h
     ·exact h
     ·omega
    obtain⟨cL,c3,_⟩:=A9 M;simp only[qL]at dA;refine a2 y7 rfl ?_;unfold xz;simp only[ak,aq,ar,al,bJ,bt,bq,dW,e4,aP,e8,l4,CZ,no,zd,zo,d,oU,qc,Gp,Gq,ib,zp,bV,nr,Gn,cd,C0,Gr,Gs,jI,dP,dU,gg,d',dA,cL,c3,d2]
 rw[if_neg qf];obtain⟨M,rfl⟩:∃q1,M=o q1:=by
  cases M with
  |none=>exact absurd (.inl rfl) qf
  |some M=>exact⟨M,rfl⟩
 simp only[Option.isSome_some]at d';have d2:decide ((M.length:Int)<=t6)=T:=by refine decide_eq_false λh=>qf (.inr (.inl ?_));rw[abI];exact h
 obtain⟨cL,c3,_⟩:=A9 M;simp only[qL]at dA;obtain⟨abJ,abK,_⟩:=d8 br bp I.len;obtain⟨_,_,_,_,a4⟩:=pB br (i+4) bp.m;have lm:∀k:Nat,cS T k ((((h.push [r]).push [t]).push [N]).push [pl]) (.ptr c.bw 0 1)=o (.bn n.bk 0 (n.below.length+1) fH):=λk=>by rw[fL,a4.m];rfl
 by_cases m6:n.below.length+1=20
 ·rw[if_pos m6];have d3:decide (((n.below.length+1:Nat):Int)=20)=O:=decide_eq_true (by omega);refine⟨_,_,?_,oV.no a (by decide) br.drop.drop.drop.drop⟩;refine a2 y7 rfl ?_;unfold xz;simp only[ak,aq,ar,al,bJ,bt,bq,dW,e4,aP,e8,l4,CZ,no,zd,zo,d,oU,qc,Gp,Gq,Rk,ib,zp,bV,nr,Gn,cd,C0,Gr,Gs,jI,dP,dU,gg,d',dA,cL,c3,d2,lm,d3]
 rw[if_neg m6];have d3:decide (((n.below.length+1:Nat):Int)=20)=T:=decide_eq_false (by omega);obtain⟨ez,eA,zm⟩:=br.get (i+1+1+1+1+2) bp.g;have xd:=alV (zm:eX _ ez eA c.ck n.S.G) I.S.wf v.n;have yV:fo 3 (i2 3 ((n.S.G.oJ v.n).map λx=>[.int j x])) (gl (n.S.G.oJ v.n)):=arc _ _;have axz:=N0 (i:=v.n) I.S.wf;generalize i2 3 ((n.S.G.oJ v.n).map λx=>[.int j x])=dS at*;generalize n.S.G.oJ v.n=aT at*;obtain⟨aD,⟨y,bY,bE⟩,bz⟩:=Gi br bp (cF:=λF=>∃bj,aQ ap W 113 [.ptr c.ck 0 0,.agg t,dS] ((((h.push [r]).push [t]).push [N]).push [pl])=o (.inl (.bU [.agg bj,.int j (fC aT n.S.G x).2.2]),F)/\bT (fC aT n.S.G x).2.1 bj) λae ai zm=>abr zm I.S.wf aw yV (by omega);generalize fC aT n.S.G x=q at*;obtain⟨cN,sa,iw⟩:=q;simp only at bY bE bz ⊢;have cA:=bp.put {n with S:={n.S with G:=cN}};rw[eC,eC,eC,eC]at bz cA;obtain⟨eD,fR⟩:=bE.cD;have zq:=bz.push [aU];have arf:=cA.cons (aY aD.n [aU]);obtain⟨fU,fm,_⟩:=d8 zq arf I.len;have d0:=(zq.cell 3 rfl).1;have b8:=bz.push [y];have et:=cA.cons (aY aD.n [y]);have d1:=(b8.cell 0 rfl).1;have arh:=(b8.cell 2 rfl).1;have Hv:(dS).one=O:=by rcases yV with⟨_,rfl⟩|⟨id,rfl⟩<;>rfl
 have ari:dS.cells=[dS]:=by rcases yV with⟨_,rfl⟩|⟨id,rfl⟩<;>rfl
 by_cases vB:iw=0
 ·subst vB;have d5:decide ((0:Int)=0)=O:=rfl;obtain⟨_,arj⟩:=abw b8 et I.below (f:=⟨P,t6,0,sa,[],[],O,aT⟩) (gu:=y) (g:=dS) bE yV rfl rfl;obtain⟨b9,hu,lB,cM⟩:=arj m6;rw[eC,eC,eC,eC,eC,hT]at cM;refine⟨_,b9,?_,.inl ⟨rfl,rfl,hu,cM.drop.drop.drop.drop.drop⟩⟩;obtain⟨nf,fs,jy,rfl⟩:∃a b c,y=[a,b,c]:=by match y,eD with|[a,b,c],_=>exact⟨a,b,c,rfl⟩
  simp only[pO,List.all_nil,pZ,hx]at fR;obtain⟨hl,lS,kj⟩:=fR;simp only[g7,k6,m3,lQ]at lB;refine a2 y7 rfl ?_;unfold xz;simp only[ak,aq,ar,al,bW,bJ,bt,bq,dW,e4,aP,e8,l4,CZ,no,zd,zo,d,oU,Gp,Gq,Rk,abH,ib,zp,abJ,abK,bV,nr,Gn,cd,C0,Gr,Gs,jI,dP,dU,gg,ic,d',dA,cL,c3,d2,lm,d3,xd,bY,fU,fm,d0,d1,arh,hl,lS,kj,Hv,ari,lB]
 ·have d5:decide (iw=0)=T:=decide_eq_false vB;refine⟨_,_,?_,.inr ⟨vB,rfl,{n with S:={n.S with G:=cN}},rfl,b8.drop.drop.drop.drop.drop⟩⟩;refine a2 y7 rfl ?_;unfold xz;simp only[ak,aq,ar,al,bJ,bt,bq,dW,e4,aP,e8,l4,CZ,no,zd,zo,d,oU,qc,Gp,Gq,Rk,abH,ib,zp,abJ,abK,bV,nr,Gn,cd,C0,Gr,Gs,jI,dP,dU,gg,ic,d',dA,cL,c3,d2,lm,d3,xd,bY,fU,fm,d0,d5,eD,fR]
end
abbrev ark:c':=118
section
variable{h F aj:ag}{ae ai aJ aG:Nat->Prop}{L:List b6}{c:ix}{i:Nat}{n:fJ}
theorem sG(s:aK aj aJ aG h L)(a:eY c L i n)(I:ie c n){op k m:Int}(h0:13<=op){aI:E⊕E}(e:aQ ap W ark [.ptr c.bw 0 0,.agg (ev op k m)] (h.push [ev op k m])=o (aI,F))(kr:aI= .inl (.bU [])\/∃v,aI= .inr v):aQ ap W nd [.ptr c.bw 0 0,.agg (ev op k m)] h=o (aI,F):=by
 have bg:=s.push [ev op k m];have aR:=a.cons (aY h.n [ev op k m]);obtain⟨dM,_⟩:=nL bg aR I.below;have aP:=(bg.cell 0 rfl).1;have d:∀D:Int,D<13->decide (op=D)=T:=λD aa=>decide_eq_false (by omega);have au:=d 1 (by decide);have ax:=d 2 (by decide);have bc:=d 3 (by decide);have bY:=d 4 (by decide);have lB:=d 6 (by decide);have om:=d 8 (by decide);have oo:=d 9 (by decide);have C1:=d 10 (by decide);have abL:=d 11 (by decide);have F5:=d 12 (by decide);rcases kr with rfl|⟨v,rfl⟩
 ·refine a2 nH rfl ?_;unfold m9;simp only[ak,aq,ar,al,bJ,dM,aP,au,ax,bc,bY,lB,om,oo,C1,abL,F5,e]
 ·refine a2 nH rfl ?_;unfold m9;simp only[ak,aq,ar,al,bJ,dM,aP,au,ax,bc,bY,lB,om,oo,C1,abL,F5,e]
theorem eZ.aI{q:bK×av×Int}{aI:E⊕E}(r:eZ aj aJ aG c L i n q aI F):aI= .inl (.bU [])\/∃v,aI= .inr v:=by
 rcases r with⟨_,b,_⟩|⟨_,b,_⟩
 ·exact .inl b
 ·exact .inr ⟨_,b⟩
theorem eZ.put{q:bK×av×Int}{fm:fJ}{aI:E⊕E}(r:eZ aj aJ aG c (put c L i fm) i n q aI F):eZ aj aJ aG c L i n q aI F:=by
 rcases r with⟨x,y,z⟩|⟨x,y,b',z,w⟩
 ·exact .inl ⟨x,y,by rw[hT]at z;exact z⟩
 ·exact .inr ⟨x,y,b',z,by rw[hT]at w;exact w⟩
theorem oV.put{q:bK×tm×Int}{fm:fJ}{aI:E⊕E}(r:oV aj aJ aG c (put c L i fm) i n q aI F):oV aj aJ aG c L i n q aI F:=by
 rcases r with⟨x,y,bk,z⟩|⟨x,y,b',z,w⟩
 ·exact .inl ⟨x,y,bk,by rw[hT]at z;exact z⟩
 ·exact .inr ⟨x,y,b',z,by rw[hT]at w;exact w⟩
theorem oV.drop{X:b6}{q:bK×tm×Int}{aI:E⊕E}(r:oV aj aJ aG c (X::L) (i+1) n q aI F):oV aj aJ aG c L i n q aI F:=by
 rcases r with⟨x,y,bk,z⟩|⟨x,y,b',z,w⟩
 ·exact .inl ⟨x,y,bk,z.drop⟩
 ·exact .inr ⟨x,y,b',z,w.drop⟩
theorem xP(s:aK aj aJ aG h L)(a:eY c L i n)(I:ie c n)(op k m:Int):aK aj aJ aG ((h.push [ev op k m]).push [ev op k m]) (aY (h.n+1) [ev op k m]::aY h.n [ev op k m]::L)/\eY c (aY (h.n+1) [ev op k m]::aY h.n [ev op k m]::L) (i+1+1) n/\aQ ap W JN [.ptr c.bw 0 0] ((h.push [ev op k m]).push [ev op k m])=o (.inl (.ptr n.bk n.below.length 0),(h.push [ev op k m]).push [ev op k m])/\(∀dQ:Nat,cS T dQ ((h.push [ev op k m]).push [ev op k m]) (.ptr n.bk n.below.length 0)=o (.int j n.top.bI))/\((h.push [ev op k m]).push [ev op k m]).cell (h.n+1)=o [ev op k m]:=by have bg:=(s.push [ev op k m]).push [ev op k m];have aR:=(a.cons (aY h.n [ev op k m])).cons (aY (h.n+1) [ev op k m]);obtain⟨dM,lA⟩:=nL bg aR I.below;exact⟨bg,aR,dM,lA,(bg.cell 0 rfl).1⟩
theorem arl(s:aK aj aJ aG h L)(a:eY c L i n)(I:ie c n){v:av}(bS:n.top.stack=st++[v])(k m:Int):∃aI F,aQ ap W nd [.ptr c.bw 0 0,.agg (ev 13 k m)] h=o (aI,F)/\eZ aj aJ aG c L i (n.db st) (gZ n.top.bI 13 k m [v] n.S) aI F:=by
 obtain⟨bg,aR,dM,_,aP⟩:=xP s a I 13 k m;obtain⟨R,r,ax,U,aV,a5⟩:=tS bg aR I bS;obtain⟨aI,ah,bc,hz⟩:=aqY aV a5 (I.rM bS) U k m;have jV:=hz.put.drop.drop;refine⟨aI,ah,sG s a I (by decide) ?_ jV.aI,jV⟩;rcases jV.aI with rfl|⟨u,rfl⟩
 ·refine a2 pq rfl ?_;unfold oN;simp only[ak,aq,ar,al,bJ,dM,aP,cC,ax,bc]
 ·refine a2 pq rfl ?_;unfold oN;simp only[ak,aq,ar,al,bJ,dM,aP,cC,ax,bc]
theorem arn(s:aK aj aJ aG h L)(a:eY c L i n)(I:ie c n){v:av}(bS:n.top.stack=st++[v])(k m:Int):∃aI F,aQ ap W nd [.ptr c.bw 0 0,.agg (ev 16 k m)] h=o (aI,F)/\eZ aj aJ aG c L i (n.db st) (gZ n.top.bI 16 k m [v] n.S) aI F:=by
 obtain⟨bg,aR,dM,_,aP⟩:=xP s a I 16 k m;obtain⟨R,r,ax,U,aV,a5⟩:=tS bg aR I bS;obtain⟨aI,ah,bc,hz⟩:=aq1 aV a5 (I.rM bS) U k m;have jV:=hz.put.drop.drop;refine⟨aI,ah,sG s a I (by decide) ?_ jV.aI,jV⟩;rcases jV.aI with rfl|⟨u,rfl⟩
 ·refine a2 pq rfl ?_;unfold oN;simp only[ak,aq,ar,al,bJ,dM,aP,cC,ax,bc]
 ·refine a2 pq rfl ?_;unfold oN;simp only[ak,aq,ar,al,bJ,dM,aP,cC,ax,bc]
theorem abM{ah:ag}{C2:List b6}(br:aK aj aJ aG ah C2)(x y:List E):aK aj aJ aG ((((ah.push [aU]).push [aU]).set ah.n (o [x])).set (ah.n+1) (o [y])) (aY (ah.n+1) [y]::aY ah.n [x]::C2)/\(((ah.push [aU]).push [aU]).set ah.n (o [x])).cell (ah.n+1)=o [aU]:=by have bz:=(br.push [aU]).push [aU];have b8:aK aj aJ aG _ (aY (ah.n+1) [aU]::aY ah.n [x]::C2):=bz.set 1 rfl [x];exact⟨b8.set 0 rfl [y],(b8.cell 0 rfl).1⟩
theorem aro(s:aK aj aJ aG h L)(a:eY c L i n)(I:ie c n){v w:av}(bS:n.top.stack=st++[v]++[w])(k m:Int):∃aI F,aQ ap W nd [.ptr c.bw 0 0,.agg (ev 14 k m)] h=o (aI,F)/\eZ aj aJ aG c L i (n.db st) (gZ n.top.bI 14 k m [v,w] n.S) aI F:=by
 obtain⟨bg,aR,dM,_,aP⟩:=xP s a I 14 k m;obtain⟨R,ah,l5,cx,ax,bc,hw,U,br,bp⟩:=K' bg aR I bS;have dW:=(I.rM (st:=st) (l:=[v]++[w]) (by rw[bS,k']));obtain⟨bt,bq⟩:=hw.cD;obtain⟨g',e4⟩:=U.cD;obtain⟨cM,kC⟩:=abM br l5 cx;have i3:=(bp.cons (aY ah.n [l5])).cons (aY (ah.n+1) [cx]);have bM:=(cM.cell 0 rfl).1;have bL:=(cM.cell 1 rfl).1;generalize qe:(((ah.push [aU]).push [aU]).set ah.n (o [l5])).set (ah.n+1) (o [cx])=b9 at*;obtain⟨aI,c4,km,qg⟩:=aqZ cM i3 dW U hw k m;have hf:=qg.drop.drop.put.drop.drop;refine⟨aI,c4,sG s a I (by decide) ?_ hf.aI,hf⟩;rcases hf.aI with rfl|⟨u,rfl⟩
 ·refine a2 pq rfl ?_;unfold oN;simp only[ak,aq,ar,al,bJ,dM,aP,cC,ax,bc,bt,bq,e4,g',kC,qe,bM,bL,km]
 ·refine a2 pq rfl ?_;unfold oN;simp only[ak,aq,ar,al,bJ,dM,aP,cC,ax,bc,bt,bq,e4,g',kC,qe,bM,bL,km]
theorem arp(s:aK aj aJ aG h L)(a:eY c L i n)(I:ie c n){v w:av}(bS:n.top.stack=st++[v]++[w])(k m:Int):∃aI F,aQ ap W nd [.ptr c.bw 0 0,.agg (ev 19 k m)] h=o (aI,F)/\oV aj aJ aG c L i (n.db st) (hO c.ms v w (n.below.length+1) n.S) aI F:=by
 obtain⟨bg,aR,dM,_,aP⟩:=xP s a I 19 k m;obtain⟨R,ah,l5,cx,ax,bc,hw,U,br,bp⟩:=K' bg aR I bS;have dW:=(I.rM (st:=st) (l:=[v]++[w]) (by rw[bS,k']));obtain⟨bt,bq⟩:=hw.cD;obtain⟨g',e4⟩:=U.cD;obtain⟨cM,kC⟩:=abM br l5 cx;have i3:=(bp.cons (aY ah.n [l5])).cons (aY (ah.n+1) [cx]);have bM:=(cM.cell 0 rfl).1;have bL:=(cM.cell 1 rfl).1;generalize qe:(((ah.push [aU]).push [aU]).set ah.n (o [l5])).set (ah.n+1) (o [cx])=b9 at*;obtain⟨aI,c4,km,qg⟩:=ard cM i3 dW U hw;have hf:=qg.drop.drop.put.drop.drop;have kr:aI= .inl (.bU [])\/∃v,aI= .inr v:=by
  rcases hf with⟨_,b,_⟩|⟨_,b,_⟩
  ·exact .inl b
  ·exact .inr ⟨_,b⟩
 refine⟨aI,c4,sG s a I (by decide) ?_ kr,hf⟩;rcases kr with rfl|⟨u,rfl⟩
 ·refine a2 pq rfl ?_;unfold oN;simp only[ak,aq,ar,al,bJ,dM,aP,cC,ax,bc,bt,bq,e4,g',kC,qe,bM,bL,km]
 ·refine a2 pq rfl ?_;unfold oN;simp only[ak,aq,ar,al,bJ,dM,aP,cC,ax,bc,bt,bq,e4,g',kC,qe,bM,bL,km]
theorem abN{p k n:Int}{v:av}{S:bK}:gZ p 15 k n [v] S=if v.kind≠4 then S.no 2 else Ad S (S.G.derive v.n k (-1)):=rfl
theorem abO{p k n:Int}{v:av}{S:bK}:gZ p 17 k n [v] S=if v.kind≠5 then S.no 2 else({S with G:=(S.G.cut v.n).1}:bK).ok cv:=rfl
theorem abP{p k n:Int}{v:av}{S:bK}:gZ p 20 k n [v] S=({S with kept:=S.kept.set p.toNat v}:bK).ok (S.kept.getD p.toNat cv):=rfl
theorem arq(s:aK aj aJ aG h L)(a:eY c L i n)(I:ie c n){v:av}(bS:n.top.stack=st++[v])(k m:Int):∃aI F,aQ ap W nd [.ptr c.bw 0 0,.agg (ev 15 k m)] h=o (aI,F)/\eZ aj aJ aG c L i (n.db st) (gZ n.top.bI 15 k m [v] n.S) aI F:=by
 rw[abN];obtain⟨bg,aR,dM,_,aP⟩:=xP s a I 15 k m;obtain⟨R,r,ax,U,aV,a5⟩:=tS bg aR I bS;have dW:=I.rM bS;rw[eC,eC]at aV a5;have bu:=(aV.cell 0 rfl).1;by_cases Z:v.kind=4
 ·rw[if_neg (by simpa using Z)];obtain⟨bj,e8,mR⟩:=tN (h:=R) U Z;obtain⟨ah,bc,br⟩:=abu aV a5 I.len I.S.wf mR k (-1);have bp:=a5.put {(n.db st)with S:={n.S with G:=(n.S.G.derive v.n k (-1)).1}};unfold Ad;by_cases an:(n.S.G.derive v.n k (-1)).2.2=0
  ·rw[if_pos an]at bc;rw[if_neg (by simpa using an)];obtain⟨aD,bY,bz⟩:=pC br bp I.below dW.db (zl (n.S.G.derive v.n k (-1)).2.1);rw[hT,eC,eC,hT]at bz;have hf:eZ aj aJ aG c L i (n.db st) _ _ aD:=eZ.ok bz.drop.drop;refine⟨_,aD,sG s a I (by decide) ?_ hf.aI,hf⟩;refine a2 pq rfl ?_;unfold oN;simp only[ak,aq,ar,al,bJ,dM,aP,cC,ax,bu,e8,bc,bY]
  ·rw[if_neg an]at bc;rw[if_pos an];rw[eC,eC,hT]at br;have hf:eZ aj aJ aG c L i (n.db st) _ _ ah:=eZ.no (S:={n.S with G:=(n.S.G.derive v.n k (-1)).1}) an {(n.db st)with S:={n.S with G:=(n.S.G.derive v.n k (-1)).1}} rfl br.drop.drop;refine⟨_,ah,sG s a I (by decide) ?_ hf.aI,hf⟩;refine a2 pq rfl ?_;unfold oN;simp only[ak,aq,ar,al,bJ,dM,aP,cC,ax,bu,e8,bc]
 ·rw[if_pos Z];have e8:=tO (h:=R) U Z;have hf:eZ aj aJ aG c L i (n.db st) _ _ R:=eZ.no (S:=n.S) (k:=2) (by decide) (n.db st) rfl aV.drop.drop;refine⟨_,R,sG s a I (by decide) ?_ hf.aI,hf⟩;refine a2 pq rfl ?_;unfold oN;simp only[ak,aq,ar,al,bJ,dM,aP,cC,ax,bu,e8]
theorem ars(s:aK aj aJ aG h L)(a:eY c L i n)(I:ie c n){v:av}(bS:n.top.stack=st++[v])(k m:Int):∃aI F,aQ ap W nd [.ptr c.bw 0 0,.agg (ev 17 k m)] h=o (aI,F)/\eZ aj aJ aG c L i (n.db st) (gZ n.top.bI 17 k m [v] n.S) aI F:=by
 rw[abO];obtain⟨bg,aR,dM,_,aP⟩:=xP s a I 17 k m;obtain⟨ib,cK,_⟩:=d8 bg aR I.len;obtain⟨R,r,ax,U,aV,a5⟩:=tS bg aR I bS;have dW:=I.rM bS;obtain⟨cX,jS,_⟩:=d8 aV a5 I.len;rw[eC,eC]at aV a5;have f0:b5 0 (.ptr c.bw 0 0)=o (.ptr c.bw 0 0):=rfl;have f1:b5 0 (.ptr c.aO 0 0)=o (.ptr c.aO 0 0):=rfl;by_cases Z:v.kind=5
 ·rw[if_neg (by simpa using Z)];obtain⟨bj,e8,mR⟩:=tN (h:=R) U Z;obtain⟨w,hw,_⟩:=mR.iQ;have v3:H5 T 1 1 (.agg bj)=o (.int j v.n):=by rw[hw];rfl
  obtain⟨ah,bc,br⟩:=Gi aV a5 (cF:=λF=>aQ ap W 62 [.ptr c.ck 0 0,.int j v.n] R=o (.inl (.int j (n.S.G.cut v.n).2),F)) λae ai x=>Xe x v.n;have bp:=a5.put {(n.db st)with S:={n.S with G:=(n.S.G.cut v.n).1}};obtain⟨aD,bY,bz⟩:=pC br bp I.below dW.db e6;rw[hT,eC,eC,hT]at bz;have hf:eZ aj aJ aG c L i (n.db st) _ _ aD:=eZ.ok (S:={n.S with G:=(n.S.G.cut v.n).1}) (v:=cv) bz.drop.drop;refine⟨_,aD,sG s a I (by decide) ?_ hf.aI,hf⟩;refine a2 pq rfl ?_;unfold oN;simp only[ak,aq,ar,al,bJ,dM,aP,cC,f0,f1,ib,cK,cX,jS,ax,e8,v3,bc,bY]
 ·rw[if_pos Z];have e8:=tO (h:=R) U Z;have hf:eZ aj aJ aG c L i (n.db st) _ _ R:=eZ.no (S:=n.S) (k:=2) (by decide) (n.db st) rfl aV.drop.drop;refine⟨_,R,sG s a I (by decide) ?_ hf.aI,hf⟩;refine a2 pq rfl ?_;unfold oN;simp only[ak,aq,ar,al,bJ,dM,aP,cC,f0,f1,ib,cK,cX,jS,ax,e8]
def Rl(aj:ag)(aJ aG:Nat->Prop)(c:ix)(L:List b6)(i:Nat)(n:fJ)(k:Int)(v:av)(aI:E⊕E)(F:ag):Prop:=(n.below.length+1≠20/\aI= .inl (.bU [])/\∃hu,aK aj aJ aG F (put c L i ⟨hu,n.S,n.below++[n.top],⟨n.top.bI,k,0,v,[],[],T,[]⟩⟩))\/(n.below.length+1=20/\aI= .inr (.iface mi (.int j 4))/\aK aj aJ aG F (put c L i n))
theorem art(s:aK aj aJ aG h L)(a:eY c L i n)(I:ie c n){v:av}(bS:n.top.stack=st++[v])(k m:Int):∃aI F,aQ ap W nd [.ptr c.bw 0 0,.agg (ev 18 k m)] h=o (aI,F)/\Rl aj aJ aG c L i (n.db st) k v aI F:=by
 obtain⟨bg,aR,dM,_,aP⟩:=xP s a I 18 k m;obtain⟨R,r,ax,U,aV,a5⟩:=tS bg aR I bS;have dW:=I.rM bS;rw[eC,eC]at aV a5;obtain⟨bt,bq⟩:=U.cD;have br:=aV.push [r];have bp:=a5.cons (aY R.n [r]);have cd:=(br.cell 0 rfl).1;have dU:=(br.cell 1 rfl).1;obtain⟨_,lA⟩:=nL br bp I.below;have f0:b5 0 (.ptr n.bk n.below.length 0)=o (.ptr n.bk n.below.length 0):=rfl;obtain⟨aru,arv⟩:=abw br bp I.below (f:=⟨n.top.bI,k,0,v,[],[],T,[]⟩) (gu:=r) (g:=.aA) U (.inl ⟨rfl,rfl⟩) rfl rfl;obtain⟨nf,fs,jy,rfl⟩:∃a b c,r=[a,b,c]:=by match r,bt with|[a,b,c],_=>exact⟨a,b,c,rfl⟩
 simp only[pO,List.all_nil,pZ,hx]at bq;obtain⟨hl,lS,kj⟩:=bq;by_cases m6:n.below.length+1=20
 ·obtain⟨aD,bY,bz⟩:=aru m6;simp only[g7,k6,m3,lQ]at bY;refine⟨_,aD,sG s a I (by decide) ?_ (.inr ⟨_,rfl⟩),.inr ⟨m6,rfl,bz.drop.drop.drop⟩⟩;refine a2 pq rfl ?_;unfold oN;simp only[ak,aq,ar,al,bW,bJ,dM,aP,cC,ax,f0,lA,cd,dU,hl,lS,kj,bY]
 ·obtain⟨aD,hu,bY,bz⟩:=arv m6;simp only[g7,k6,m3,lQ]at bY;rw[eC,eC,eC,hT]at bz;refine⟨_,aD,sG s a I (by decide) ?_ (.inl rfl),.inl ⟨m6,rfl,hu,bz.drop.drop.drop⟩⟩;refine a2 pq rfl ?_;unfold oN;simp only[ak,aq,ar,al,bW,bJ,dM,aP,cC,ax,f0,lA,cd,dU,hl,lS,kj,bY]
theorem arw(s:aK aj aJ aG h L)(a:eY c L i n)(I:ie c n){v:av}(bS:n.top.stack=st++[v]){P:Nat}(fT:n.top.bI=(P:Int))(pD:P<4)(k m:Int):∃aI F,aQ ap W nd [.ptr c.bw 0 0,.agg (ev 20 k m)] h=o (aI,F)/\eZ aj aJ aG c L i (n.db st) (gZ n.top.bI 20 k m [v] n.S) aI F:=by
 rw[abP];obtain⟨bg,aR,dM,lA,aP⟩:=xP s a I 20 k m;obtain⟨ib,cK,_⟩:=d8 bg aR I.len;obtain⟨bV,_,dk,tU,wk,_,Rj⟩:=Lb bg aR I pD;rw[fT]at lA ⊢;rw[mE];obtain⟨cE,c6⟩:=wk.cD;have f0:b5 0 (.ptr c.bw 0 0)=o (.ptr c.bw 0 0):=rfl;have f1:b5 2 (.ptr c.aO 0 0)=o (.ptr c.aO 0 2):=rfl;have f2:b5 0 (.ptr n.bk n.below.length 0)=o (.ptr n.bk n.below.length 0):=rfl;have f3:b5 2 (.ptr c.aO 0 (2+P*5))=o (.ptr c.aO 0 (2+P*5+2)):=rfl;have aV:aK aj aJ aG _ (aY (h.n+1+1) [dk]::aY (h.n+1) [ev 20 k m]::aY h.n [ev 20 k m]::L):=bg.push [dk];have a5:=aR.cons (aY (h.n+1+1) [dk]);obtain⟨ah,r,bc,U,br,bp⟩:=tS aV a5 I bS;have dW:=I.rM bS;rw[eC,eC,eC]at br;have Ld:eY c (aY (h.n+1+1) [dk]::aY (h.n+1) [ev 20 k m]::aY h.n [ev 20 k m]::put c L i (n.db st)) (i+1+1+1) (n.db st):=bp;obtain⟨aD,bY,bz⟩:=apy br (i+1+1+1+1) Ld.b I.len (p:=P) (by rw[I.ms];exact pD) U;have abQ:aK aj aJ aG aD (aY (h.n+1+1) [dk]::aY (h.n+1) [ev 20 k m]::aY h.n [ev 20 k m]::put c L i {(n.db st)with S:={n.S with kept:=n.S.kept.set P v}}):=by rw[Ld.ap1,eC,eC,eC,hT]at bz;exact bz
 have cA:=((((a.put {(n.db st)with S:={n.S with kept:=n.S.kept.set P v}}).cons (aY h.n [ev 20 k m])).cons (aY (h.n+1) [ev 20 k m])).cons (aY (h.n+1+1) [dk]));have dU:=(abQ.cell 0 rfl).1;obtain⟨bo,cU,b8⟩:=pC abQ cA I.below dW.db wk;rw[eC,eC,eC,hT]at b8;have hf:eZ aj aJ aG c L i (n.db st) _ _ bo:=eZ.ok (S:={n.S with kept:=n.S.kept.set P v}) (v:=n.S.kept.getD P cv) b8.drop.drop.drop;refine⟨_,bo,sG s a I (by decide) ?_ hf.aI,hf⟩;refine a2 pq rfl ?_;unfold oN;simp only[ak,aq,ar,al,bJ,dM,aP,cC,f0,f1,f2,f3,ib,lA,bV,tU,cE,c6,bc,bY,dU,cU]
theorem arx(s:aK aj aJ aG h L)(a:eY c L i n)(I:ie c n){P:Nat}(fT:n.top.bI=(P:Int))(pD:P<4)(k m:Int):∃F,aQ ap W nd [.ptr c.bw 0 0,.agg (ev 21 k m)] h=o (.inl (.bU []),F)/\aK aj aJ aG F (put c L i (n.db (n.top.stack++[n.S.kept.getD P cv]))):=by obtain⟨bg,aR,dM,lA,aP⟩:=xP s a I 21 k m;obtain⟨ib,cK,_⟩:=d8 bg aR I.len;obtain⟨bV,_,dk,tU,wk,_,Rj⟩:=Lb bg aR I pD;rw[fT]at lA;have f0:b5 0 (.ptr c.bw 0 0)=o (.ptr c.bw 0 0):=rfl;have f1:b5 2 (.ptr c.aO 0 0)=o (.ptr c.aO 0 2):=rfl;have f2:b5 0 (.ptr n.bk n.below.length 0)=o (.ptr n.bk n.below.length 0):=rfl;have f3:b5 2 (.ptr c.aO 0 (2+P*5))=o (.ptr c.aO 0 (2+P*5+2)):=rfl;obtain⟨R,ax,aV⟩:=pC bg aR I.below I.db wk;rw[eC,eC]at aV;refine⟨R,sG s a I (by decide) ?_ (.inl rfl),aV.drop.drop⟩;refine a2 pq rfl ?_;unfold oN;simp only[ak,aq,ar,al,bJ,dM,aP,cC,f0,f1,f2,f3,ib,lA,bV,tU,ax]
end
end Go.Proofs.YtkdbjfncchmmpaaGreat
