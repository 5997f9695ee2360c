/- The machine's push: in each order that Go leaves open. -/
import Derived.Test.YtkdbjfncchmmpaaGreatMw3
import Derived.Test.YtkdbjfncchmmpaaGreatRows
import Derived.Deep.QuietTactic
import Derived.BigQuiet
import Derived.Lib.SliceRun
import Derived.WalkLawsBesides
set_option linter.unusedSimpArgs false
set_option linter.unusedVariables false
set_option maxHeartbeats 4000000
set_option maxRecDepth 1000000
open List renaming replicate→ap,getElem?_eq_some_iff→fO,getElem?_eq_getElem→fT,length_append→fz,length_singleton→hj,getD→cZ,length_nil→fG,length_map→fM,length_cons→ho,getElem?_append_right→l1,getElem_mem→jl,getElem?_append_left→l0,all_eq_true→jW,append_assoc→kS,getElem?_eq_none→mE,mem_range→kD,map_cons→kf,getElem?_cons_zero→oq,nil_append→l3,range→jG,mem_of_getElem?→o6,cons_append→nz,mem_cons→mJ,append_nil→ou,getElem?_set→pR,mem_map→nt,length_take→pv,length_eq_zero_iff→sy,getElem?_cons_succ→sz,map_nil→pt,all_cons→qa,getElem?_set_ne→uP,drop_eq_getElem_cons→wM,map_append→u5,drop_length→wN,getElem?_map→xl
open Nat renaming reduceAdd→ar,reduceSub→av,reduceLeDiff→bY,le_refl→b9,lt_of_lt_of_le→fS,le_trans→e6,zero_add→ir,lt_or_ge→oj,one_ne_zero→tE,reduceLT→vi
open Go.IntKind renaming i64→j,wrap→kw
open Option renaming some→o,none→ag,bind_eq_some_iff→dX,map_eq_some_iff→ed,bind_some→du,map_some→i3
open Go.Proofs.Tryz renaming prog→aq
open Bool renaming false→U,true→J,and_eq_true→gv,and_true→rN
open Int renaming reduceEq→cN,natCast_zero→j'
open Go renaming TypeId→a9,Oper→bm,Program→c',Value→b',FuncId→di,World→dO,IntKind→gZ,undef→g0,Code→gu
open Array renaming getD_eq_getD_getElem?→jo
open Option.some renaming injEq→iF,inj→k9
open Prod.mk renaming injEq→kW
open SizeOf renaming sizeOf→lz
open Go.Region renaming binds→lF
open Ne renaming symm→mG
open List.cons renaming injEq→yY
namespace Go.Proofs.YtkdbjfncchmmpaaGreat
variable{dD:Nat->Nat->Prop}{es:List (List F)}{cs:List Int}{R:ai}{cC:Nat}{bn:F}
open Go Go.RowKit
section
variable{P:c'}{aa:iQ}{f:di}{n aZ:Nat}{bk:List Nat}{h E R aj:ai}{V gI:List F}{args:List F}{all:Array bm}
theorem oJ.draw(dx:m0 P aa){id:Nat}{c:gu}(an:c= .region id all J)(p:oJ P aa f n bk args h (.halt [.code c]) V R)(xo:((jG all.size).all λD=>(all.getD D default).after.all λe=> !lF .any e||decide (e.on<D))=J)(qv:bk.Nodup/\∀D s,bk[D]? =o s->(D<aZ↔s<aa.aZ f))(nV:z5 (aa.fy f) all=J)(I:∀L,mg all (λ_ _=>False) (m6 all) L->∃(dD:Nat->Nat->Prop) (pl:List (Nat×List Nat)) (bT:List aE),mg all dD (m6 all) L/\uO all pl (λ_=>U) dD/\oy P (aa.bh f) n bk all [] (jT J all pl)=o bT/\bB (aU P aa) aZ [.ops bT,.halt []] V [] R=o (.halt [],gI,aj)):oJ P aa f n bk args h .ret gI aj:=by intro m w bI hw fQ cs;obtain⟨fC,t2,cg,c0,fq,cL,cO,cx,cb,dF,gH,aP,h7,hE,j4⟩:=p m w bI hw fQ cs;subst an;obtain⟨L,gn,bR,bQ,da,eS⟩:=aeP (P:=P) (all:=all) (id:=id) (b:=fC) (a:=aP) (K:=[]) (cs:=cs) (w:=cx) dx (λD ae e he ad=>by rw[jW]at xo;have:=xo D (kD.2 ae);rw[Array.all_eq_true']at this;have:=this e he;simpa[ad]using this);obtain⟨dD,pl,bT,aw,ay,be,b1⟩:=I L bR;obtain⟨dQ,az,v9⟩:=aeO (K:=[]) dx ay nV qv be b1 cL;obtain⟨hK,iz,fU,jV,ls,bl,ot,m5,r4⟩:=az cO gn aP fC cs L aw (da _ _ dF) h7 hE;refine⟨fC,dQ,cg,c0,fq,v9,fc.steps j4 (fc.after cb gH (fc.steps bQ (fc.after (Ext.refl _ _) (eS _) ?_)))⟩;exact⟨hK,iz,fU,jV,ls,bl,[],ot,m5,r4.trans (.one step_end)⟩
theorem Sy{x y z:Nat}(I:dD x y)(aB:((fI all z).after.toList.any λe=>lF .any e&&e.on==y)=J):∀{li:Array Bool} {L:List Nat},mg all dD li L->li.size=all.size->(li.getD y U=J->li.getD x U=J)->mg all (BL dD x z) li L:=by
 rw[List.any_eq_true]at aB;obtain⟨e,aw,ay⟩:=aB;simp only[gv,beq_iff_eq]at ay;intro li L aK;induction aK with
 |nil li h=>exact λ_ _=>.nil _ h
 |cons li i L cS cf eQ lv _ aR=>
   intro aC af;have it:i<li.size:=by omega
   refine .cons _ _ _ cS cf eQ (λD ae=>ae.elim (lv D) λae=>?_) (aR (by simpa using aC) λbH=>?_)
   ·rw[ae.1];refine af ?_;have:=eQ e (by rw[ae.2];simpa using aw) ay.1;rwa [ay.2]at this
   ·rw[lK it]at bH ⊢;split
    ·rfl
    ·split at bH
     ·rename_i bq;exact lv x (by rw[<-bq];exact I)
     ·exact af bH
theorem arY{x y z:Nat}(I:dD x y)(R:dD z x)(aB:∃e∈(fI all z).after,lF .any e=J/\e.on=y)(aF:x<all.size):∀{li:Array Bool} {L:List Nat},mg all dD li L->li.size=all.size->li.getD x U=U->li.getD y U=U->li.getD z U=U->False:=by
 intro li L aK;induction aK with
 |nil li h=>intro aC a _ _;rw[h x aF]at a;cases a
 |cons li i L cS cf eQ lv _ aR=>
   intro aC a b c;have fA:x≠i:=λe=>by have:=lv z (by rw[<-e];exact R);rw[c]at this;cases this
   have kX:y≠i:=λe=>by have:=lv x (by rw[<-e];exact I);rw[a]at this;cases this
   have mb:z≠i:=λe=>by obtain⟨dT,aw,ay,be⟩:=aB;have:=eQ dT (by rw[<-e];exact aw) ay;rw[be,b]at this;cases this
   have af:i<li.size:=by omega
   exact aR (by simpa using aC) (by rw[lK af,if_neg fA];exact a) (by rw[lK af,if_neg kX];exact b) (by rw[lK af,if_neg mb];exact c)
end
abbrev pQ:di:=114
abbrev L1:di:=88
noncomputable def zq:gu:=Tryz.f114.body.getD .skip
theorem aeW:(aq).funcs[pQ]? =o Tryz.f114:=Tryz.func114
theorem arZ:Tryz.f114.body=o zq:=rfl
theorem ar0:Tryz.f114.ntmps=16:=rfl
theorem ar1:zq= .seq (eV zq) (hf zq):=rfl
theorem ar2:q3 aq [0,1,3] Tryz.f114.results.toList=o []:=by kernel_rfl
abbrev Cx:List Nat:=[0,1,3]
theorem aeX:uW 2 16 (aa.aZ pQ) 3 Cx=J:=by kernel_rfl
theorem ar3:hF aq (aa.bh pQ) (aa.cM pQ) 16 Cx (eV zq) []=o aeM:=by kernel_rfl
theorem ar4:i9 (aa.cM pQ) (aa.fy pQ) (eV zq)=J:=by kernel_rfl
noncomputable abbrev lf:Array bm:=nd (hf zq)
theorem ar5:hf zq= .region 1 lf J:=rfl
theorem ar6:((jG lf.size).all λD=>(lf.getD D default).after.all λe=> !lF .any e||decide (e.on<D))=J:=by kernel_rfl
theorem ar7:z5 (aa.fy pQ) lf=J:=by kernel_rfl
def Sz:List (Nat×List Nat):=[(0,[]),(2,[]),(7,[]),(8,[]),(1,[7]),(3,[7]),(4,[]),(5,[]),(6,[]),(9,[]),(10,[]),(11,[]),(12,[])]
def SA:List (Nat×List Nat):=[(0,[]),(2,[]),(7,[]),(1,[7]),(8,[]),(3,[7]),(4,[]),(5,[]),(6,[]),(9,[]),(10,[]),(11,[]),(12,[])]
def SB:List (Nat×List Nat):=[(0,[]),(2,[]),(7,[]),(1,[7]),(3,[7]),(4,[]),(5,[]),(6,[]),(8,[6]),(9,[]),(10,[]),(11,[]),(12,[])]
theorem ar8:yy [(8,1),(8,3),(8,4),(8,5),(8,6)] lf Sz=J:=by kernel_rfl
theorem ar9:yy [(1,8),(8,3),(8,4),(8,5),(8,6)] lf SA=J:=by kernel_rfl
theorem ar':yy [(1,8),(3,8)] lf SB=J:=by kernel_rfl
theorem asa:oy aq (aa.bh pQ) 16 Cx lf [] (jT J lf Sz)=o LV:=by kernel_rfl
theorem asb:oy aq (aa.bh pQ) 16 Cx lf [] (jT J lf SA)=o LW:=by kernel_rfl
theorem asc:oy aq (aa.bh pQ) 16 Cx lf [] (jT J lf SB)=o LX:=by kernel_rfl
theorem L2:lf.size=13:=by kernel_rfl
theorem asd:((fI lf 4).after.toList.any λe=>lF .any e&&e.on==3)=J:=by kernel_rfl
theorem ase:((fI lf 5).after.toList.any λe=>lF .any e&&e.on==4)=J:=by kernel_rfl
theorem asf:((fI lf 6).after.toList.any λe=>lF .any e&&e.on==5)=J:=by kernel_rfl
theorem aeY(I:dD 8 3){L:List Nat}(aK:mg lf dD (m6 lf) L):mg lf (BL (BL (BL dD 8 4) 8 5) 8 6) (m6 lf) L:=by
 have fa:(m6 lf).size=lf.size:=by simp
 have n:∀D,(m6 lf).getD D U=J->(m6 lf).getD 8 U=J:=λD ae=>by rw[q1]at ae;cases ae
 exact Sy (.inr ⟨rfl,rfl⟩) asf (Sy (.inr ⟨rfl,rfl⟩) ase (Sy I asd aK fa (n _)) fa (n _)) fa (n _)
theorem asg:((fI lf 3).after.toList.any λe=>lF .any e&&e.on==1)=J:=by kernel_rfl
theorem ash(x y:F):hG 16 Cx [] ([x,y]++ap (16 - [x,y].length) .aD) ([x,y]++ap (Cx.length - [x,y].length) .aD) []:=by
 refine⟨by simp,rfl,rfl,λD s ae=>?_,λD s ae=>by simp at ae⟩
 match D,ae with
 |0,ae|1,ae|2,ae=>obtain rfl:=k9 ae;exact⟨by decide,rfl⟩
 |D+3,ae=>simp at ae
theorem L3{h:ai}{bF bp k:Nat}{Hz vf:F}(hm:h.cell bF=o [[Hz,.bw bp 0 (k+1) gr,vf]])(ab:k<=1000):aU aq aa L1 [.ptr bF 0 0] h=o (.inl (.ptr bp k 0),h):=by have w:kw j (((k+1:Nat):Int) - 1)=(k:Int):=Cf (by omega) (by omega) (by omega);have bJ:∀q:gZ,dY (o gr) ag (.bw bp 0 (k+1) gr) (.int q (k:Int))=o (.ptr bp (0+k) 0):=λq=>Au rfl (by omega);refine a4 arG rfl ?_;unfold adV;simp only[ao,ar,av,ap,hm,w,bJ]
theorem asi{h aj:ai}{bF bp k:Nat}{Hz vf s ek:F}{r:List F}{rows:List (List F)}{row:List F}(ab:k<=1000)(au:r.length=3/\r.all F.one=J)(aDI:bF<h.n)(pF:bp<h.n)(hm:h.cell bF=o [[Hz,.bw bp 0 (k+1) gr,vf]])(bo:h.cell bp=o rows)(me:rows[k]? =o row)(aC:row[6]? =o s)(asj:row.length=10)(aV:eH J bO s (.bw (h.n+1) 0 1 bO) ((h.push [r]).push [r])=o (ek,aj))(asl:aj.cell bp=o rows)(I:ek.one=J)(nR:ek.cells=[ek]):aU aq aa pQ [.ptr bF 0 0,.agg r] h=o (.inl (.bS []),aj.set bp (o (rows.set k (row.set 6 ek)))):=by
 have F5:k<rows.length:=(fO.1 me).1;have bW:dy row 6 [ek]=row.set 6 ek:=by
  match row,asj with
  |[a,b,c,d,e,f,g,i,D,l],_=>rfl
 have Z:QM [.ptr bF 0 0,.agg r] h=o (aj.set bp (o (rows.set k (row.set 6 ek)))):=by simp only[QM,hm,du,bo,Nat.add_sub_cancel,me,aC,aV,i3]
 have iT:AC aq pQ [.ptr bF 0 0,.agg r] h (.inl (.bS []),aj.set bp (o (rows.set k (row.set 6 ek)))):=by
  have en:=oJ.start (aa:=aa) (h:=h) aeW arZ ar0 (ash (.ptr bF 0 0) (.agg r));have dB:=en.next (aZ:=3) (x:=.halt [.code (hf zq)]) (gI:=[.ptr bF 0 0,.agg r,.ptr h.n 0 0]) (aj:=h.push [r]) dx ar1 (ma aeX) ar3 ar4 (by unfold aeM;have ad:= @D9 (aU (aq) aa) 3;simp only[ao,ar,av,ap,au.1,au.2]);have aeZ:(h.push [r]).cell bF=o [[Hz,.bw bp 0 (k+1) gr,vf]]:=(uX (by omega)).trans hm;have asm:((h.push [r]).push [r]).cell bF=o [[Hz,.bw bp 0 (k+1) gr,vf]]:=(uX (by rw[eC];omega)).trans aeZ;have vg:(h.push [r]).cell bp=o rows:=(uX (by omega)).trans bo;have Cy:((h.push [r]).push [r]).cell bp=o rows:=(uX (by rw[eC];omega)).trans vg;have t1:=L3 aeZ ab;have t2:=L3 asm ab;have aDJ:cd 6 (.ptr bp k 0)=o (.ptr bp k 6):=rfl;have EM:∀{x:ai} {n:Nat},x.cell bp=o rows->cR U n x (.ptr bp k 6)=o s:=λ{x n} aF=>by rw[gb,aF,du,me,du,pI];exact aC
  have st:e0 1 aj (.ptr bp k 6) ek=o (aj.set bp (o (rows.set k (row.set 6 ek)))):=by rw[lu (es:=rows) (e:=row) asl me (by rw[nR];simpa using I) (by rw[nR];rfl) (by omega),nR,bW]
  have run:∀bT,bT=LV\/bT=LW\/bT=LX->bB (aU aq aa) 3 [.ops bT,.halt []] [.ptr bF 0 0,.agg r,.ptr h.n 0 0] [] (h.push [r])=o (.halt [],[.ptr bF 0 0,.agg r,.ptr h.n 0 0],aj.set bp (o (rows.set k (row.set 6 ek)))):=by
   have lV:(h.push [r]).cell h.n=o [r]:=hb;have bR:((h.push [r]).push [r]).cell h.n=o [r]:=(uX (by rw[eC];omega)).trans hb;intro bT ow;rcases ow with rfl|rfl|rfl
   ·unfold LV;simp only[ao,ap,bN,t2,au.1,au.2,aV,lV,bR,EM Cy,st]
   ·unfold LW;simp only[ao,ap,bN,t1,t2,au.1,au.2,aV,lV,bR,EM Cy,st]
   ·unfold LX;simp only[ao,ap,bN,t1,au.1,au.2,aV,lV,EM vg,EM Cy,st]
  refine(oJ.draw (aZ:=3) (gI:=[.ptr bF 0 0,.agg r,.ptr h.n 0 0]) dx ar5 dB ar6 (ma aeX) ar7 λL c1=>?_).ret aeW ar2 rfl;have asn:∃e∈(fI lf 3).after,lF .any e=J/\e.on=1:=by have:=asg;rw[List.any_eq_true]at this;obtain⟨e,aw,ay⟩:=this;simp only[gv,beq_iff_eq]at ay;exact⟨e,by simpa using aw,ay.1,ay.2⟩
  have fa:(m6 lf).size=lf.size:=by simp
  rcases Gc (x:=8) (y:=1) (by decide) (by rw[L2];decide) c1 fa (q1 _) (q1 _)with bz|bz
  ·rcases Gc (x:=8) (y:=3) (by decide) (by rw[L2];decide) bz fa (q1 _) (q1 _)with bG|bG
   ·exact⟨_,Sz,LV,(aeY (.inr ⟨rfl,rfl⟩) bG).mono (λi D ae=>by simp only[mJ,kW,List.not_mem_nil,or_false]at ae;rcases ae with ae|ae|ae|ae|ae;exact .inl (.inl (.inl (.inl (.inr ae))));exact .inl (.inl (.inl (.inr ae)));exact .inl (.inl (.inr ae));exact .inl (.inr ae);exact .inr ae),BM ar8,asa,run _ (.inl rfl)⟩
   ·exact(arY (x:=8) (y:=1) (z:=3) (.inl (.inr ⟨rfl,rfl⟩)) (.inr ⟨rfl,rfl⟩) asn (by rw[L2];decide) bG fa (q1 _) (q1 _) (q1 _)).elim
  ·rcases Gc (x:=8) (y:=3) (by decide) (by rw[L2];decide) bz fa (q1 _) (q1 _)with bG|bG
   ·exact⟨_,SA,LW,(aeY (.inr ⟨rfl,rfl⟩) bG).mono (λi D ae=>by simp only[mJ,kW,List.not_mem_nil,or_false]at ae;rcases ae with ae|ae|ae|ae|ae;exact .inl (.inl (.inl (.inl (.inr ae))));exact .inl (.inl (.inl (.inr ae)));exact .inl (.inl (.inr ae));exact .inl (.inr ae);exact .inr ae),BM ar9,asb,run _ (.inr (.inl rfl))⟩
   ·exact⟨_,SB,LX,bG.mono (λi D ae=>by simp only[mJ,kW,List.not_mem_nil,or_false]at ae;rcases ae with ae|ae;exact .inl (.inr ae);exact .inr ae),BM ar',asc,run _ (.inr (.inr rfl))⟩
 have aF:aa.ext pQ=o KS:=by show sK pQ=_;unfold sK;rw[if_neg (by decide),if_pos rfl]
 unfold aU;rw[aF];simp only[KS,Z];rw[if_pos iT]
def ae0(P:c')(aa:iQ)(g:di)(a aZ:Nat)(bk:List Nat)(bP:List bb)(rs:List o8):Prop:=∃fn c,P.funcs[g]? =o fn/\fn.body=o c/\aa.use g=J/\hF P (aa.bh g) (aa.cM g) fn.ntmps bk c []=o bP/\uW a fn.ntmps (aa.aZ g) aZ bk=J/\q3 P bk fn.results.toList=o rs
section
variable{P:c'}{aa:iQ}{aZ:Nat}{bk:List Nat}{h:ai}
theorem aso(dx:m0 P aa){g:di}{a:Nat}{bP:List bb}{rs:List o8}{args:List F}{q:(F⊕F)×ai}(bo:ae0 P aa g a aZ bk bP rs)(aV:args.length=a)(au:m7 U rs h (bB (aU P aa) aZ [.bP bP] (args++ap (bk.length - args.length) .aD) [] h)=o q):AC P g args h q:=by
 obtain⟨fn,c,I,R,bq,cq,de,hu⟩:=bo;unfold uW at de;simp only[gv,decide_eq_true_eq,jW,kD,beq_iff_eq,bne_iff_ne,ne_eq]at de;obtain⟨⟨aP,a2⟩,bl⟩:=de;have get:∀D s,bk[D]? =o s->D<bk.length/\bk.getD D 0=s:=λD s ae=>⟨(fO.1 ae).1,by simp[cZ,ae]⟩;have rL:bk.Nodup:=by rw[List.nodup_iff_pairwise_ne,List.pairwise_iff_getElem];intro i D af ae hY e;have:=(bl D ae).2 i hY;apply this;simp[cZ,af,ae,e]
 have lI:∀D s,bk[D]? =o s->(D<aZ↔s<aa.aZ g):=by intro D s ae;obtain⟨cS,cf⟩:=get D s ae;have:=(bl D cS).1.1.2;rw[cf]at this;exact decide_eq_decide.1 this
 have cL:hG fn.ntmps bk [] (args++ap (fn.ntmps - args.length) .aD) (args++ap (bk.length - args.length) .aD) []:=by
  refine⟨by simp;omega,by simp;omega,rfl,λD s ae=>?_,λD s ae=>by simp at ae⟩;obtain⟨cS,cf⟩:=get D s ae;obtain⟨⟨⟨cg,_⟩,c0⟩,_⟩:=bl D cS;rw[cf]at cg c0;refine⟨cg,?_⟩;by_cases an:D<a\/s<a
  ·rw[if_pos an]at c0;have:s=D:=by simpa using c0
   subst this;have ba:s<args.length:=by omega
   simp[cZ,l0 ba]
  ·have aW:¬D<args.length:=by omega
   have bD:¬s<args.length:=by omega
   simp only[cZ,l1 (Nat.not_lt.1 aW),l1 (Nat.not_lt.1 bD),List.getElem?_replicate];split<;>split<;>rfl
 generalize mC:bB (aU P aa) aZ [.bP bP] (args++ap (bk.length - args.length) .aD) [] h=x at au;cases x with
 |none=>cases au
 |some r=>
   have hm:=(KB (n:=fn.ntmps) (f:=g) rL lI _ _ _ _ _ mC).1 [.code c] _ (.bP [c] bP [] [] (by simp[ny,cq]) .nil) cL;obtain⟨dQ,aw,ay⟩:=hm;have a5:=PV dx I R bq (Ko dx _ _ _ _ _ aw).cY;obtain⟨x,gI,E⟩:=r;cases x with
   |panic v=>have au:oh U h (.inr v,E)=o q:=au;rw[yB]at au;injection au with au;subst au;exact a5 _ rfl
   |halt K=>cases au
   |ret=>
     rw[At]at au;cases Z:(jc gI E rs).map ju with
     |none=>rw[Z]at au;cases au
     |some v=>rw[Z,z6,yB]at au;injection au with au;subst au;refine a5 _ ?_;have:=D6 (h:=E) ay hu;simp only[DB,ry,this,Z,i3]
end
mutual
def xT:Nat->ai->F->Option (F×ai)
 |0,_,_=>ag
 |N+1,h,.bw b O n e=>if O=0 then(h.cell b).bind λrows=>if n<=rows.length/\n≠0 then(wJ N (h.set b ag) (rows.take n)).map λq=>(.b5 ag e q.1,q.2)else ag else ag
 |N+1,h,.agg cs=>(wK N h cs).map λq=>(.agg q.1,q.2)
 |N+1,h,.bS cs=>(wK N h cs).map λq=>(.bS q.1,q.2)
 |_+1,h,v=>o (v,h)
def wK:Nat->ai->List F->Option (List F×ai)
 |0,_,_=>ag
 |_+1,h,[]=>o ([],h)
 |N+1,h,v::l=>(xT N h v).bind λq=>(wK N q.2 l).map λr=>(q.1::r.1,r.2)
def wJ:Nat->ai->List (List F)->Option (List (List F)×ai)
 |0,_,_=>ag
 |_+1,h,[]=>o ([],h)
 |N+1,h,v::l=>(wK N h v).bind λq=>(wJ N q.2 l).map λr=>(q.1::r.1,r.2)
end
section
variable{P:c'}{m:ey}{h:ai}{w:dO}
theorem cp.still(hw:cp P m h w){b:Nat}{cs:Array b'}(ad:h.cell b=o es)(an:lG w (m.cu b) (m.hQ b) cs):∃bf,Ext m h bf (h.set b ag)/\cp P bf (h.set b ag) w/\(∀O v,cs[O]? =o v->bf.eP (m.cu b) O=o v)/\bf.cu=m.cu/\bf.hQ=m.hQ:=by
 have aF:Ext m h {m with eP:=λg O=>if g=m.cu b then cs[O]? else m.eP g O} (h.set b ag):=by
  refine⟨rfl,b9 _,b9 _,λ_ _=>⟨rfl,rfl,rfl⟩,λg O v af=>?_,λ_ _=>⟨rfl,b9 _,λ_=>⟨rfl,rfl⟩⟩,λ_ _ h=>h⟩;show(if g=m.cu b then cs[O]? else m.eP g O)=o v;by_cases e:g=m.cu b
  ·rw[e,hw.sep b es ad O]at af;cases af
  ·rw[if_neg e];exact af
 refine⟨_,aF,?_,λO v Z=>by simp[Z],rfl,rfl⟩;have up:∀q x,(h.set b ag).cell q=o x->q≠b/\h.cell q=o x:=by
  intro q x aX;by_cases e:q=b
  ·subst e;simp[ai.set]at aX
  ·exact⟨e,by simpa[ai.set,e]using aX⟩
 refine⟨hw.size,λq x aX=>hw.lt q x (up q x aX).2,λq x aX=>?_,λq fk x kP aX pA=>hw.inj q fk x kP (up q x aX).2 (up fk kP pA).2,λg O v af=>?_,λq x aX O=>?_,hw.rB,λk ab O aK=>?_,λk ab q x aX=>hw.oZ k ab q x (up q x aX).2,hw.qP,hw.cY,λg x ae=>?_⟩
 ·obtain⟨jm,aW,bD,cl,eg,fV⟩:=hw.live q x (up q x aX).2;refine⟨jm,aW,bD,cl,eg,λi af D ae=>?_⟩;obtain⟨v,cI,b6⟩:=fV i af D ae;exact⟨v,cI,b6.ext aF⟩
 ·have af:(if g=m.cu b then cs[O]? else m.eP g O)=o v:=af;by_cases e:g=m.cu b
  ·rw[if_pos e]at af;rw[e,an.cell];exact af
  ·rw[if_neg e]at af;exact hw.eP g O v af
 ·obtain⟨dw,aX⟩:=up q x aX;show(if m.cu q=m.cu b then cs[O]? else m.eP (m.cu q) O)=ag;rw[if_neg λe=>dw (hw.inj q b x es aX ad e)];exact hw.sep q x aX O
 ·show(if m.jU k=m.cu b then cs[O]? else m.eP (m.jU k) O)=ag;rw[if_neg λe=>hw.oZ k ab b es ad e.symm];exact hw.p8 k ab O aK
 ·obtain⟨aP,a2,bl,cr,ej⟩:=hw.gN g x ae;refine⟨aP,a2,λq y aX=>bl q y (up q y aX).2,cr,λO=>?_⟩;show(if g=m.cu b then cs[O]? else m.eP g O)=ag;rw[if_neg λe=>bl b es ad e.symm];exact ej O
theorem ae1:∀N:Nat,(∀(m:ey) (h:ai) (w:dO) (v:F) (u:b') (a':F) (R:ai),cp P m h w->b8 P m h v u->xT N h v=o (a',R)->∃c8,Ext m h c8 R/\cp P c8 R w/\b8 P c8 R a' u)/\(∀(m:ey) (h:ai) (w:dO) (l:List F) (ah:Nat->b') (q:List F) (R:ai),cp P m h w->(∀D (ae:D<l.length),b8 P m h l[D] (ah D))->wK N h l=o (q,R)->∃c8,Ext m h c8 R/\cp P c8 R w/\q.length=l.length/\∀D (ae:D<q.length),b8 P c8 R q[D] (ah D))/\(∀(m:ey) (h:ai) (w:dO) (l:List (List F)) (ah:Nat->Nat->b') (q:List (List F)) (R:ai),cp P m h w->(∀i (af:i<l.length) D (ae:D<l[i].length),b8 P m h l[i][D] (ah i D))->wJ N h l=o (q,R)->∃c8,Ext m h c8 R/\cp P c8 R w/\q.length=l.length/\(∀i (af:i<q.length) (fb:i<l.length),q[i].length=l[i].length)/\∀i (af:i<q.length) D (ae:D<q[i].length),b8 P c8 R q[i][D] (ah i D)):=by
 intro N;induction N with
 |zero=>exact⟨λ_ _ _ _ _ _ _ _ _ e=>by simp[xT]at e,λ_ _ _ _ _ _ _ _ _ e=>by simp[wK]at e,λ_ _ _ _ _ _ _ _ _ e=>by simp[wJ]at e⟩
 |succ N aR=>
   obtain⟨asp,L4,ae2⟩:=aR;refine⟨?_,?_,?_⟩
   ·intro m h w v u a' R hw Z e;have same:xT (N+1) h v=o (v,h)->∃c8,Ext m h c8 R/\cp P c8 R w/\b8 P c8 R a' u:=by intro ay;rw[ay]at e;simp only[iF,kW]at e;obtain⟨rfl,rfl⟩:=e;exact⟨m,Ext.refl _ _,hw,Z⟩
    cases Z with
    |bw b O n t cap ad he kQ aA kR=>
      simp only[xT]at e;split at e
      ·rename_i aK;subst aK;obtain⟨rows,D7,e⟩:=dX.1 e;split at e
       ·rename_i BD;obtain⟨⟨q,aj⟩,aX,e⟩:=ed.1 e;simp only[kW]at e;obtain⟨rfl,rfl⟩:=e;obtain⟨cs,aW,bD,cl,eg,fV⟩:=hw.live b rows D7;obtain⟨cO,cb,cx,i1,cg,t1⟩:=hw.still D7 aW;have am:(rows.take n).length=n:=by rw[pv];omega
        obtain⟨c8,dF,gn,c9,bL,b6⟩:=ae2 cO (h.set b ag) w (rows.take n) (λi D=>cs.getD (i*P.cellsOf (m.hQ b)+D) g0) q aj cx (λi af D ae=>by
         rw[am]at af;have fb:i<rows.length:=by omega
         simp only[List.getElem_take]at ae ⊢;obtain⟨v,cF,cA⟩:=fV i fb D ae;have:cs.getD (i*P.cellsOf (m.hQ b)+D) g0=v:=by simp[jo,cF]
         rw[this];exact cA.ext cb) aX
        refine⟨c8,cb.trans dF,gn,?_⟩;have BJ:q.length=n:=by rw[c9,am]
        have me:∀i (af:i<q.length),q[i].length=P.cellsOf t:=by intro i af;rw[bL i af (by omega),List.getElem_take,<-he];exact cl _ (jl _)
        have key:=b8.b5 (P:=P) (m:=c8) (h:=aj) ag t q (m.cu b) 0 cap (λi D=>cs.getD (i*P.cellsOf (m.hQ b)+D) g0) (λr au=>by
         obtain⟨i,af,rfl⟩:=List.getElem_of_mem au;exact me i af) (λi af D ae=>by
         have fb:i<rows.length:=by omega
         have dM:D<rows[i].length:=by rw[cl _ (jl _),he];exact ae
         obtain⟨v,cF,cA⟩:=fV i fb D dM;have aw:cs.getD (i*P.cellsOf (m.hQ b)+D) g0=v:=by simp[jo,cF]
         show c8.eP (m.cu b) (0+(i*P.cellsOf t+D))=o (cs.getD (i*P.cellsOf (m.hQ b)+D) g0);rw[aw,ir,<-he];exact dF.eP _ _ _ (i1 _ _ cF)) b6 (by omega) (λk ab=>by cases ab)
        rw[BJ]at key;simpa using key
       ·cases e
      ·cases e
    |agg l ch I aj=>
      simp only[xT]at e;obtain⟨⟨q,aH⟩,aX,e⟩:=ed.1 e;simp only[kW]at e;obtain⟨rfl,rfl⟩:=e;obtain⟨c8,dF,gn,c9,b6⟩:=L4 m h w l (λD=>ch.getD D g0) q aH hw (λD ae=>by
       have dM:D<ch.length:=by omega
       have:=aj D ae dM;simpa[cZ,dM]using this) aX
      exact⟨c8,dF,gn,.agg q ch (by omega) λD ae dM=>by have:=b6 D ae;simpa[cZ,dM]using this⟩
    |bS l ch I aj=>
      simp only[xT]at e;obtain⟨⟨q,aH⟩,aX,e⟩:=ed.1 e;simp only[kW]at e;obtain⟨rfl,rfl⟩:=e;obtain⟨c8,dF,gn,c9,b6⟩:=L4 m h w l (λD=>ch.getD D g0) q aH hw (λD ae=>by
       have dM:D<ch.length:=by omega
       have:=aj D ae dM;simpa[cZ,dM]using this) aX
      exact⟨c8,dF,gn,.bS q ch (by omega) λD ae dM=>by have:=b6 D ae;simpa[cZ,dM]using this⟩
    |_=>exact same rfl
   ·intro m h w l ah q R hw Z e;cases l with
    |nil=>simp only[wK,iF,kW]at e;obtain⟨rfl,rfl⟩:=e;exact⟨m,Ext.refl _ _,hw,rfl,λD ae=>by simp at ae⟩
    |cons v l=>
      simp only[wK]at e;obtain⟨⟨cI,aj⟩,aw,e⟩:=dX.1 e;obtain⟨⟨bQ,aH⟩,ay,e⟩:=ed.1 e;simp only[kW]at e;obtain⟨rfl,rfl⟩:=e;obtain⟨cO,cb,cx,bx⟩:=asp m h w v (ah 0) cI aj hw (Z 0 (by simp)) aw;obtain⟨c8,dF,gn,c9,bL⟩:=L4 cO aj w l (λD=>ah (D+1)) bQ aH cx (λD ae=>(Z (D+1) (by simpa using ae)).ext cb) ay;refine⟨c8,cb.trans dF,gn,by simp[c9],λD ae=>?_⟩;cases D with
      |zero=>exact bx.ext dF
      |succ D=>exact bL D (by simpa using ae)
   ·intro m h w l ah q R hw Z e;cases l with
    |nil=>simp only[wJ,iF,kW]at e;obtain⟨rfl,rfl⟩:=e;exact⟨m,Ext.refl _ _,hw,rfl,λi af=>by simp at af,λi af=>by simp at af⟩
    |cons v l=>
      simp only[wJ]at e;obtain⟨⟨cI,aj⟩,aw,e⟩:=dX.1 e;obtain⟨⟨bQ,aH⟩,ay,e⟩:=ed.1 e;simp only[kW]at e;obtain⟨rfl,rfl⟩:=e;obtain⟨cO,cb,cx,cF,bx⟩:=L4 m h w v (ah 0) cI aj hw (Z 0 (by simp)) aw;obtain⟨c8,dF,gn,c9,cA,bL⟩:=ae2 cO aj w l (λi=>ah (i+1)) bQ aH cx (λi af D ae=>(Z (i+1) (by simpa using af) D ae).ext cb) ay;refine⟨c8,cb.trans dF,gn,by simp[c9],λi af fb=>?_,λi af D ae=>?_⟩
      ·cases i with
       |zero=>exact cF
       |succ i=>exact cA i (by simpa using af) (by simpa using fb)
      ·cases i with
       |zero=>exact(bx D ae).ext dF
       |succ i=>exact bL i (by simpa using af) D ae
end
def L5:List bb:=[.ops [.i (.v 5) L6,.i (.v 6) (.box 1 (.v 4)),Hm,.i (.v 8) SC,.i (.v 9) SC]]
def AQ:List bb:=[.block 0 [.ops [SD,qp,cn,.g (.l 0) U .l (.load U 1 (.v 6)),ae3,zr,cn,zg,HA,zr,cn,zg,LR,zr,Hl],.cond (.v 14) [.ops [lU,wH,SE,.i .n (.store 1 (.v 9) (.c (.int j 1)))],.ret] [.ops [bc,dc,xQ,kI,Hi,dC,aT,wq,cn,EN,HA,zr,cn,EN,La,ae4,ae5,.g (.l 4) U .l (.db 2 (.l 0)),.g (.l 5) U .l (.fe ag (o (4,5)) (.l 0) (.l 2)),ae6,ae7,.g (.l 8) U .l (.len U (o 174) (.l 0)),.g (.l 9) U .l (.bin (.int j) .geq (.l 8) (.l 0)),.i .l (.pick (.l 10) (.c (.bool J)) (.l 0)),EG],.cond (.v 15) [.ops [lU,wH,SE,.i .n (.store 1 (.v 9) (.c (.int j 8)))],.ret] []]]]
def L7:List bb:=[.ops [tR,R9,va],.ops [tS,SF],.cond (.v 16) [.ops [lU,tS,zs,SE,.i .n (.store 1 (.v 9) (.l 0))],.ret] []]
def L8:List bb:=[.ops [bc,SD,.i .l (.build [.e',.aJ,.int j 0] [(0,1),(1,1),(2,1)] [(0,(.l 1)),(2,(.l 0))]),.i .l (.box 3 (.l 0)),.i (.v 11) (.alloc [.e']),.i .n (.store 1 (.v 11) (.l 0))]]
def L9:List bb:=[.ops [NE,dc,hd,tR,ae8,.ca [⟨ag,U,1,.v 11,(.l 4)⟩],.i .l (.build [.int j 0,.int j 0,.int j 0,.int j 0,.int j 0,.aJ,.aJ,.aJ,.bool U,.aJ] [(0,1),(1,1),(2,1),(3,3),(6,1),(7,1),(8,1),(9,1)] [(0,(.l 3)),(1,(.l 2)),(3,(.l 0))]),aeb,.ca [⟨ag,U,1,.v 11,(.l 6)⟩],Ek,g4,lT]]
def EO:List bb:=[.block 2 [.ops [NE,.i .l (.call (.c (.fn 50 [] [])) [.l 0]),cn,fs,ft,SG,SH,Cq],.ops [.i (.v 17) (.a8 (.v 13))],.cond (.v 17) [.ops [.i .l (.load J 3 (.v 12)),SD,NE,ct,kI,aT,L',.i .l (.call (.c (.fn 48 [] [])) [.l 6]),.ca [⟨ag,U,1,.v 6,(.l 6)⟩,⟨ag,U,1,.v 11,(.l 5)⟩,⟨ag,U,1,.l 3,(.l 2)⟩],wH,.ca [⟨ag,U,1,.v 6,(.l 6)⟩,⟨ag,U,1,.v 11,(.l 5)⟩,⟨ag,U,1,.l 3,(.l 2)⟩],.i .n (.store 1 (.v 8) (.l 1)),.i .n (.store 1 (.v 9) (.c (.int j 0)))],.ret] []]]
def HB:List bb:=[.block 1 [.loop EO]]
def SI:List bb:=[.ops [hV,.i (.v 8) (.BN .iface ag J .neq (.l 0) (.c .iZ))],.cond (.v 8) [.ops [hV,.i .l (.Gm 127 J (.l 0)),cn,fs,ft,LD,nG],.ops [kH,.i (.v 9) vh],.cond (.v 9) [.ops [hV,Ls]] [],.ops [lU,.i .l (.load U 1 (.v 0)),SJ,ct,kI,aT,L',ky,.i .n (.store 3 (.v 2) (.l 7)),.i .n (.store 1 (.v 3) (.l 1)),.i .n (.store 1 (.v 4) (.l 0))]] []]
def Ma:List bb:=[.ops [fu,tK,aT,sS,HC,cn,xE,ae9,ae'],.cond (.v 5) [] [.exit 0],.block 1 [.ops [tK,aT,fu,wE,jP,dc,.i .l (.call (.c (.fn 86 [] [])) [.l 1,.l 0]),pK]],Cz]
def afa:List bb:=[.ops [Lu,rV],.ops [dc,nb,pK],u2,.block 0 [.loop Ma],.ops [dc,jA],.ret]
theorem asq:cv aq aa 86 2 6 [0,1,2,4,5,16] afa [(.v 3)] J:=by refine⟨_,_,Tryz.func86,rfl,rfl,?_,?_,?_,?_,?_⟩<;>kernel_rfl
def SK:List bb:=[Mb,.ops [ED,.i .l (.call (.c (.fn 86 [] [])) [.l 0,.c (.int j 40)]),.i (.v 3) Mc],.cond (.v 3) [.ops [afb],.ret] [],.ops [ED,afc,jz],.ret]
theorem afd:cv aq aa 47 1 4 [0,1,2,5] SK [(.v 2)] J:=by refine⟨_,_,Tryz.func47,rfl,rfl,?_,?_,?_,?_,?_⟩<;>kernel_rfl
def HD:List bb:=[Md,.cond (.v 12) [] [.exit 1],.block 2 [.ops [.i .l (.fe (o 35) ag (.v 9) (.v 11)),jP,xO,wF],.ops [sT,afc,d8],.ops [hV,afe],.cond (.v 13) [.ops [hV,jz],.ret] []],Me]
def aff:List bb:=[Mb,.ops [ii,aT,qp,cn,CA,ld,Mf,.i (.v 6) acV],.cond (.v 6) [.ops [afg],.ret] [],.ops [.i .l (.lx U 3 [.int j 0] 1 6 [(0,(.c (.int j 0))),(1,(.c (.int j 0))),(2,(.c (.int j 2))),(3,(.c (.int j 1))),(4,(.c (.int j 0))),(5,(.c (.int j 0)))]),ii,aT,.i .l (.fe (o 3) ag (.l 2) (.l 0)),aT,jA],.block 0 [.ops [wL,aT,sS,c6,Ha,cn,SL,.g (.l 1) U .l Mg,.g (.l 2) U .l oF,HE,nH,SM,.g (.l 6) U .l Ca,.i .l Lc,cn,CA,ld,.g (.l 2) U .l SN,SO,HE,nH,SM,SP,.i .l SQ,nG],.cond (.v 7) [.ops [SR],.ret] [.ops [ii,aT,.i .l (.bin (.int j) .geq (.l 0) (.c (.int j 3))),cn,HE,nH,Le,zt,kZ],.cond (.v 8) [.ops [afh],.ret] []]],.ops [wL,afi,.i (.v 10) (.len U (o 35) (.v 9)),HF],.block 1 [.loop HD],rT,.ret]
theorem asr:cv aq aa 87 1 14 [0,1,2,3,5,6,14,20,45,55,56,57,58,64] aff [(.v 2)] J:=by refine⟨_,_,Tryz.func87,rfl,rfl,?_,?_,?_,?_,?_⟩<;>kernel_rfl
def Mh:List bb:=[.ops [acF],.cond (.v 8) [] [.exit 0],.block 1 [.ops [.i .l (.fe (o 35) ag (.v 5) (.v 7)),jP,xO,wF],.ops [EP,aT,sT,ae8,.ca [⟨ag,U,1,.l 3,(.l 2)⟩],LK,.ca [⟨ag,U,1,.l 4,(.l 3)⟩],.i .l (.app U 35 (.l 3) (.l 0)),EP,ze]],.ops [acH,nG]]
def afj:List bb:=[.ops [Co,Lw],.ops [ii,aT,Mi,aT,SS,Fr,EC],.ops [wL,.i (.v 5) oD,.i (.v 6) (.len U (o 35) (.v 5)),wv],.block 0 [.loop Mh],.ops [tQ,Hb],.ret]
theorem ass:cv aq aa 48 1 9 [0,1,2,3,5,12,13,14,15] afj [(.cell J 3 2)] J:=by refine⟨_,_,Tryz.func48,rfl,rfl,?_,?_,?_,?_,?_⟩<;>kernel_rfl
def Mj:List bb:=[.ops [Ra],.cond (.v 9) [] [.exit 0],.block 1 [.ops [.i .l (.fe (o 35) ag (.v 6) (.v 8)),jP,xO,wF],.ops [c6,sT,.i .l afk,afl,jA]],Re]
def afm:List bb:=[.ops [Co,HG],GP,.ops [ii,aT,afn],.cond (.v 5) [.ops [c6,Mi,aT,B7,acG,jA]] [],.ops [wL,Hr,.i (.v 7) (.len U (o 35) (.v 6)),rX],.block 0 [.loop Mj],wu,.ret]
theorem ast:cv aq aa 143 1 10 [0,1,2,3,5,8,15,16,17,18] afm [(.v 2)] J:=by refine⟨_,_,Tryz.func143,rfl,rfl,?_,?_,?_,?_,?_⟩<;>kernel_rfl
def afo:List bb:=[.ops [Co,zo],.ops [ii,aT,CB,cn,.g (.l 0) U .l (.db 2 (.v 1)),ld,.g (.l 2) U .l (.call (.c (.fn 157 [] [])) [.l 0,.c (.fn 142 [] [])]),CC,jz],.ret]
theorem asu:cv aq aa 142 1 3 [0,1,2] afo [(.v 2)] J:=by refine⟨_,_,Tryz.func142,rfl,rfl,?_,?_,?_,?_,?_⟩<;>kernel_rfl
def afp:List bb:=[pd,.ops [bc,dc,.i .l (.call (.c (.fn 166 [] [])) [.l 1,.l 0]),rU,jz],.ret]
theorem asv:cv aq aa 157 2 3 [0,1,4] afp [(.v 2)] J:=by refine⟨_,_,Tryz.func157,rfl,rfl,?_,?_,?_,?_,?_⟩<;>kernel_rfl
def Mk:List bb:=[Ml,.cond (.v 6) [] [.exit 0],.block 1 [Mm,.ops [dc,bc,c6,wE,jP,SU],.cond (.v 7) [wu,.ret] []],Mn]
def afq:List bb:=[rT,.ops [bc,.i (.v 4) QT,pJ],.block 0 [.loop Mk],Mo,.ret]
theorem asw:cv aq aa 166 2 8 [0,1,4,5,7,8,9,16] afq [(.v 2)] J:=by refine⟨_,_,Tryz.func166,rfl,rfl,?_,?_,?_,?_,?_⟩<;>kernel_rfl
def afr:List bb:=[.ops [Lu,Cp,Mp],.ops [r3,aT,r5,aT,afs,cn,SV,nH,aft,zf,afu,Em,cn,WF,nH,afv,zf,.g (.l 4) J .l (.call (.c (.fn 30 [] [])) [.l 2,.l 0]),Em,je],.ret]
theorem asx:cv aq aa 19 2 5 [0,1,2,3,4] afr [(.v 4)] J:=by refine⟨_,_,Tryz.func19,rfl,rfl,?_,?_,?_,?_,?_⟩<;>kernel_rfl
def Mq:List bb:=[.ops [c6,bc,sS,afw],.cond (.v 5) [] [.exit 0],.block 1 [.ops [bc,c6,wE,jP,dc,c6,wE,jP,.i .l (.call (.c (.fn 19 [] [])) [.l 4,.l 0]),B5],.cond (.v 6) [pd,.ret] []],wr]
def SW:List bb:=[pd,.ops [bc,sS,dc,sS,afx],.cond (.v 4) [pd,.ret] [],sL,.block 0 [.loop Mq],ER,.ret]
theorem afy:cv aq aa 30 2 7 [0,1,4,5,10,14,26] SW [(.v 2)] J:=by refine⟨_,_,Tryz.func30,rfl,rfl,?_,?_,?_,?_,?_⟩<;>kernel_rfl
def Mr:List bb:=[.ops [hV,tK,aT,sS,HC,cn,SX,ES,SY,afz],.cond (.v 6) [] [.exit 0],.block 1 [.ops [fu,tK,aT,hV,wE,jP,dc,fu,SZ,.i .l (.call (.c (.fn 46 [] [])) [.l 3,.l 0]),afA,je]],Cb]
def afB:List bb:=[.ops [Lu,rV],LS,xF,.block 0 [.loop Mr],HH,.ret]
theorem asy:cv aq aa 46 2 7 [0,1,2,4,5,6,16] afB [(.v 3)] J:=by refine⟨_,_,Tryz.func46,rfl,rfl,?_,?_,?_,?_,?_⟩<;>kernel_rfl
def HI:List bb:=[.ops [fu,c6,.i (.v 13) LQ],.cond (.v 13) [] [.exit 1],.block 2 [.ops [wL,aT,fu,wE,jP,afC,d8],.ops [hV,.i (.v 14) n5],.cond (.v 14) [.ops [hV,jz],.ret] []],Cz]
def afD:List bb:=[Mb,sL,.ops [ii,Hr],.block 0 [.ops [.i .l (.bin (.int j) .eql (.v 6) (.c (.int j 2))),nG],.cond (.v 7) [.ops [.i (.v 3) HJ]] [.ops [.i .l (.bin (.int j) .eql (.v 6) (.c (.int j 3))),kZ],.cond (.v 8) [Ly] [.ops [.i .l (.bin (.int j) .eql (.v 6) (.c (.int j 0))),u'],.cond (.v 9) [] [.ops [.i .l (.bin (.int j) .eql (.v 6) (.c (.int j 1))),u'],.cond (.v 9) [] [.ops [.i .l (.bin (.int j) .eql (.v 6) (.c (.int j 4))),u'],.cond (.v 9) [] [.ops [afE,u']]]],.cond (.v 9) [] [.ops [afg],.ret]]]],.ops [wL,aT,sS,c6,.i (.v 10) afF],.cond (.v 10) [.ops [SR],.ret] [],.ops [ii,aT,EI,cn,CA,ld,.g (.l 2) U .l Mg,CC,cn,HE,nH,SM,.i (.v 11) Ca],.cond (.v 11) [.ops [SR],.ret] [],.ops [ii,aT,afG,cn,CA,ld,.g (.l 2) U .l S0,CC,cn,CA,ld,.g (.l 2) U .l (.bin (.int j) .eql (.l 0) (.c (.int j 5))),CC,cn,HE,nH,Le,.i (.v 12) Ca],.cond (.v 12) [.ops [afh],.ret] [],u2,.block 1 [.loop HI],rT,.ret]
theorem asz:cv aq aa 94 1 15 [0,1,2,3,4,5,7,8,10,12,21,34,52,55,65] afD [(.v 2)] J:=by refine⟨_,_,Tryz.func94,rfl,rfl,?_,?_,?_,?_,?_⟩<;>kernel_rfl
def S1:List bb:=[Mb,.ops [ED,.i .l (.call (.c (.fn 46 [] [])) [.l 0,.c (.int j 40)]),.i (.v 3) (.bin (.int j) .gtr (.l 0) (.c (.int j 40)))],.cond (.v 3) [.ops [afb],.ret] [],.ops [ED,afC,jz],.ret]
theorem afH:cv aq aa 53 1 4 [0,1,2,5] S1 [(.v 2)] J:=by refine⟨_,_,Tryz.func53,rfl,rfl,?_,?_,?_,?_,?_⟩<;>kernel_rfl
def Ms:List bb:=[.ops [fu,wL,aT,sS,.i (.v 6) HK],.cond (.v 6) [] [.exit 0],.block 1 [.ops [c6,wL,aT,fu,wE,jP,afI,.i .l (.app U 3 (.l 6) (.l 0)),jA]],Cz]
def afJ:List bb:=[.ops [Co,HG],GP,.ops [ii,aT,afn],.cond (.v 5) [.ops [Mi,aT,B7,jA]] [],u2,.block 0 [.loop Ms],wu,.ret]
theorem asA:cv aq aa 165 1 7 [0,1,2,3,4,7,15] afJ [(.v 2)] J:=by refine⟨_,_,Tryz.func165,rfl,rfl,?_,?_,?_,?_,?_⟩<;>kernel_rfl
def Mt:List bb:=[.ops [c6,wL,aT,sS,.i (.v 4) HK],.cond (.v 4) [] [.exit 0],.block 1 [.ops [wL,aT,c6,wE,jP,.i (.v 5) afK],.cond (.v 5) [ER,.ret] []],wr]
def afL:List bb:=[.ops [Co,zo],sL,.block 0 [.loop Mt],.ops [ii,aT,CB,jz],.ret]
theorem asB:cv aq aa 164 1 6 [0,1,2,3,8,16] afL [(.v 2)] J:=by refine⟨_,_,Tryz.func164,rfl,rfl,?_,?_,?_,?_,?_⟩<;>kernel_rfl
theorem afM{x y:ax}{i:Nat}(h:x.l[i]? =o y):j2 (x.l.take (i+1))=j2 (x.l.take i)+y.size/\j2 (x.l.take (i+1))<=j2 x.l:=by
 have e:=Ce h;constructor
 ·rw[e,KJ,apZ]
 ·have:=KJ (x.l.take (i+1)) (x.l.drop (i+1));rw[List.take_append_drop]at this;omega
theorem Mu(l:List ax)(i:Nat):j2 (l.take i)<=j2 l:=by have:=KJ (l.take i) (l.drop i);rw[List.take_append_drop]at this;omega
theorem afN(l:List ax){i:Nat}(af:i<l.length):i<=j2 (l.take i):=by have:=Qu (l.take i);rw[pv]at this;omega
theorem oK{l:List ax}{i:Nat}{y:ax}(h:l[i]? =o y):y∈l:=o6 h
theorem tV{l:List ax}{i:Nat}(h:i<l.length):∃y,l[i]? =o y:=⟨_,fT h⟩
section
variable{h:ai}
def tW(left:Int)(n:Nat):Int:=if(n:Int)<=left then left - n else -1
theorem asC:∀(N:Nat) (x:ax),lz x<=N->∀(r:List F) (h:ai) (left:Int),bZ x r->0<=left->left<=100000->aU aq aa 86 [.agg r,.int j left] h=o (.inl (.int j (tW left x.size)),h):=by
 intro N;induction N with
 |zero=>intro x aF;have:=x.m';omega
 |succ N aR=>
   intro x aF r h left he ak I;obtain⟨v,es,rfl,eL,Z,aA,fv⟩:=he.facts;have aC:=x.size_eq;have cx:=ew (n:=left - 1) (by omega) (by omega);refine nI asq rfl λQ cQ=>?_;unfold afa;simp only[ao,ar,av,ap,Z,cx];refine pN (λi V E=>∃b4 cur,V=[.agg [.int j x.kind,.int j x.n,v],.int j cur,.ptr h.n 0 0,.int j 0,.int j (i:Nat),b4]/\E=h.push [[.int j x.kind,.int j x.n,v]]/\cur=tW left (1+j2 (x.l.take i))) x.l.length ⟨_,_,rfl,rfl,?_⟩ ?_ ?_
   ·simp only[tW,List.take_zero,j2];split<;>omega
   ·rintro i V E af ⟨b4,cur,rfl,rfl,an⟩ next
    have ba:(i:Int)<(es.length:Int):=by rw[aA];omega
    by_cases az:0<=cur
    ·obtain⟨y,bH⟩:=tV af;obtain⟨q,i1,d1,cb⟩:=fv i y bH;obtain⟨ei,fd⟩:=afM bH;have it:=afN x.l af;have lI:cur<=100000/\(i:Int)<100000:=by
      rw[an,tW]at az ⊢;split at az
      ·rename_i bA;rw[if_pos bA];omega
      ·omega
     have hw:=ew (n:=(i:Int)+1) (by omega) (by omega);have aw:=aR y (by have:=ax.nB (oK bH);omega) q (h.push [[.int j x.kind,.int j x.n,v]]) cur cb az (by omega);rw[cy Ma.eq_1];simp only[ao,ar,av,ap,b2,eL.len,eL.fits,ba,az,i1,d1,aw,hw];refine next _ _ ⟨_,_,rfl,rfl,?_⟩
     rw[ei,an];rw[an]at az;simp only[tW]at az ⊢
     repeat' split<;>omega
    ·rw[cy Ma.eq_1];simp only[ao,ar,av,ap,b2,eL.len,eL.fits,ba,az];refine cQ _ _ _ rfl (by repeat (first|exact aG.refl _|refine aG.trans ?_ (aG.push _ _)|refine aG.trans ?_ (aG.fresh _ _))) ?_;have e:cur=tW left x.size:=by
      rw[an,tW]at az;rw[an,tW,tW,aC];have:=Mu x.l i;split at az
      ·omega
      ·rename_i bA;rw[if_neg bA,if_neg (by omega)]
     rw[<-e];rfl
   ·rintro V E ⟨b4,cur,rfl,rfl,an⟩;have ba:¬((x.l.length:Int)<(es.length:Int)):=by rw[aA];omega
    rw[List.take_length,<-aC]at an;rw[cy Ma.eq_1];simp only[ao,ar,av,ap,b2,eL.len,eL.fits,ba];exact cQ _ _ _ rfl (by repeat (first|exact aG.refl _|refine aG.trans ?_ (aG.push _ _)|refine aG.trans ?_ (aG.fresh _ _))) (by rw[<-an];rfl)
theorem asD:∀(N:Nat) (x:ax),lz x<=N->∀(r:List F) (h:ai) (df:Int),bZ x r->0<=df->df<=100000->aU aq aa 46 [.agg r,.int j df] h=o (.inl (.int j (min (x.size:Int) (df+1))),h):=by
 intro N;induction N with
 |zero=>intro x aF;have:=x.m';omega
 |succ N aR=>
   intro x aF r h df he ak I;obtain⟨v,es,rfl,eL,Z,aA,fv⟩:=he.facts;have aC:=x.size_eq;refine nI asy rfl λQ cQ=>?_;unfold afB;simp only[ao,ar,av,ap,Z];refine pN (λi V E=>∃cz cur,V=[.agg [.int j x.kind,.int j x.n,v],.int j df,.ptr h.n 0 0,.int j 0,.int j cur,.int j (i:Nat),cz]/\E=h.push [[.int j x.kind,.int j x.n,v]]/\cur=min ((1+j2 (x.l.take i):Nat):Int) (df+1)) x.l.length ⟨_,_,rfl,rfl,?_⟩ ?_ ?_
   ·simp only[List.take_zero,j2];omega
   ·rintro i V E af ⟨cz,cur,rfl,rfl,an⟩ next
    have ba:(i:Int)<(es.length:Int):=by rw[aA];omega
    by_cases az:cur<=df
    ·obtain⟨y,bH⟩:=tV af;obtain⟨q,i1,d1,cb⟩:=fv i y bH;obtain⟨ei,fd⟩:=afM bH;have it:=afN x.l af;have hw:=ew (n:=(i:Int)+1) (by omega) (by omega);have gT:=ew (n:=df - cur) (by omega) (by omega);have aw:=aR y (by have:=ax.nB (oK bH);omega) q (h.push [[.int j x.kind,.int j x.n,v]]) (df - cur) cb (by omega) (by omega);have pO:=ew (n:=cur+min (y.size:Int) (df - cur+1)) (by omega) (by omega);rw[cy Mr.eq_1];simp only[ao,ar,av,ap,b2,eL.len,eL.fits,ba,az,i1,d1,gT,aw,pO,hw];refine next _ _ ⟨_,_,rfl,rfl,?_⟩
     rw[ei];omega
    ·rw[cy Mr.eq_1];simp only[ao,ar,av,ap,b2,eL.len,eL.fits,ba,az];refine cQ _ _ _ rfl (by repeat (first|exact aG.refl _|refine aG.trans ?_ (aG.push _ _)|refine aG.trans ?_ (aG.fresh _ _))) ?_;have e:cur=min (x.size:Int) (df+1):=by have:=Mu x.l i;omega
     rw[<-e];rfl
   ·rintro V E ⟨cz,cur,rfl,rfl,an⟩;have ba:¬((x.l.length:Int)<(es.length:Int)):=by rw[aA];omega
    rw[List.take_length,<-aC]at an;rw[cy Mr.eq_1];simp only[ao,ar,av,ap,b2,eL.len,eL.fits,ba];exact cQ _ _ _ rfl (by repeat (first|exact aG.refl _|refine aG.trans ?_ (aG.push _ _)|refine aG.trans ?_ (aG.fresh _ _))) (by rw[<-an];rfl)
theorem afO{kind n:Int}{len:Nat}(h:jJ kind n len=0):len=l8 kind/\(kind=0\/kind=1\/kind=2\/kind=3\/kind=4\/kind=5):=by
 unfold jJ at h;split at h
 ·cases h
 ·split at h
  ·cases h
  ·exact⟨by omega,by omega⟩
theorem afP(kind:Int):l8 kind<=2:=by unfold l8;split;omega;split<;>omega
theorem afQ{l:List ax}{i:Nat}{y:ax}(h:l[i]? =o y):oz (l.drop i)=if y.fault≠0 then y.fault else oz (l.drop (i+1)):=by obtain⟨af,rfl⟩:=fO.1 h;rw[wM af,Gz]
theorem asE:∀(N:Nat) (x:ax),lz x<=N->∀(r:List F) (h:ai),bZ x r->aU aq aa 94 [.agg r] h=o (.inl (.int j x.fault),h):=by
 intro N;induction N with
 |zero=>intro x aF;have:=x.m';omega
 |succ N aR=>
   intro x aF r h he;obtain⟨v,es,rfl,eL,Z,aA,fv⟩:=he.facts;have S2:=x.Ee;rw[S2];have loop:jJ x.kind x.n x.l.length=0->∀(Q:mi->Prop) (cz c7 dz eD dU e1 gy g5 j5:F),(∀V E,(jc V E [.v 2]).map ju=o (.int j (oz x.l))->aG h E->Q (o (.ret,V,E)))->Q (bB (aU aq aa) 15 (.eM HI::.bP []::.cu 1::[.bP [.ops [AA],.ret]]) [.agg [.int j x.kind,.int j x.n,v],.ptr h.n 0 0,.int j 0,.int j (l8 x.kind:Nat),.int j 0,.aD,cz,c7,dz,eD,dU,e1,gy,g5,j5] [] (h.push [[.int j x.kind,.int j x.n,v]])):=by
    intro bg Q cz c7 dz eD dU e1 gy g5 j5 cQ;obtain⟨hlen, -⟩:=afO bg;have asF:=afP x.kind;refine pN (λi V E=>∃b4 g5 j5,V=[.agg [.int j x.kind,.int j x.n,v],.ptr h.n 0 0,.int j 0,.int j (l8 x.kind:Nat),.int j (i:Nat),b4,cz,c7,dz,eD,dU,e1,gy,g5,j5]/\E=h.push [[.int j x.kind,.int j x.n,v]]/\oz (x.l.drop i)=oz x.l) x.l.length ⟨_,_,_,rfl,rfl,rfl⟩ ?_ ?_
    ·rintro i V E af ⟨b4,g5,j5,rfl,rfl,an⟩ next
     have ba:(i:Int)<(l8 x.kind:Int):=by omega
     obtain⟨y,bH⟩:=tV af;obtain⟨q,i1,d1,cb⟩:=fv i y bH;have hw:=ew (n:=(i:Int)+1) (by omega) (by omega);have aw:=aR y (by have:=ax.nB (oK bH);omega) q (h.push [[.int j x.kind,.int j x.n,v]]) cb;rw[afQ bH]at an;by_cases bo:y.fault=0
     ·rw[if_neg (by simp[bo])]at an;rw[bo]at aw;rw[cy HI.eq_1];simp only[ao,ar,av,ap,b2,ba,i1,d1,aw,hw];exact next _ _ ⟨_,_,_,rfl,rfl,an⟩
     ·rw[if_pos bo]at an;rw[cy HI.eq_1];simp only[ao,ar,av,ap,b2,ba,i1,d1,aw,bo];exact cQ _ _ (by rw[<-an];rfl) (by repeat (first|exact aG.refl _|refine aG.trans ?_ (aG.push _ _)|refine aG.trans ?_ (aG.fresh _ _)))
    ·rintro V E ⟨b4,g5,j5,rfl,rfl,an⟩;have ba:¬((x.l.length:Int)<(l8 x.kind:Int)):=by omega
     rw[wN]at an;rw[cy HI.eq_1];simp only[ao,ar,av,ap,b2,ba];exact cQ _ _ (by rw[<-an];rfl) (by repeat (first|exact aG.refl _|refine aG.trans ?_ (aG.push _ _)|refine aG.trans ?_ (aG.fresh _ _)))
   refine nI asz rfl λQ cQ=>?_;unfold afD;by_cases ab:x.kind=0\/x.kind=1\/x.kind=2\/x.kind=3\/x.kind=4\/x.kind=5
   ·by_cases am:(x.l.length:Nat)=l8 x.kind
    ·have iI:(es.length:Int)=(l8 x.kind:Int):=by rw[aA,am]
     by_cases aB:x.n=0
     ·have bA:jJ x.kind x.n x.l.length=0:=by unfold jJ;rw[if_neg (by omega),if_neg (by omega),if_neg (by omega),if_neg (by omega)]
      have L:=loop bA;rw[bA]at cQ;rcases ab with ab|ab|ab|ab|ab|ab
      all_goals
       rw[ab]at iI L;simp only[l8,cN,if_false,if_true,Int.cast_ofNat_Int,aB]at iI L;simp only[ao,ar,av,ap,Z,ab,aB,cN,Int.reduceLT,eL.len,eL.fits,iI];exact L _ _ _ _ _ _ _ _ _ _ λV E e g=>cQ _ _ _ e g rfl
     ·have ET:jJ x.kind x.n x.l.length=if x.kind=0\/x.kind=2 then 5 else if 3<=x.kind/\x.n<0 then 1 else 0:=by unfold jJ;rw[if_neg (by omega),if_neg (by omega)];simp only[aB,not_false_eq_true,ne_eq,and_true]
      by_cases CD:x.n<0
      ·rcases ab with ab|ab|ab|ab|ab|ab
       all_goals
        have bA:=ET;simp only[ab,CD,cN,Int.reduceLE,or_true,and_true,or_false,or_self,if_true,if_false]at bA;rw[<-ab]at bA;have L:=loop;rw[bA]at L cQ;rw[ab]at iI L;simp only[l8,cN,if_false,if_true,Int.cast_ofNat_Int]at iI L;simp only[ao,ar,av,ap,Z,ab,aB,CD,cN,eL.len,eL.fits,iI]
        first
         |exact cQ _ _ _ rfl (by repeat (first|exact aG.refl _|refine aG.trans ?_ (aG.push _ _)|refine aG.trans ?_ (aG.fresh _ _))) rfl
         |exact L trivial _ _ _ _ _ _ _ _ _ _ λV E e g=>cQ _ _ _ e g rfl
      ·rcases ab with ab|ab|ab|ab|ab|ab
       all_goals
        have bA:=ET;simp only[ab,CD,cN,Int.reduceLE,or_true,and_false,or_false,or_self,if_true,if_false]at bA;rw[<-ab]at bA;have L:=loop;rw[bA]at L cQ;rw[ab]at iI L;simp only[l8,cN,if_false,if_true,Int.cast_ofNat_Int]at iI L;simp only[ao,ar,av,ap,Z,ab,aB,CD,cN,eL.len,eL.fits,iI]
        first
         |exact cQ _ _ _ rfl (by repeat (first|exact aG.refl _|refine aG.trans ?_ (aG.push _ _)|refine aG.trans ?_ (aG.fresh _ _))) rfl
         |exact L trivial _ _ _ _ _ _ _ _ _ _ λV E e g=>cQ _ _ _ e g rfl
    ·have bA:jJ x.kind x.n x.l.length=5:=by unfold jJ;rw[if_neg (by omega),if_pos am]
     have iI:¬(es.length:Int)=(l8 x.kind:Int):=by rw[aA];omega
     rw[bA]at cQ;rcases ab with ab|ab|ab|ab|ab|ab
     all_goals
      rw[ab]at iI;simp only[l8,cN,if_false,if_true,Int.cast_ofNat_Int]at iI;simp only[ao,ar,av,ap,Z,ab,cN,eL.len,eL.fits,iI];exact cQ _ _ _ rfl (by repeat (first|exact aG.refl _|refine aG.trans ?_ (aG.push _ _)|refine aG.trans ?_ (aG.fresh _ _))) rfl
   ·have bA:jJ x.kind x.n x.l.length=2:=by unfold jJ;rw[if_pos (by omega)]
    obtain⟨h5,cF,cA,dK,dR,hC⟩:¬x.kind=0/\¬x.kind=1/\¬x.kind=2/\¬x.kind=3/\¬x.kind=4/\¬x.kind=5:=by omega
    rw[bA]at cQ;simp only[ao,ar,av,ap,Z,h5,cF,cA,dK,dR,hC];exact cQ _ _ _ rfl (by repeat (first|exact aG.refl _|refine aG.trans ?_ (aG.push _ _)|refine aG.trans ?_ (aG.fresh _ _))) rfl
end
def S3:List bb:=[pd,.ops [bc,dc,adf,dc,R',jz],.ret]
theorem afR:cv aq aa 144 2 3 [0,1,4] S3 [(.v 2)] J:=by refine⟨_,_,Tryz.func144,rfl,rfl,?_,?_,?_,?_,?_⟩<;>kernel_rfl
def S4:List bb:=[.ops [R5],.cond (.v 2) [.ops [dc,.i .l (.Gj 210 (.l 0)),Ls]] []]
theorem afS:cv aq aa 161 2 3 [0,1,4] S4 [] J:=by refine⟨_,_,Tryz.func161,rfl,rfl,?_,?_,?_,?_,?_⟩<;>kernel_rfl
def Mv:List bb:=[.ops [Ra],.cond (.v 9) [] [.exit 0],.block 1 [.ops [.i .l (.fe (o 3) ag (.v 6) (.v 8)),aT,jA],.ops [bc,ct,dC,aT,dc,c6,.i .l (.call (.c (.fn 84 [] [])) [.l 2,.l 1,.c (.int j 15),.l 0]),cn,fs,ft,B6,d8],.ops [hV,tP,hV,.i .l (.call (.c (.fn 161 [] [])) [.l 1,.l 0])],.ops [fu,pK]],Re]
def afT:List bb:=[rT,.ops [bc,ct,g4,Hr,.i (.v 7) (.len U (o 3) (.v 6)),rX],.block 0 [.loop Mv],.ops [dc,jz],.ret]
theorem asG:cv aq aa 146 2 10 [0,1,4,6,7,8,12,13,14,15] afT [(.v 2)] U:=by refine⟨_,_,Tryz.func146,rfl,rfl,?_,?_,?_,?_,?_⟩<;>kernel_rfl
def HL:List bb:=[Mw,.cond (.v 10) [] [.exit 0],.block 1 [.ops [.i .l (.fe (o 35) ag (.v 7) (.v 9)),jP,xP,rb],.ops [.i .l HM,aT,bc,tR,afU,.ca [⟨ag,U,1,.l 4,(.l 3)⟩],LK,.ca [⟨ag,U,1,.l 5,(.l 4)⟩],.i .l (.app U 35 (.l 4) (.l 0)),.i .l HM,ze]],Mx]
def afV:List bb:=[.ops [My,Fr],.ops [r3,aT,nF,aT,SS,xO,wF],.ops [r3,aT,.i (.v 6) S0],.cond (.v 6) [.ops [bc,nF,aT,.i .l (.call (.c (.fn 146 [] [])) [.l 2,.l 0]),oE,ze]] [],.ops [tK,Hp,.i (.v 8) (.len U (o 35) (.v 7)),CE],.block 0 [.loop HL],.ops [sT,EC],.ret]
theorem asH:cv aq aa 128 2 11 [0,1,3,4,5,7,15,22,23,24,25] afV [(.cell J 3 3)] U:=by refine⟨_,_,Tryz.func128,rfl,rfl,?_,?_,?_,?_,?_⟩<;>kernel_rfl
def Mz:List bb:=[.ops [afW],.cond (.v 11) [] [.exit 0],.block 1 [.ops [.i .l (.fe (o 3) ag (.v 8) (.v 10)),aT,d8],.ops [bc,hV,ad3,.i .l (.call (.c (.fn 144 [] [])) [.l 0,.c (.int j 4)]),.i (.v 12) vh],.cond (.v 12) [MA,.ret] []],.ops [afX,va]]
def MB:List bb:=[.ops [My,rV],.ops [sU,R9,je],.ops [fu,afY],.cond (.v 6) [HH,.ret] [],.ops [sU,.i (.v 7) (.call (.c (.fn 142 [] [])) [.l 0])],.cond (.v 7) [MA,.ret] [],.ops [sU,.i (.v 8) afk,.i (.v 9) (.len U (o 3) (.v 8)),afZ],.block 0 [.loop Mz],sL,.ret]
theorem S5:cv aq aa 126 2 13 [0,1,3,4,5,7,11,14,16,17,18,19,26] MB [(.v 3)] J:=by refine⟨_,_,Tryz.func126,rfl,rfl,?_,?_,?_,?_,?_⟩<;>kernel_rfl
def MC:List bb:=[.ops [ky,hV,B',.i (.v 9) GU],.cond (.v 9) [] [.exit 0],.block 1 [.ops [bc,hV,ky,Es,aT,.i .l (.call (.c (.fn 152 [] [])) [.l 4,.l 0]),.i .l (.call (.c (.fn 151 [] [])) [.l 0,.c (.int j 2)]),.i (.v 10) vh],.cond (.v 10) [MA,.ret] []],.ops [ky,oG,jM]]
def MD:List bb:=[.ops [My,rV],.ops [sU,S6,je],.ops [fu,QP],.cond (.v 7) [HH,.ret] [],.ops [sU,.i (.v 8) afK],.cond (.v 8) [MA,.ret] [],.ops [sU,afI,d8],.ops [rW],.block 0 [.loop MC],sL,.ret]
theorem S7:cv aq aa 155 2 11 [0,1,3,4,5,6,7,11,14,20,30] MD [(.v 3)] J:=by refine⟨_,_,Tryz.func155,rfl,rfl,?_,?_,?_,?_,?_⟩<;>kernel_rfl
def HN:List bb:=[.ops [xU,EP,aT,sS,.i (.v 17) HK],.cond (.v 17) [] [.exit 2],.block 3 [.ops [bc,EP,aT,xU,wE,jP,hd,.i .l (.call (.c (.fn 156 [] [])) [.l 6,.l 1,.l 0]),cn,fs,ft,SG,SH,Cq],.ops [CF,af0],.cond (.v 18) [.ops [lU,CF,HO,d8],.ret] [],.ops [.i .l (.db 2 (.v 6)),aT,.i .l (.load J 3 (.v 12)),LK,af1,.i .l (.db 2 (.v 6)),ze]],.ops [xU,oG,AN]]
def ME:List bb:=[.ops [pL,hd,B',.i (.v 15) GU],.cond (.v 15) [] [.exit 0],.block 1 [.ops [bc,kH,hd,pL,Es,aT,.i .l (.call (.c (.fn 85 [] [])) [.l 5,.l 4,.c (.int j 15),.l 0]),cn,fs,ft,.i (.v 9) xV,va],.ops [tS,SF],.cond (.v 16) [.ops [lU,tS,HO,d8],.ret] [],.ops [qt,nG]],.ops [pL,oG,kZ]]
def af2:List bb:=[.ops [Cp,xO,pJ],.ops [r5,aT,oH,aT,SS,GJ,GK],.ops [r5,aT,.i (.v 14) S0],.cond (.v 14) [.ops [oH,aT,nG],.ops [rX],.block 0 [.loop ME],.ops [kH,.i .l (.db 1 (.v 6)),ze]] [],.ops [HF],.block 2 [.loop HN],.ops [tJ,wF,pJ],.ret]
theorem asI:cv aq aa 156 3 19 [0,1,2,4,6,7,8,9,10,11,12,13,14,15,23,29,43,53,68] af2 [(.cell J 3 4),(.v 5)] U:=by refine⟨_,_,Tryz.func156,rfl,rfl,?_,?_,?_,?_,?_⟩<;>kernel_rfl
def af3:List bb:=[.ops [Cp,xO,pJ],.ops [bc,tQ,.i .l (.call (.c (.fn 155 [] [])) [.l 1,.l 0]),jM],.ops [ky,QP],.cond (.v 7) [.ops [lU,ky,HO,d8],.ret] [],.ops [bc,tQ,hd,.i .l (.call (.c (.fn 156 [] [])) [.l 2,.l 1,.l 0]),fs,ft,HO,d8],.ret]
theorem asJ:cv aq aa 140 3 8 [0,1,2,4,6,7,8,13] af3 [(.cell J 3 4),(.v 5)] U:=by refine⟨_,_,Tryz.func140,rfl,rfl,?_,?_,?_,?_,?_⟩<;>kernel_rfl
open Go.RowKit
structure S8 where
 (d a b c e:Int)
def aI.step(G:aI)(x:S8):aI×Int×Int:=
 if x.d=0 then G.gate else if x.d=1 then((G.cut x.a).1,0,(G.cut x.a).2)else if x.d=2 then G.iv x.a x.b x.c else if x.d=3 then G.ih x.a x.e x.b x.c else if x.d=4 then G.derive x.a x.b x.c else(G,0,0)
structure aI.fo(G b7:aI):Prop where
 nodes:∃ext,b7.nodes=G.nodes++ext
 shut:G.shut.length<=b7.shut.length/\∀k:Nat,G.shut.getD k U=J->b7.shut.getD k U=J
theorem aI.fo.refl(G:aI):G.fo G:=⟨⟨[],by simp⟩,b9 _,λ_=>id⟩
theorem aI.fo.trans{A B C:aI}(x:A.fo B)(y:B.fo C):A.fo C:=by obtain⟨aw,I⟩:=x.nodes;obtain⟨ay,R⟩:=y.nodes;exact⟨⟨aw++ay,by rw[R,I,kS]⟩,e6 x.shut.1 y.shut.1,λk ab=>y.shut.2 k (x.shut.2 k ab)⟩
theorem af4(G:aI)(n:bi):(∃ext:List bi,(G.add n).1.nodes=G.nodes++ext/\ext.length<=1)/\(G.add n).1.shut=G.shut:=by
 unfold aI.add;split
 ·exact⟨⟨[],by simp,by simp⟩,rfl⟩
 split
 ·exact⟨⟨[],by simp,by simp⟩,rfl⟩
 split
 ·exact⟨⟨[],by simp,by simp⟩,rfl⟩
 ·exact⟨⟨[n],rfl,by simp⟩,rfl⟩
theorem S9(G:aI):G.gate.1.nodes=G.nodes/\G.shut.length<=G.gate.1.shut.length/\∀k:Nat,G.shut.getD k U=J->G.gate.1.shut.getD k U=J:=by
 unfold aI.gate;split
 ·exact⟨rfl,b9 _,λ_=>id⟩
 ·refine⟨rfl,by simp,λk ab=>?_⟩;have ba:k<G.shut.length:=by
   rcases oj k G.shut.length with h|h
   ·exact h
   ·rw[cZ,mE h]at ab;cases ab
  simpa[cZ,l0 ba]using ab
theorem S'(G:aI)(k:Int):(G.cut k).1.nodes=G.nodes/\(G.cut k).1.shut.length=G.shut.length/\∀D:Nat,G.shut.getD D U=J->(G.cut k).1.shut.getD D U=J:=by
 unfold aI.cut;split
 ·refine⟨rfl,by simp,λD ae=>?_⟩;have ba:D<G.shut.length:=by
   rcases oj D G.shut.length with h|h
   ·exact h
   ·rw[cZ,mE h]at ae;cases ae
  simp only[cZ,pR];by_cases e:k.toNat=D
  ·simp[e,ba]
  ·simpa[e,cZ]using ae
 ·exact⟨rfl,rfl,λ_=>id⟩
theorem aI.asK(G:aI)(x:S8):(∃ext:List bi,(G.step x).1.nodes=G.nodes++ext/\ext.length<=1)/\G.shut.length<=(G.step x).1.shut.length/\∀k:Nat,G.shut.getD k U=J->(G.step x).1.shut.getD k U=J:=by
 have g9:∀n,(∃ext:List bi,(G.add n).1.nodes=G.nodes++ext/\ext.length<=1)/\G.shut.length<=(G.add n).1.shut.length/\∀k:Nat,G.shut.getD k U=J->(G.add n).1.shut.getD k U=J:=λn=>by obtain⟨I,R⟩:=af4 G n;rw[R];exact⟨I,b9 _,λ_=>id⟩
 have same:(∃ext:List bi,G.nodes=G.nodes++ext/\ext.length<=1)/\G.shut.length<=G.shut.length/\∀k:Nat,G.shut.getD k U=J->G.shut.getD k U=J:=⟨⟨[],by simp,by simp⟩,b9 _,λ_=>id⟩;unfold aI.step;split
 ·obtain⟨I,R,aj⟩:=S9 G;exact⟨⟨[],by simp[I],by simp⟩,R,aj⟩
 split
 ·obtain⟨I,R,aj⟩:=S' G x.a;exact⟨⟨[],by simp[I],by simp⟩,by simp only[R];exact b9 _,aj⟩
 split
 ·unfold aI.iv;split
  ·exact g9 _
  ·exact same
 split
 ·unfold aI.ih;split
  ·exact g9 _
  ·exact same
 split
 ·unfold aI.derive;split
  ·exact g9 _
  ·exact same
 ·exact same
theorem aI.Ta(G:aI)(x:S8):G.fo (G.step x).1:=by obtain⟨⟨e,I,_⟩,R,aj⟩:=G.asK x;exact⟨⟨e,I⟩,R,aj⟩
theorem aI.asL{G:aI}(ck:G.dg):∀(f:Nat) (i:Int),i.toNat<f->G.has i=J->∃pre t,G.path i=pre++[t]/\t.parent= -1/\∃k:Nat,G.nodes[k]? =o t:=by
 intro f;induction f with
 |zero=>intro i af;omega
 |succ f aR=>
   intro i af bA;have ok:=ck.get bA;have nW:G.nodes[i.toNat]? =o (G.nodes.getD i.toNat fL):=by
    simp[aI.has]at bA;have:i.toNat<G.nodes.length:=by omega
    simp[cZ,this]
   rw[aI.Eg ck bA];by_cases az:G.has (G.nodes.getD i.toNat fL).parent=J
   ·have q8:0<=(G.nodes.getD i.toNat fL).parent:=by simp only[aI.has,decide_eq_true_eq]at az;exact az.1
    have ox:=ok.dB;obtain⟨pre,t,I,R,aj⟩:=aR (G.nodes.getD i.toNat fL).parent (by omega) az;exact⟨_::pre,t,by rw[I];rfl,R,aj⟩
   ·refine⟨[],_,by rw[aI.xx (by simpa using az)];rfl,?_,_,nW⟩;have ak:=ok.en;have I:=ok.dB;have iG:i.toNat<G.nodes.length:=(fO.1 nW).1;simp only[aI.has,decide_eq_true_eq,not_and]at az;rcases Int.lt_or_le (G.nodes.getD i.toNat fL).parent 0 with h|h
    ·omega
    ·have:=az h;omega
theorem aI.MF{G:aI}(ck:G.dg){i:Int}(bA:G.has i=J):(G.target i).2=J/\(G.target i).1.parent= -1/\((G.target i).1.bu= -1/\0<=(G.target i).1.cell/\(G.target i).1.cell<12/\(G.target i).1.func=0\/0<=(G.target i).1.bu/\(G.target i).1.bu<4/\0<=(G.target i).1.func/\(G.target i).1.func<6/\(G.target i).1.cell=0):=by
 obtain⟨pre,t,I,R,k,ab⟩:=aI.asL ck (i.toNat+1) i (by omega) bA;have a6:G.target i=(t,J):=by unfold aI.target;rw[I];simp[List.getLastD_eq_getLast?]
 rw[a6];exact⟨rfl,R,(ck.node k t ab).t R⟩
theorem aI.fo.has{G b7:aI}(l:G.fo b7){i:Int}(h:G.has i=J):b7.has i=J/\b7.nodes.getD i.toNat fL=G.nodes.getD i.toNat fL:=by
 obtain⟨e,he⟩:=l.nodes;simp[aI.has]at h;have ba:i.toNat<G.nodes.length:=by omega
 refine⟨by simp[aI.has,he];omega,?_⟩;rw[he];simp[cZ,l0 ba]
theorem aI.fo.path{G b7:aI}(l:G.fo b7)(ck:G.dg)(kn:b7.dg):∀(f:Nat) (i:Int),i.toNat<f->G.has i=J->b7.path i=G.path i:=by
 intro f;induction f with
 |zero=>intro i af;omega
 |succ f aR=>
   intro i af bA;obtain⟨Tb,aA⟩:=l.has bA;have ok:=ck.get bA;rw[aI.Eg ck bA,aI.Eg kn Tb,aA];congr 1;by_cases az:G.has (G.nodes.getD i.toNat fL).parent=J
   ·have q8:0<=(G.nodes.getD i.toNat fL).parent:=by simp only[aI.has,decide_eq_true_eq]at az;exact az.1
    have ox:=ok.dB;exact aR _ (by omega) az
   ·have ak:=ok.en;have I:=ok.dB;have iG:i.toNat<G.nodes.length:=by simp[aI.has]at bA;omega
    have asM:(G.nodes.getD i.toNat fL).parent<0:=by
     simp only[aI.has,decide_eq_true_eq,not_and]at az;rcases Int.lt_or_le (G.nodes.getD i.toNat fL).parent 0 with h|h
     ·exact h
     ·have:=az h;omega
    rw[aI.xx (G:=G) (by simpa using az),aI.xx (G:=b7) (by simp only[aI.has,decide_eq_false_iff_not,not_and];intro h;omega)]
theorem aI.af5{G:aI}(ck:G.dg):∀(f:Nat) (i:Int),∀n∈G.mM f i,qm n.c5=J/\(n.gate= -1\/0<=n.gate/\n.gate<G.shut.length):=by
 intro f;induction f with
 |zero=>intro i n aA;simp[aI.mM]at aA
 |succ f aR=>
   intro i n aA;unfold aI.mM at aA;split at aA
   ·rename_i ab;rcases mJ.1 aA with rfl|aA
    ·exact⟨(ck.get ab).r,(ck.get ab).g⟩
    ·exact aR _ n aA
   ·simp at aA
theorem af6{G:aI}(ck:G.dg)(i:Int):∃x:BitVec 64,G.c5 i=x.toInt:=by
 unfold aI.c5;split
 ·exact⟨0#64,rfl⟩
 ·exact⟨_,Rx _ (λn aA=>(aI.af5 ck _ i n aA).1) 15#64⟩
theorem asN{aQ:List Int}{x:ax}{G:aI}(h:(fw aQ x G).2.2≠0):(fw aQ x G).2.1=ce:=by
 rw[KM]at h ⊢;split
 ·rfl
 ·rename_i I;rw[if_neg I]at h;split
  ·rfl
  ·rename_i R;rw[if_neg R]at h;exact absurd rfl h
theorem asO{aQ:List Int}{x:ax}{G:aI}(h:(fg aQ G x).2.2≠0):(fg aQ G x).2.1=ce:=by
 unfold fg at h ⊢;split
 ·rfl
 ·rename_i I;rw[if_neg I]at h;exact asN h
theorem asP(x:ax):(id x).kind=x.kind:=rfl
theorem asQ(x:ax):(id x).l=x.l.map id:=by simp
section
variable{h:ai}
theorem asR(i:Option Nat):∀(k:Int),(k=0\/k=1\/k=2\/k=3\/k=4\/k=5)->dY (o 3) ag (.b5 i 3 [[.int j 0],[.int j 0],[.int j 2],[.int j 1],[.int j 0],[.int j 0]]) (.int j k)=o (.ip [.int j (l8 k:Nat)] 0):=by rintro k (rfl|rfl|rfl|rfl|rfl|rfl)<;>rfl
theorem asS:∀(N:Nat) (x:ax),lz x<=N->∀(r:List F) (h:ai),bZ x r->aU aq aa 87 [.agg r] h=o (.inl (.int j x.fault),h):=by
 intro N;induction N with
 |zero=>intro x aF;have:=x.m';omega
 |succ N aR=>
   intro x aF r h he;obtain⟨v,es,rfl,eL,Z,aA,fv⟩:=he.facts;have S2:=x.Ee;rw[S2];have loop:jJ x.kind x.n x.l.length=0->∀(Q:mi->Prop) (eY cz c7 dz:F),(∀V E,(jc V E [.v 2]).map ju=o (.int j (oz x.l))->aG h E->Q (o (.ret,V,E)))->Q (bB (aU aq aa) 14 (.eM HD::.bP []::.cu 1::[.bP [.ops [AA],.ret]]) [.agg [.int j x.kind,.int j x.n,v],.ptr h.n 0 0,.int j 0,eY,.aD,.aD,cz,c7,dz,v,.int j es.length,.int j 0,.aD,.aD] [] ((h.push [[.int j x.kind,.int j x.n,v]]).fresh 6)):=by
    intro bg Q eY cz c7 dz cQ;obtain⟨hlen, -⟩:=afO bg;have asF:=afP x.kind;refine pN (λi V E=>∃dL b4 gy g5,V=[.agg [.int j x.kind,.int j x.n,v],.ptr h.n 0 0,.int j 0,eY,dL,b4,cz,c7,dz,v,.int j es.length,.int j (i:Nat),gy,g5]/\aG h E/\oz (x.l.drop i)=oz x.l) x.l.length ⟨_,_,_,_,rfl,(by repeat (first|exact aG.refl _|refine aG.trans ?_ (aG.push _ _)|refine aG.trans ?_ (aG.fresh _ _))),rfl⟩ ?_ ?_
    ·rintro i V E af ⟨dL,b4,gy,g5,rfl,g,an⟩ next
     have ba:(i:Int)<(es.length:Int):=by rw[aA];omega
     obtain⟨y,bH⟩:=tV af;obtain⟨q,i1,d1,cb⟩:=fv i y bH;obtain⟨bz,bG⟩:=cb.one;have hw:=ew (n:=(i:Int)+1) (by omega) (by omega);have aw:=aR y (by have:=ax.nB (oK bH);omega) q (E.push [q]) cb;rw[afQ bH]at an;by_cases bo:y.fault=0
     ·rw[if_neg (by simp[bo])]at an;rw[bo]at aw;rw[cy HD.eq_1];simp only[ao,ar,av,ap,b2,ba,i1,d1,bz,bG,aw,hw];exact next _ _ ⟨_,_,_,_,rfl,g.trans (by repeat (first|exact aG.refl _|refine aG.trans ?_ (aG.push _ _)|refine aG.trans ?_ (aG.fresh _ _))),an⟩
     ·rw[if_pos bo]at an;rw[cy HD.eq_1];simp only[ao,ar,av,ap,b2,ba,i1,d1,bz,bG,aw,bo];exact cQ _ _ (by rw[<-an];rfl) (g.trans (by repeat (first|exact aG.refl _|refine aG.trans ?_ (aG.push _ _)|refine aG.trans ?_ (aG.fresh _ _))))
    ·rintro V E ⟨dL,b4,gy,g5,rfl,g,an⟩;have ba:¬((x.l.length:Int)<(es.length:Int)):=by rw[aA];omega
     rw[wN]at an;rw[cy HD.eq_1];simp only[ao,ar,av,ap,b2,ba];exact cQ _ _ (by rw[<-an];rfl) g
   refine nI asr rfl λQ cQ=>?_;unfold aff;by_cases ab:x.kind=0\/x.kind=1\/x.kind=2\/x.kind=3\/x.kind=4\/x.kind=5
   ·have CG:=λi=>asR i x.kind ab;have h5:¬x.kind<0:=by omega
    have hC:¬5<x.kind:=by omega
    by_cases am:(x.l.length:Nat)=l8 x.kind
    ·have iI:(es.length:Int)=(l8 x.kind:Int):=by rw[aA,am]
     have ET:jJ x.kind x.n x.l.length=if(x.kind=0\/x.kind=2)/\x.n≠0 then 5 else if 3<=x.kind/\x.n<0 then 1 else 0:=by unfold jJ;rw[if_neg (by omega),if_neg (by omega)]
     have L:=loop;rw[ET]at L cQ;rw[iI]at L;by_cases aB:x.n=0
     ·rcases ab with ab|ab|ab|ab|ab|ab
      all_goals
       rw[ab]at iI L cQ CG;simp only[l8,cN,if_false,if_true,Int.cast_ofNat_Int,aB,not_true,ne_eq,and_false,Int.lt_irrefl]at iI L cQ CG;simp only[ao,ar,av,ap,vi,Z,ab,aB,cN,Int.reduceLT,Int.reduceLE,eL.len,eL.fits,iI,CG,Int.lt_irrefl];exact L trivial _ _ _ _ _ λV E e g=>cQ _ _ _ e g rfl
     ·by_cases CD:x.n<0
      all_goals
       rcases ab with ab|ab|ab|ab|ab|ab
       all_goals
        rw[ab]at iI L cQ CG;simp only[l8,cN,Int.reduceLE,if_false,if_true,Int.cast_ofNat_Int,aB,CD,not_true,not_false_eq_true,ne_eq,and_false,and_true,or_true,or_false,or_self]at iI L cQ CG;simp only[ao,ar,av,ap,vi,Z,ab,aB,CD,cN,Int.reduceLT,Int.reduceLE,eL.len,eL.fits,iI,CG]
        first
         |exact cQ _ _ _ rfl (by repeat (first|exact aG.refl _|refine aG.trans ?_ (aG.push _ _)|refine aG.trans ?_ (aG.fresh _ _))) rfl
         |exact L trivial _ _ _ _ _ λV E e g=>cQ _ _ _ e g rfl
    ·have bA:jJ x.kind x.n x.l.length=5:=by unfold jJ;rw[if_neg (by omega),if_pos am]
     have iI:¬(es.length:Int)=(l8 x.kind:Int):=by rw[aA];omega
     rw[bA]at cQ;simp only[ao,ar,av,ap,vi,Z,h5,hC,eL.len,eL.fits,CG,iI];exact cQ _ _ _ rfl (by repeat (first|exact aG.refl _|refine aG.trans ?_ (aG.push _ _)|refine aG.trans ?_ (aG.fresh _ _))) rfl
   ·have bA:jJ x.kind x.n x.l.length=2:=by unfold jJ;rw[if_pos (by omega)]
    rw[bA]at cQ;by_cases h5:x.kind<0
    ·simp only[ao,ar,av,ap,vi,Z,h5];exact cQ _ _ _ rfl (by repeat (first|exact aG.refl _|refine aG.trans ?_ (aG.push _ _)|refine aG.trans ?_ (aG.fresh _ _))) rfl
    ·have hC:5<x.kind:=by omega
     simp only[ao,ar,av,ap,vi,Z,h5,hC];exact cQ _ _ _ rfl (by repeat (first|exact aG.refl _|refine aG.trans ?_ (aG.push _ _)|refine aG.trans ?_ (aG.fresh _ _))) rfl
theorem MG{x:ax}{r:List F}(he:bZ x r):aU aq aa 47 [.agg r] h=o (.inl (.int j x.code),h):=by
 obtain⟨bz,bG⟩:=he.one;have aw:=λh=>asC _ x (b9 _) r h 40 he (by omega) (by omega);have ay:=λh=>asS _ x (b9 _) r h he;by_cases aC:40<x.size
 ·have be:tW 40 x.size= -1:=by rw[tW,if_neg (by omega)]
  have b1:x.code=3:=by rw[ax.code,if_pos aC]
  rw[b1];simp only[be]at aw;refine nI afd rfl λQ cQ=>?_;unfold SK;simp only[ao,ar,av,ap,bz,bG,gA bG,aw,Int.reduceLT];exact cQ _ _ _ rfl (by repeat (first|exact aG.refl _|refine aG.trans ?_ (aG.push _ _)|refine aG.trans ?_ (aG.fresh _ _))) rfl
 ·have be:¬tW 40 x.size<0:=by rw[tW,if_pos (by omega)];omega
  have b1:x.code=x.fault:=by rw[ax.code,if_neg aC]
  rw[b1];refine nI afd rfl λQ cQ=>?_;unfold SK;simp only[ao,ar,av,ap,bz,bG,gA bG,aw,be,ay];exact cQ _ _ _ rfl (by repeat (first|exact aG.refl _|refine aG.trans ?_ (aG.push _ _)|refine aG.trans ?_ (aG.fresh _ _))) rfl
theorem MH{x:ax}{r:List F}(he:bZ x r):aU aq aa 53 [.agg r] h=o (.inl (.int j x.code),h):=by
 obtain⟨bz,bG⟩:=he.one;have aw:=λh=>asD _ x (b9 _) r h 40 he (by omega) (by omega);have ay:=λh=>asE _ x (b9 _) r h he;by_cases aC:40<x.size
 ·have be:40<min (x.size:Int) (40+1):=by omega
  have b1:x.code=3:=by rw[ax.code,if_pos aC]
  rw[b1];refine nI afH rfl λQ cQ=>?_;unfold S1;simp only[ao,ar,av,ap,bz,bG,gA bG,aw,be];exact cQ _ _ _ rfl (by repeat (first|exact aG.refl _|refine aG.trans ?_ (aG.push _ _)|refine aG.trans ?_ (aG.fresh _ _))) rfl
 ·have be:¬40<min (x.size:Int) (40+1):=by omega
  have b1:x.code=x.fault:=by rw[ax.code,if_neg aC]
  rw[b1];refine nI afH rfl λQ cQ=>?_;unfold S1;simp only[ao,ar,av,ap,bz,bG,gA bG,aw,be,ay];exact cQ _ _ _ rfl (by repeat (first|exact aG.refl _|refine aG.trans ?_ (aG.push _ _)|refine aG.trans ?_ (aG.fresh _ _))) rfl
theorem asT{l ch:List ax}{i:Nat}{x y:ax}(I:l[i]? =o x)(R:ch[i]? =o y):q7 (l.drop i) (ch.drop i)=(wh x y&&q7 (l.drop (i+1)) (ch.drop (i+1))):=by obtain⟨cF,rfl⟩:=fO.1 I;obtain⟨cA,rfl⟩:=fO.1 R;rw[wM cF,wM cA];rfl
theorem asU(l ch:List ax)(v w:F)(Z:∀h,wD h v l)(hw:∀h,wD h w ch)(am:l.length<=100000)(an:∀x∈l,∀(y:ax) (q fk:List F) (h:ai),bZ x q->bZ y fk->aU aq aa 19 [.agg q,.agg fk] h=o (.inl (.bool (wh x y)),h)):aU aq aa 30 [v,w] h=o (.inl (.bool (q7 l ch)),h):=by
 have xW:=(Z h).len;have qy:=(Z h).fits;have vj:=(hw h).len;have wf:=(hw h).fits;cases bg:decide ((l.length:Int)=(ch.length:Int))
 ·rw[ap1 bg];refine nI afy rfl λQ cQ=>?_;unfold SW;simp only[ao,ar,av,ap,xW,qy,vj,wf,bg];exact cQ _ _ _ rfl (by repeat (first|exact aG.refl _|refine aG.trans ?_ (aG.push _ _)|refine aG.trans ?_ (aG.fresh _ _))) rfl
 ·have jf:l.length=ch.length:=by have:=of_decide_eq_true bg;omega
  refine nI afy rfl λQ cQ=>?_;unfold SW;simp only[ao,ar,av,ap,xW,qy,vj,wf,bg];refine pN (λi V E=>∃dL b4 cz,V=[v,w,.bool U,.int j (i:Nat),dL,b4,cz]/\aG h E/\q7 (l.drop i) (ch.drop i)=q7 l ch) l.length ⟨_,_,_,rfl,aG.refl _,rfl⟩ ?_ ?_
  ·rintro i V E af ⟨dL,b4,cz,rfl,g,aC⟩ next
   have ba:(i:Int)<(l.length:Int):=by omega
   have MI:=ew (n:=(i:Int)+1) (by omega) (by omega);obtain⟨x,aF⟩:=tV af;obtain⟨y,bH⟩:=tV (l:=ch) (i:=i) (by omega);obtain⟨a,q,i1,hh,cb⟩:=(Z E).bJ i x aF;obtain⟨b,fk,g6,gg,fU⟩:=(hw E).bJ i y bH;have aw:=an x (oK aF) y q fk E cb fU;rw[asT aF bH]at aC;cases ad:wh x y
   ·rw[ad]at aw aC;rw[Bool.false_and]at aC;rw[cy Mq.eq_1];simp only[ao,ar,av,ap,b2,xW,qy,ba,i1,hh _ (aG.refl E),g6,gg _ (aG.refl E),aw];exact cQ _ _ _ rfl g (by rw[<-aC];rfl)
   ·rw[ad]at aw aC;rw[Bool.true_and]at aC;rw[cy Mq.eq_1];simp only[ao,ar,av,ap,b2,xW,qy,ba,i1,hh _ (aG.refl E),g6,gg _ (aG.refl E),aw,MI];exact next _ _ ⟨_,_,_,rfl,g,aC⟩
  ·rintro V E ⟨dL,b4,cz,rfl,g,aC⟩;have ba:¬((l.length:Int)<(l.length:Int)):=by omega
   rw[wN,jf,wN]at aC;rw[cy Mq.eq_1];simp only[ao,ar,av,ap,b2,xW,qy,ba];exact cQ _ _ _ rfl g (by rw[<-aC];rfl)
theorem asV:∀(N:Nat) (x:ax),lz x<=N->x.size<=100000->∀(y:ax) (q fk:List F) (h:ai),bZ x q->bZ y fk->aU aq aa 19 [.agg q,.agg fk] h=o (.inl (.bool (wh x y)),h):=by
 intro N;induction N with
 |zero=>intro x aF;have:=x.m';omega
 |succ N aR=>
   intro x aF fa y q fk h aX pA;obtain⟨v,es,rfl,aC,am⟩:=aX.row;obtain⟨w,gS,rfl,yQ,iI⟩:=pA.row;have a8:∀h,wD h v x.l:=λh=>wD.of aC am;have af7:∀h,wD h w y.l:=λh=>wD.of yQ iI;have hlen:=x.q5;have aw:=λh=>asU (h:=h) x.l y.l v w a8 af7 (by omega) (λz aB y q fk h=>aR z (by have:=ax.nB aB;omega) (by have:=ax.ql aB;omega) y q fk h);have bz:=(a8 h).one;have bG:=(af7 h).one;rw[ap2];refine nI asx rfl λQ cQ=>?_;unfold afr;cases ab:decide (x.kind=y.kind)
   ·simp only[ao,ar,av,ap,bz,bG,ab];exact cQ _ _ _ rfl (by repeat (first|exact aG.refl _|refine aG.trans ?_ (aG.push _ _)|refine aG.trans ?_ (aG.fresh _ _))) (by rw[ab];rfl)
   ·cases aA:decide (x.n=y.n)
    ·simp only[ao,ar,av,ap,bz,bG,ab,aA];exact cQ _ _ _ rfl (by repeat (first|exact aG.refl _|refine aG.trans ?_ (aG.push _ _)|refine aG.trans ?_ (aG.fresh _ _))) (by rw[ab,aA];rfl)
    ·simp only[ao,ar,av,ap,bz,bG,ab,aA,aw];exact cQ _ _ _ rfl (by repeat (first|exact aG.refl _|refine aG.trans ?_ (aG.push _ _)|refine aG.trans ?_ (aG.fresh _ _))) (by rw[ab,aA];rfl)
def MJ(V:List F):F:=V.getD 2 .aD
theorem asW:∀(N:Nat) (x:ax),lz x<=N->x.size<=100000->∀(r:List F) (h:ai),bZ x r->aU aq aa 165 [.agg r] h=o (.inl (hy 3 (eI x.fX)),h):=by
 intro N;induction N with
 |zero=>intro x aF;have:=x.m';omega
 |succ N aR=>
   intro x aF fa r h he;obtain⟨v,es,rfl,eL,Z,aA,fv⟩:=he.facts;have hlen:=x.q5;have aC:=x.size_eq;have rest:∀(Q:mi->Prop) (ak:ai) (CH:F) (cB:List Int) (b4 cz:F),Acc h ak 3 CH (eI cB)->aG h ak->h.n<ak.n->ak.cell h.n=o [[.int j x.kind,.int j x.n,v]]->cB.length<=1->(∀V E,(jc V E [.v 2]).map ju=o (MJ V)->aG h E->dl (MJ V)=o (hy 3 (eI (cB++lO x.l)))->Q (o (.ret,V,E)))->Q (bB (aU aq aa) 7 (.eM Ms::.bP []::.cu 0::[.bP [.ops [c6,jz],.ret]]) [.agg [.int j x.kind,.int j x.n,v],.ptr h.n 0 0,.aJ,CH,.int j 0,b4,cz] [] ak):=by
    intro Q ak CH cB b4 cz Tc sE CI h5 z7 cQ;refine pN (λi V E=>∃acc hJ,V=[.agg [.int j x.kind,.int j x.n,v],.ptr h.n 0 0,.aJ,acc,.int j (i:Nat),b4,hJ]/\aG h E/\h.n<E.n/\E.cell h.n=o [[.int j x.kind,.int j x.n,v]]/\Acc h E 3 acc (eI (cB++lO (x.l.take i)))) x.l.length ⟨_,_,rfl,sE,CI,h5,by simpa[lO]using Tc⟩ ?_ ?_
    ·rintro i V E af ⟨acc,hJ,rfl,g,hm,aW,aV⟩ next
     have ba:(i:Int)<(es.length:Int):=by rw[aA];omega
     obtain⟨y,bH⟩:=tV af;obtain⟨q,i1,d1,cb⟩:=fv i y bH;obtain⟨bz,bG⟩:=cb.one;have hw:=ew (n:=(i:Int)+1) (by omega) (by omega);have aw:=aR y (by have:=ax.nB (oK bH);omega) (by have:=ax.ql (oK bH);omega) q E cb;have qz:=KK (x.l.take i);have lC:=Mu x.l i;have hU:=y.GA;have af8:=ax.ql (oK bH);obtain⟨k0,R,ay,aP,a2,bl,cr⟩:=Ll (h:=E) aV g (RK 3 (eI y.fX)) (RL _) (by simp only[fM,fz];omega) (by simp only[fM];omega);have Td:Acc h R 3 k0 (eI (cB++lO (x.l.take (i+1)))):=by rw[Ce bH,Qx,<-kS];simpa[lO]using aP
     rw[cy Ms.eq_1];simp only[ao,ar,av,ap,b2,aW,eL.len,eL.fits,ba,i1,d1,aw,ay,hw];exact next _ _ ⟨_,_,rfl,a2,by rw[cr];exact hm,by rw[bl];exact aW,Td⟩
    ·rintro V E ⟨acc,hJ,rfl,g,hm,aW,aV⟩;have ba:¬((x.l.length:Int)<(es.length:Int)):=by rw[aA];omega
     rw[List.take_length]at aV;have r6:=BW aV (λr au=>by obtain⟨n,_,rfl⟩:=nt.1 au;rfl);rw[cy Ms.eq_1];simp only[ao,ar,av,ap,b2,aW,eL.len,eL.fits,ba];exact cQ _ _ rfl g r6
   rw[x.y6];refine nI asA rfl λQ cQ=>?_;unfold afJ;by_cases aH:x.kind=4
   ·rw[aH]at rest;have L:=rest;have aP:Acc h ((h.push [[.int j 4,.int j x.n,v]]).fresh 1) 3 (.b5 (o h.ids) 3 [[.int j x.n]]) (eI [x.n]):=.inr ⟨h.ids,by simp,b9 _,by simp[ai.fresh,ai.push],by simp[ai.fresh,ai.push],rfl⟩;have a2:aG h ((h.push [[.int j 4,.int j x.n,v]]).fresh 1):=(by repeat (first|exact aG.refl _|refine aG.trans ?_ (aG.push _ _)|refine aG.trans ?_ (aG.fresh _ _)));have bl:((h.push [[.int j 4,.int j x.n,v]]).fresh 1).cell=(h.push [[.int j 4,.int j x.n,v]]).cell:=rfl;have cr:((h.push [[.int j 4,.int j x.n,v]]).fresh 1).n=(h.push [[.int j 4,.int j x.n,v]]).n:=rfl;have aw:True:=trivial;simp only[ao,ar,av,ap,Z,aH];refine L _ _ _ [x.n] _ _ aP a2 (by rw[cr];simp only[eC];omega) (by rw[bl];exact hb) (by simp) λV E e g w=>cQ _ _ _ e g ?_;rw[w];simp[aH]
   ·simp only[ao,ar,av,ap,Z,aH];refine rest _ _ _ [] _ _ (wa _ _ _) (by repeat (first|exact aG.refl _|refine aG.trans ?_ (aG.push _ _)|refine aG.trans ?_ (aG.fresh _ _))) (by simp only[eC];omega) hb (by simp) λV E e g w=>cQ _ _ _ e g ?_;rw[w];simp[aH]
theorem asX:∀(N:Nat) (x:ax),lz x<=N->x.size<=100000->∀(r:List F) (h:ai),bZ x r->aU aq aa 143 [.agg r] h=o (.inl (hy 3 (eI x.fX)),h):=by
 intro N;induction N with
 |zero=>intro x aF;have:=x.m';omega
 |succ N aR=>
   intro x aF fa r h he;obtain⟨v,es,rfl,eL,Z,aA,fv⟩:=he.facts;have hlen:=x.q5;have aC:=x.size_eq;have rest:∀(Q:mi->Prop) (ak:ai) (CH:F) (cB:List Int) (b4:F),Acc h ak 3 CH (eI cB)->aG h ak->h.n<ak.n->ak.cell h.n=o [[.int j x.kind,.int j x.n,v]]->cB.length<=1->(∀V E,(jc V E [.v 2]).map ju=o (MJ V)->aG h E->dl (MJ V)=o (hy 3 (eI (cB++lO x.l)))->Q (o (.ret,V,E)))->Q (bB (aU aq aa) 10 (.eM Mj::.bP []::.cu 0::[.bP [.ops [c6,jz],.ret]]) [.agg [.int j x.kind,.int j x.n,v],.ptr h.n 0 0,.aJ,CH,.aD,b4,v,.int j es.length,.int j 0,.aD] [] ak):=by
    intro Q ak CH cB b4 Tc sE CI h5 z7 cQ;refine pN (λi V E=>∃acc h8 nf,V=[.agg [.int j x.kind,.int j x.n,v],.ptr h.n 0 0,.aJ,acc,h8,b4,v,.int j es.length,.int j (i:Nat),nf]/\aG h E/\h.n<E.n/\E.cell h.n=o [[.int j x.kind,.int j x.n,v]]/\Acc h E 3 acc (eI (cB++lO (x.l.take i)))) x.l.length ⟨_,_,_,rfl,sE,CI,h5,by simpa[lO]using Tc⟩ ?_ ?_
    ·rintro i V E af ⟨acc,h8,nf,rfl,g,hm,aW,aV⟩ next
     have ba:(i:Int)<(es.length:Int):=by rw[aA];omega
     obtain⟨y,bH⟩:=tV af;obtain⟨q,i1,d1,cb⟩:=fv i y bH;obtain⟨bz,bG⟩:=cb.one;have hw:=ew (n:=(i:Int)+1) (by omega) (by omega);have aw:=aR y (by have:=ax.nB (oK bH);omega) (by have:=ax.ql (oK bH);omega) q (E.push [q]) cb;have qz:=KK (x.l.take i);have lC:=Mu x.l i;have hU:=y.GA;have af8:=ax.ql (oK bH);obtain⟨k0,R,ay,aP,a2,bl,cr⟩:=Ll (h:=(E.push [q])) (show Acc h (E.push [q]) _ acc _ from aV) (g.trans (aG.push _ _)) (RK 3 (eI y.fX)) (RL _) (by simp only[fM,fz];omega) (by simp only[fM];omega);have Td:Acc h R 3 k0 (eI (cB++lO (x.l.take (i+1)))):=by rw[Ce bH,Qx,<-kS];simpa[lO]using aP
     rw[cy Mj.eq_1];simp only[ao,ar,av,ap,b2,ba,i1,d1,bz,bG,aw,ay,hw];exact next _ _ ⟨_,_,_,rfl,a2,by rw[cr];(show _<E.n+1;omega),by rw[bl];(exact(hp hm).trans aW),Td⟩
    ·rintro V E ⟨acc,h8,nf,rfl,g,hm,aW,aV⟩;have ba:¬((x.l.length:Int)<(es.length:Int)):=by rw[aA];omega
     rw[List.take_length]at aV;have r6:=BW aV (λr au=>by obtain⟨n,_,rfl⟩:=nt.1 au;rfl);rw[cy Mj.eq_1];simp only[ao,ar,av,ap,b2,ba];exact cQ _ _ rfl g r6
   rw[x.y6];refine nI ast rfl λQ cQ=>?_;unfold afm;by_cases aH:x.kind=4
   ·rw[aH]at rest;have L:=rest;obtain⟨aDK,I,aw,aP,a2,bl,cr⟩:=y4 (ak:=h) (h:=h.push [[.int j 4,.int j x.n,v]]) (wa h _ 3) (by repeat (first|exact aG.refl _|refine aG.trans ?_ (aG.push _ _)|refine aG.trans ?_ (aG.fresh _ _))) (row:=[.int j x.n]) rfl (by simp);simp only[v']at aw;simp only[ao,ar,av,ap,Z,aH,eL.len,eL.fits,aw,bl];refine L _ _ _ [x.n] _ aP a2 (by rw[cr];simp only[eC];omega) (by rw[bl];exact hb) (by simp) λV E e g w=>cQ _ _ _ e g ?_;rw[w];simp[aH]
   ·simp only[ao,ar,av,ap,Z,aH,eL.len,eL.fits];refine rest _ _ _ [] _ (wa _ _ _) (by repeat (first|exact aG.refl _|refine aG.trans ?_ (aG.push _ _)|refine aG.trans ?_ (aG.fresh _ _))) (by simp only[eC];omega) hb (by simp) λV E e g w=>cQ _ _ _ e g ?_;rw[w];simp[aH]
theorem asY{l:List ax}{i:Nat}{y:ax}(h:l[i]? =o y):xv (l.drop i)=(y.gate||xv (l.drop (i+1))):=by obtain⟨af,rfl⟩:=fO.1 h;rw[wM af];rfl
theorem asZ:∀(N:Nat) (x:ax),lz x<=N->x.size<=100000->∀(r:List F) (h:ai),bZ x r->aU aq aa 164 [.agg r] h=o (.inl (.bool x.gate),h):=by
 intro N;induction N with
 |zero=>intro x aF;have:=x.m';omega
 |succ N aR=>
   intro x aF fa r h he;obtain⟨v,es,rfl,eL,Z,aA,fv⟩:=he.facts;have hlen:=x.q5;rw[x.abG];refine nI asB rfl λQ cQ=>?_;unfold afL;simp only[ao,ar,av,ap,Z];refine pN (λi V E=>∃dL b4,V=[.agg [.int j x.kind,.int j x.n,v],.ptr h.n 0 0,.bool U,.int j (i:Nat),dL,b4]/\E=h.push [[.int j x.kind,.int j x.n,v]]/\xv (x.l.drop i)=xv x.l) x.l.length ⟨_,_,rfl,rfl,rfl⟩ ?_ ?_
   ·rintro i V E af ⟨dL,b4,rfl,rfl,an⟩ next
    have ba:(i:Int)<(es.length:Int):=by rw[aA];omega
    obtain⟨y,bH⟩:=tV af;obtain⟨q,i1,d1,cb⟩:=fv i y bH;have hw:=ew (n:=(i:Int)+1) (by omega) (by omega);have aw:=aR y (by have:=ax.nB (oK bH);omega) (by have:=ax.ql (oK bH);omega) q (h.push [[.int j x.kind,.int j x.n,v]]) cb;rw[asY bH]at an;cases ad:y.gate
    ·rw[ad]at aw an;rw[Bool.false_or]at an;rw[cy Mt.eq_1];simp only[ao,ar,av,ap,b2,eL.len,eL.fits,ba,i1,d1,aw,hw];exact next _ _ ⟨_,_,rfl,rfl,an⟩
    ·rw[ad]at aw an;rw[Bool.true_or]at an;rw[cy Mt.eq_1];simp only[ao,ar,av,ap,b2,eL.len,eL.fits,ba,i1,d1,aw];exact cQ _ _ _ rfl (by repeat (first|exact aG.refl _|refine aG.trans ?_ (aG.push _ _)|refine aG.trans ?_ (aG.fresh _ _))) (by rw[<-an,Bool.or_true];rfl)
   ·rintro V E ⟨dL,b4,rfl,rfl,an⟩;have ba:¬((x.l.length:Int)<(es.length:Int)):=by rw[aA];omega
    rw[wN]at an;rw[cy Mt.eq_1];simp only[ao,ar,av,ap,b2,eL.len,eL.fits,ba];exact cQ _ _ _ rfl (by repeat (first|exact aG.refl _|refine aG.trans ?_ (aG.push _ _)|refine aG.trans ?_ (aG.fresh _ _))) (by rw[<-an];show _=o (F.bool (decide _||U));rw[Bool.or_false];rfl)
theorem as0(v:F)(l:List ax)(Z:∀h,wD h v l)(am:l.length<=100000)(g:di)(p:ax->Bool)(bo:∀y∈l,∀q h,bZ y q->aU aq aa g [.agg q] h=o (.inl (.bool (p y)),h)):∃n:Int,aU aq aa 166 [v,.fn g [] []] h=o (.inl (.int j n),h)/\decide (0<=n)=l.any p:=by
 suffices key:∃a',aU aq aa 166 [v,.fn g [] []] h=o (.inl a',h)/\∃n:Int,a'= .int j n/\decide (0<=n)=l.any p by obtain⟨_,e,n,rfl,R⟩:=key;exact⟨n,e,R⟩
 have xW:=(Z h).len;have qy:=(Z h).fits;refine RI asw rfl λQ cQ=>?_;unfold afq;simp only[ao,ar,av,ap,xW,qy];refine pN (λi V E=>∃b6 eY cz c7,V=[v,.fn g [] [],b6,eY,.int j l.length,.int j (i:Nat),cz,c7]/\aG h E/\(l.drop i).any p=l.any p) l.length ⟨_,_,_,_,rfl,aG.refl _,rfl⟩ ?_ ?_
 ·rintro i V E af ⟨b6,eY,cz,c7,rfl,g,an⟩ next
  have ba:(i:Int)<(l.length:Int):=by omega
  obtain⟨y,bH⟩:=tV af;obtain⟨a,q,i1,hh,cb⟩:=(Z E).bJ i y bH;have hw:=ew (n:=(i:Int)+1) (by omega) (by omega);have aw:=bo y (oK bH) q E cb;have bg:(l.drop i).any p=(p y||(l.drop (i+1)).any p):=by obtain⟨fb,rfl⟩:=fO.1 bH;rw[wM fb,List.any_cons]
  rw[bg]at an;cases ad:p y
  ·rw[ad]at aw an;rw[Bool.false_or]at an;rw[cy Mk.eq_1];simp only[ao,ar,av,ap,b2,bN,ou,ba,i1,hh _ (aG.refl E),aw,hw];exact next _ _ ⟨_,_,_,_,rfl,g,an⟩
  ·rw[ad]at aw an;rw[Bool.true_or]at an;rw[cy Mk.eq_1];simp only[ao,ar,av,ap,b2,bN,ou,ba,i1,hh _ (aG.refl E),aw];exact cQ _ _ _ _ rfl g rfl ⟨i,rfl,by rw[<-an];simp⟩
 ·rintro V E ⟨b6,eY,cz,c7,rfl,g,an⟩;have ba:¬((l.length:Int)<(l.length:Int)):=by omega
  rw[wN]at an;rw[cy Mk.eq_1];simp only[ao,ar,av,ap,b2,ba];exact cQ _ _ _ _ rfl g rfl ⟨-1,rfl,by rw[<-an];rfl⟩
theorem as1:∀(N:Nat) (x:ax),lz x<=N->x.size<=100000->∀(r:List F) (h:ai),bZ x r->aU aq aa 142 [.agg r] h=o (.inl (.bool x.gate),h):=by
 intro N;induction N with
 |zero=>intro x aF;have:=x.m';omega
 |succ N aR=>
   intro x aF fa r h he;obtain⟨v,es,rfl,aC,am⟩:=he.row;have a8:∀h,wD h v x.l:=λh=>wD.of aC am;have hlen:=x.q5;have bz:=(a8 h).one;have aw:∀h,aU aq aa 157 [v,.fn 142 [] []] h=o (.inl (.bool (xv x.l)),h):=by intro h;obtain⟨n,dj,ay⟩:=as0 (h:=h) v x.l a8 (by omega) 142 ax.gate (λy bH q h aX=>aR y (by have:=ax.nB bH;omega) (by have:=ax.ql bH;omega) q h aX);rw[abH,<-ay];refine nI asv rfl λQ cQ=>?_;unfold afp;simp only[ao,ar,av,ap,dj];exact cQ _ _ _ rfl (by repeat (first|exact aG.refl _|refine aG.trans ?_ (aG.push _ _)|refine aG.trans ?_ (aG.fresh _ _))) rfl
   rw[x.abG];refine nI asu rfl λQ cQ=>?_;unfold afo;cases ab:decide (x.kind=5)
   ·simp only[ao,ar,av,ap,bz,ab,aw];exact cQ _ _ _ rfl (by repeat (first|exact aG.refl _|refine aG.trans ?_ (aG.push _ _)|refine aG.trans ?_ (aG.fresh _ _))) (by rw[ab];rfl)
   ·simp only[ao,ar,av,ap,bz,ab];exact cQ _ _ _ rfl (by repeat (first|exact aG.refl _|refine aG.trans ?_ (aG.push _ _)|refine aG.trans ?_ (aG.fresh _ _))) (by rw[ab];rfl)
end
theorem EQ{e:a9}{b n m:Nat}(hm:m<=n):ru (.bw b 0 n e) ag (o (.int j (m:Int)))=o (.bw b 0 m e):=by simp[ru,vS,xd,hX,ti,hm]
abbrev a3:List F:=[.int j 0,.int j 0,.aJ]
section
variable{h E ak:ai}{ah al aO aL:Nat->Prop}{L:List cc}{bF a0 bp:Nat}{left:Int}{below:List jq}{top:jq}
theorem pS(f:jq)(a:List F)(s n g:F)(aV:a.length=3):(hI f a s n g)[6]? =o s/\(hI f a s n g).length=10/\(hI f a s n g)[7]? =o n/\(hI f a s n g)[9]? =o g/\(hI f a s n g)[8]? =o (.bool f.asked)/\(hI f a s n g)[0]? =o (.int j f.bu)/\(hI f a s n g)[1]? =o (.int j f.f)/\(hI f a s n g)[2]? =o (.int j (f.bU:Int)):=by
 match a,aV with
 |[x,y,z],_=>exact⟨rfl,rfl,rfl,rfl,rfl,rfl,rfl,rfl⟩
theorem MK{f:jq}{a:List F}{s n g:F}(aV:a.length=3/\a.all F.one=J)(aC:s.one=J)(aA:n.one=J)(a5:g.one=J):(hI f a s n g).all F.one=J:=by simp only[hI,List.all_append,aV.2,aC,aA,a5,qa,List.all_nil,rN];rfl
theorem af9(f:jq)(a:List F)(s n g ek:F)(st:List ax)(aV:a.length=3):(hI f a s n g).set 6 ek=hI {f with stack:=st} a ek n g:=by
 match a,aV with
 |[x,y,z],_=>rfl
theorem HP{α:Type}{A B:List α}{x:α}{k:Nat}(ab:A.length=k):(A++x::B)[k]? =o x:=adr A B x ab.symm
theorem af'{α:Type}{A B:List α}{x y:α}{k:Nat}(ab:A.length=k):(A++x::B).set k y=A++y::B:=RJ A B x y ab.symm
theorem as2(fB:aN ak aO aL h L)(i:Nat)(af:L[i]? =o (jO bF a0 bp left below top)){v:ax}{r:List F}(Z:bZ v r)(ad:below.length<=1000)(bW:top.stack.length<=1000000):∃E,aU aq aa pQ [.ptr bF 0 0,.agg r] h=o (.inl (.bS []),E)/\aN ak aO aL E (L.set i (jO bF a0 bp left below {top with stack:=top.stack++[v]})):=by refine fB.call (cJ:=λE=>aU aq aa pQ [.ptr bF 0 0,.agg r] h=o (.inl (.bS []),E)) i af λah al x=>?_;obtain⟨rs,ex,a,dS,aZ,g,hn,aV,a5,s⟩:=Ck x;have aY:=(s.h1 (aG.push h [r])).h1 (aG.push (h.push [r]) [r]);have aB:((h.push [r]).push [r]).cell (h.n+1)=o [r]:=hb;obtain⟨aj,be,bs⟩:=aY.app 2 rfl aB Z bW;have lV:=s.cell 0 rfl;have bR:=s.cell 1 rfl;have da:=(bs.cell 1 rfl).1;have jC:=pS top a dS aZ g aV.cV.1;have run:=asi (ek:=.bw ((h.push [r]).push [r]).n 0 (top.stack.length+1) bO) ad Z.cV lV.2 bR.2 lV.1 bR.1 (HP hn) jC.1 jC.2.1 be da rfl rfl;rw[af9 _ _ _ _ _ _ (top.stack++[v]) aV.cV.1,af' hn]at run;have bE:=bs.set 1 rfl [rs++hI {top with stack:=top.stack++[v]} a (.bw ((h.push [r]).push [r]).n 0 (top.stack.length+1) bO) aZ g::ex].flatten;exact⟨_,run,EB (top:={top with stack:=top.stack++[v]}) aV a5 (by simpa using bE)⟩
theorem ML{rs ex:List (List F)}{row Te:List F}{k D:Nat}{v:F}(an:R.cell bp=o (rs++row::ex))(ab:rs.length=k)(I:v.one=J)(Z:v.cells=[v])(ae:D<row.length)(au:row.set D v=Te):e0 1 R (.ptr bp k D) v=o (R.set bp (o (rs++Te::ex))):=by
 rw[lu an (HP ab) (by rw[Z];simpa using I) (by rw[Z];rfl) (by omega),af' ab,Z];have:dy row D [v]=Te:=by
  rw[<-au];unfold dy;refine List.ext_getElem? λi=>?_;have:=yV row [v] D i (by simp only[hj];omega);unfold dy at this;rw[this];by_cases e:i=D
  ·subst e;simp[ae]
  ·rw[if_neg (by simp only[hj];omega),uP (by omega)]
 rw[this]
theorem HQ{rs ex:List (List F)}{row:List F}{k D n:Nat}{v:F}(an:R.cell bp=o (rs++row::ex))(ab:rs.length=k)(au:row[D]? =o v):cR U n R (.ptr bp k D)=o v:=by rw[gb,an,du,HP ab,du,pI,au]
theorem as3(fB:aN ak aO aL h L)(i:Nat)(af:L[i]? =o (jO bF a0 bp left below top)){st:List ax}{v:ax}(bW:top.stack=st++[v])(ad:below.length<=1000)(am:st.length<=1000000):∃E,(∃r,aU aq aa 90 [.ptr bF 0 0] h=o (.inl (.agg r),E)/\bZ v r)/\aN ak aO aL E (L.set i (jO bF a0 bp left below {top with stack:=st})):=by
 refine fB.call (cJ:=λE=>∃r,aU aq aa 90 [.ptr bF 0 0] h=o (.inl (.agg r),E)/\bZ v r) i af λah al x=>?_;obtain⟨rs,ex,a,dS,aZ,g,hn,aV,a5,s⟩:=Ck x;have bd:=s.push [a3];obtain⟨eJ,eK,cb⟩:=bd.get 3 rfl;rw[bW]at cb;have hlen:(st++[v]).length=st.length+1:=by simp
 obtain⟨b,aga⟩:=adR cb (by simp);rw[hlen]at aga;subst aga;have rd:=Cn cb;obtain⟨p,r,dB,gm,iu⟩:=rd.2.2.2.2 j st.length v (by simp);have jC:=pS top a (.bw b 0 (st.length+1) bO) aZ g aV.cV.1;have w:kw j (((st.length+1:Nat):Int) - 1)=(st.length:Int):=Cf (by omega) (by omega) (by omega);have lC:=EQ (e:=bO) (b:=b) (n:=st.length+1) (m:=st.length) (by omega);have ec:=L3 (bd.cell 1 rfl).1 ad;have cD:=λn=>HQ (n:=n) (bd.cell 2 rfl).1 hn jC.1;have aY:=bd.push [a3];have bs:=bd.push [r];have jx:=λn=>HQ (n:=n) (bs.cell 3 rfl).1 hn jC.1;have agb:=ML (v:=.bw b 0 st.length bO) (bs.cell 3 rfl).1 hn rfl rfl (by rw[jC.2.1];decide) (af9 _ _ _ _ _ _ st aV.cV.1);have bE:=bs.set 3 rfl (rs++hI {top with stack:=st} a (.bw b 0 st.length bO) aZ g::ex);have aW:=(aY.cell 0 rfl).1;have eg:=(bE.cell 0 rfl).1;have fV:=(bE.cell 1 rfl).1;have b3:=bE.set 1 rfl [r];have h9:=(b3.cell 1 rfl).1;have v0:cd 6 (.ptr bp below.length 0)=o (.ptr bp below.length 6):=rfl;have c2:aN h ah al _ (G8 bF a0 bp left below {top with stack:=st} rs ex a (.bw b 0 st.length bO) aZ g):=b3.drop.drop.adS 2 rfl λ_ _ _ x=>by rw[bW]at x;exact adQ x
 refine⟨_,⟨r,?_,iu⟩,EB (top:={top with stack:=st}) aV a5 c2⟩;simp only[eC]at aW eg fV h9 agb jx;refine a4 arH rfl ?_;unfold adW;simp only[ao,ar,av,ap,bN,ec,cD,dB,gm,w,lC,iu.cV.1,iu.cV.2,aW,jx,agb,eg,fV,v0]
end
def agc:List bb:=[u2,.ops [bc,bc,ct,dC,aT,dc,hd,c6,.i .l (.build [.int j 0,.int j 0,.int j 0] [(0,1),(1,1),(2,1)] [(0,(.l 2)),(1,(.l 1)),(2,(.l 0))]),.i .l (.lx J 184 [.int j 0,.int j 0,.int j 0] 3 1 [(0,(.l 0))]),.i .l (.app J 184 (.l 5) (.l 0)),KZ,dC,lT],.ops [bc,ct,dC,aT,agd,nb,je],.ret]
theorem as4:cv aq aa 80 4 5 [0,1,2,3,8] agc [(.v 4)] U:=by refine⟨_,_,Tryz.func80,rfl,rfl,?_,?_,?_,?_,?_⟩<;>kernel_rfl
def age:List bb:=[.ops [bc,ct,dC,aT,dc,bc,ct,dC,aT,agd,.i .l (.fe (o 184) ag (.l 6) (.l 5)),g4,lT]]
theorem as5:cv aq aa 107 2 2 [0,1] age [] U:=by refine⟨_,_,Tryz.func107,rfl,rfl,?_,?_,?_,?_,?_⟩<;>kernel_rfl
def Tf:List bb:=[Mw,.cond (.v 10) [] [.exit 1],.block 2 [.ops [Tg,mR,.i (.v 5) Th,.i .n (.store 4 (.v 5) (.l 0))],.ops [bc,.i .l (.load J 4 (.v 5)),agf]],Mx]
def MM:List bb:=[.ops [.i (.v 2) (.box 4 (.v 1))],.ops [bc,.i .l (.call (.c (.fn 80 [] [])) [.l 0,.c (.int j 100),.c (.int j 0),.c (.int j 0)])],.ops [r3,Hr],.block 0 [.ops [afE,AN],.cond (.v 11) [agh,.ops [bc,.i .l (.call (.c (.fn 80 [] [])) [.l 0,.c (.int j 101),.c (.int j 0),.c (.int j 0)])],agi,.ops [bc,.i .l (.call (.c (.fn 80 [] [])) [.l 0,.c (.int j 102),.c (.int j 0),.c (.int j 0)])]] [.ops [.i .l (.bin (.int j) .eql (.v 6) (.c (.int j 7))),zm],.cond (.v 12) [agh,.ops [bc,.i .l (.call (.c (.fn 80 [] [])) [.l 0,.c (.int j 103),.c (.int j 0),.c (.int j 0)]),jA],agi,.ops [bc,.i .l (.call (.c (.fn 80 [] [])) [.l 0,.c (.int j 104),.c (.int j 0),.c (.int j 0)]),je],.ops [bc,c6,agj],.ops [bc,qA,aT,agk,mR,Ti],.ops [bc,fu,agj]] [.ops [qA,Hp,Tj,CE],.block 1 [.loop Tf],.ops [bc,r3,aT,nF,aT,tK,aT,.i .l (.call (.c (.fn 80 [] [])) [.l 6,.l 4,.l 2,.l 0])]]]]]
theorem Tk:cv aq aa 79 2 13 [0,1,3,4,5,7,11,13,14,15,16,31,49] MM [] U:=by refine⟨_,_,Tryz.func79,rfl,rfl,?_,?_,?_,?_,?_⟩<;>kernel_rfl
def Tl:List bb:=[Md,.cond (.v 12) [] [.exit 0],.block 1 [.ops [.i .l (.fe (o 109) ag (.v 9) (.v 11)),mR,agl,Tm],.ops [.i .l (.build [.aJ] [(0,1)] []),.i .l (.box 1 (.l 0)),nG],.ops [kH,Tn,agf],.ops [kH,.i .l (.call (.c (.fn 80 [] [])) [.l 0,.c (.int j 105),.c (.int j 0),.c (.int j 0)])],.ops [hV,kH,ct,dC,aT,.i .l (.lx U 174 [.aJ] 1 1 [(0,(.l 0))]),.i .l (.app U 174 (.l 5) (.l 0)),d8]],Me]
def MN:List bb:=[.ops [BT,HG,agm],.ops [To,.i .l (.call (.c (.fn 78 [] [])) [.l 0]),agn,ago],.ops [tT,aT,FS],.cond (.v 8) [.ops [.i .l (.load J 2 (.v 4)),HG,Tp],.ret] [],.ops [.i (.v 5) (.a8 (.c .aJ))],.ops [ii,afi,.i (.v 10) (.len U (o 109) (.v 9)),HF],.block 0 [.loop Tl],.ops [hV,EU,.i (.v 2) xV,Tp],.ret]
def agp:List bb:=[.ops [B3],.ops [bc,HR,cn,ac7,.g (.l 1) U .l (.bin (.int j) .gtr (.l 0) (.c (.int j 21))),.i (.v 2) Rp],.cond (.v 2) [.ops [agq],.ret] [],.ops [.i .l (.build [.int j 0,.int j 0,.int j 0,.int j 0,.int j 0,.int j 0,.int j 0,.int j 0,.int j 0,.int j 0,.int j 0,.int j 0,.int j 0,.int j 0,.int j 0,.int j 0,.int j 0,.int j 0,.int j 0,.int j 0,.int j 0,.int j 0] [(0,1),(1,1),(2,1),(3,1),(4,1),(5,1),(6,1),(7,1),(8,1),(9,1),(10,1),(11,1),(12,1),(13,1),(14,1),(15,1),(16,1),(17,1),(18,1),(19,1),(20,1),(21,1)] [(0,(.c (.int j 0))),(1,(.c (.int j 0))),(2,(.c (.int j 0))),(3,(.c (.int j 0))),(4,(.c (.int j 0))),(5,(.c (.int j 2))),(6,(.c (.int j 2))),(7,(.c (.int j 3))),(8,(.c (.int j 2))),(9,(.c (.int j 1))),(10,(.c (.int j 1))),(11,(.c (.int j 1))),(12,(.c (.int j 1))),(13,(.c (.int j 1))),(14,(.c (.int j 2))),(15,(.c (.int j 1))),(16,(.c (.int j 1))),(17,(.c (.int j 1))),(18,(.c (.int j 1))),(19,(.c (.int j 2))),(20,(.c (.int j 1))),(21,(.c (.int j 0)))]),bc,.i .l (.bJ U (o (22,(1,U))) (.l 1) (.l 0)),pK],.ret]
theorem as6:cv aq aa 123 1 3 [0,2,8] agp [(.v 1)] J:=by refine⟨_,_,Tryz.func123,rfl,rfl,?_,?_,?_,?_,?_⟩<;>kernel_rfl
def MO:List bb:=[.ops [dc,cn,wo,K1,Q0,zf,.g (.l 4) J .l SN,.i (.v 3) Rc],.cond (.v 3) [.ops [bc,hd,xQ,g4,lT]] []]
theorem Tq:cv aq aa 103 3 4 [0,1,2,13] MO [] U:=by refine⟨_,_,Tryz.func103,rfl,rfl,?_,?_,?_,?_,?_⟩<;>kernel_rfl
def agr:List bb:=[.ops [Tr,.i (.v 3) (.box 1 (.v 1)),Mp],.ops [.i .l (.load U 1 (.v 3)),rU,cn,.g (.l 0) J .l (.db 3 (.v 2)),nH,.g (.l 2) J .l (.Gk 122 [] [.v 3]),.g (.l 3) J .l (.call (.c (.fn 121 [] [])) [.l 1,.l 0]),K3,Em,je],.ret]
theorem as7:cv aq aa 104 2 5 [0,1,2,3,4] agr [(.v 4)] J:=by refine⟨_,_,Tryz.func104,rfl,rfl,?_,?_,?_,?_,?_⟩<;>kernel_rfl
def ags:List bb:=[.ops [Tr,GR],.ops [.i .l (.load J 4 (.v 2)),SJ,nb,.i .l (.call (.c (.fn 104 [] [])) [.l 2,.l 0]),wq,jA],.ret]
theorem as8:cv aq aa 122 2 4 [0,1,2,3] ags [(.v 3)] J:=by refine⟨_,_,Tryz.func122,rfl,rfl,?_,?_,?_,?_,?_⟩<;>kernel_rfl
def agt:List bb:=[pd,.ops [bc,dc,.i .l (.call (.c (.fn 141 [] [])) [.l 1,.l 0]),rU,jz],.ret]
theorem as9:cv aq aa 121 2 3 [0,1,4] agt [(.v 2)] J:=by refine⟨_,_,Tryz.func121,rfl,rfl,?_,?_,?_,?_,?_⟩<;>kernel_rfl
def HS:List bb:=[Ml,.cond (.v 6) [] [.exit 0],.block 1 [Mm,.ops [dc,bc,c6,wO,mR,SU],.cond (.v 7) [wu,.ret] []],Mn]
def agu:List bb:=[rT,.ops [bc,.i (.v 4) EV,pJ],.block 0 [.loop HS],Mo,.ret]
theorem as':cv aq aa 141 2 8 [0,1,4,5,7,8,9,16] agu [(.v 2)] J:=by refine⟨_,_,Tryz.func141,rfl,rfl,?_,?_,?_,?_,?_⟩<;>kernel_rfl
def MP:List bb:=[.ops [fu,qA,aT,qB,HC,cn,xE,ae9,ae'],.cond (.v 5) [] [.exit 0],.block 1 [.ops [qA,aT,fu,wO,mR,dc,.i .l (.call (.c (.fn 105 [] [])) [.l 1,.l 0]),pK]],Cz]
def agv:List bb:=[Ts,.ops [dc,nb,pK],u2,.block 0 [.loop MP],.ops [dc,jA],.ret]
theorem ata:cv aq aa 105 2 6 [0,1,2,4,5,16] agv [(.v 3)] J:=by refine⟨_,_,Tryz.func105,rfl,rfl,?_,?_,?_,?_,?_⟩<;>kernel_rfl
def agw:List bb:=[agx,.ops [bc,EP,aT,tP,cn,Tt,nH,MQ,zt,.i .l (.call (.c (.fn 103 [] [])) [.l 8,.l 0,.c (.int j 5)])],.ops [r5,.i (.v 4) oD],.block 0 [.ops [LP,d8],.cond (.v 5) [.ops [bc,oH,aT,qp,cn,zu,ld,MR,.g (.l 3) U .l (.bin (.int j) .geq (.l 1) (.l 0)),.i .l AF,.i .l (.call (.c (.fn 103 [] [])) [.l 9,.l 0,.c (.int j 1)])]] [.ops [.i .l (.bin (.int j) .eql (.v 4) (.c (.int j 6))),jM],.cond (.v 6) [.ops [bc,oH,aT,HR,cn,zu,ld,Mf,CC,.i .l (.call (.c (.fn 103 [] [])) [.l 8,.l 0,.c (.int j 1)])]] [.ops [.i .l (.bin (.int j) .eql (.v 4) (.c (.int j 15))),nG],.cond (.v 7) [.ops [bc,oH,aT,K2,wq,.i .l (.call (.c (.fn 103 [] [])) [.l 4,.l 0,.c (.int j 1)])]] [.ops [.i .l (.bin (.int j) .eql (.v 4) (.c (.int j 18))),kZ],.cond (.v 8) [.ops [bc,oH,aT,qp,cn,zu,ld,EW,MS,MT,.g (.l 5) U .l EX,MU,.g (.l 7) U .l EV,.g (.l 8) U .l (.bin (.int j) .geq (.l 6) (.l 0)),.i .l (.pick (.l 9) (.c (.bool J)) (.l 0)),.i .l (.call (.c (.fn 103 [] [])) [.l 14,.l 0,.c (.int j 1)])]] [.ops [bc,oH,aT,tP,.i .l (.call (.c (.fn 103 [] [])) [.l 3,.l 0,.c (.int j 5)])]]]]]]]
theorem In:cv aq aa 124 3 9 [0,1,2,4,17,23,36,48,56] agw [] U:=by refine⟨_,_,Tryz.func124,rfl,rfl,?_,?_,?_,?_,?_⟩<;>kernel_rfl
def EY:List bb:=[Mw,.cond (.v 10) [] [.exit 0],.block 1 [.ops [qt,Tg,mR,agl,.i (.v 5) (.a8 (.l 2)),Tm],.ops [bc,ct,g4,aT,.i (.v 11) n5],.cond (.v 11) [.ret] [],.ops [r5,aT,CB,cn,agy,agz,.i (.v 12) HT],.cond (.v 12) [.ops [bc,Tn,hd,oG,.i .l (.call (.c (.fn 106 [] [])) [.l 3,.l 2,.l 0])]] [.ops [bc,Tn,hd,.i .l (.call (.c (.fn 106 [] [])) [.l 2,.l 1,.l 0])]]],Mx]
def agA:List bb:=[agx,.ops [r5,aT,.i .l (.call (.c (.fn 123 [] [])) [.l 0]),je],.ops [bc,fu,qp,.i .l (.call (.c (.fn 103 [] [])) [.l 2,.l 0,.c (.int j 2)])],.ops [bc,MV,aT,qB,fu,Ha,.i .l (.call (.c (.fn 103 [] [])) [.l 5,.l 0,.c (.int j 5)])],.ops [bc,.i .l (.load J 4 (.v 3)),hd,.i .l (.call (.c (.fn 124 [] [])) [.l 2,.l 1,.l 0])],.ops [bc,r5,aT,CB,cn,MW,Tu,GS,.i .l (.call (.c (.fn 103 [] [])) [.l 7,.l 0,.c (.int j 3)])],.ops [MV,Hp,Tj,CE],.block 0 [.loop EY]]
theorem atb:cv aq aa 106 3 13 [0,1,2,4,6,7,8,37,38,39,40,48,55] agA [] U:=by refine⟨_,_,Tryz.func106,rfl,rfl,?_,?_,?_,?_,?_⟩<;>kernel_rfl
def MX:List bb:=[Mw,.cond (.v 10) [] [.exit 0],.block 1 [.ops [qt,Tg,mR,agB,.i (.v 3) (.a8 (.l 2)),agC],.ops [To,.i .l (.build [.aJ,.int j 0] [(0,1),(1,1)] [(0,(.l 0))]),K',d8],.ops [hV,EZ,.i .l (.call (.c (.fn 104 [] [])) [.l 0,.c (.int j 30)]),wq,.i .l (.call (.c (.fn 103 [] [])) [.l 3,.l 0,.c (.int j 4)])],.ops [hV,hV,ct,g4,aT,EI,cn,.g (.l 0) J .l (.load J 4 (.v 4)),.g (.l 1) J .l (.call (.c (.fn 105 [] [])) [.l 0,.c (.int j 120)]),Le,zt,.i .l (.call (.c (.fn 103 [] [])) [.l 10,.l 0,.c (.int j 3)])],.ops [hV,ct,g4,aT,Rd],.cond (.v 11) [.ops [hV,EZ,.i .l (.call (.c (.fn 106 [] [])) [.l 1,.l 0,.c (.int j 0)])]] [],.ops [hV,ct,g4,aT,.i (.v 12) n5],.cond (.v 12) [.ops [hV,ct,g4,aT,c6,agD,sX],.ret] []],Mx]
def agE:List bb:=[.ops [BT,MY],.ops [ii,aT,qB,EI,cn,CA,ld,agF,agG,agH],.cond (.v 6) [.ops [Tv,sX],.ret] [],.ops [ii,Hp,Tj,CE],.block 0 [.loop MX],.ops [EU,sX],.ret]
theorem atc:cv aq aa 78 1 13 [0,1,2,3,4,5,15,18,19,20,21,49,57] agE [(.cell J 2 2)] J:=by refine⟨_,_,Tryz.func78,rfl,rfl,?_,?_,?_,?_,?_⟩<;>kernel_rfl
def agI:List bb:=[.ops [MY],.ops [bc,dc,agD,sX],.ret]
theorem atd:cv aq aa 108 2 3 [0,1,4] agI [(.cell J 2 2)] J:=by refine⟨_,_,Tryz.func108,rfl,rfl,?_,?_,?_,?_,?_⟩<;>kernel_rfl
def agJ:List bb:=[.ops [B3],.ops [R5],.block 0 [.ops [.i .l (.bin (.int j) .eql (.v 2) (.c (.int j 1))),jA],.cond (.v 3) [] [.ops [.i .l (.bin (.int j) .eql (.v 2) (.c (.int j 2))),jA],.cond (.v 3) [] [.ops [.i .l (.bin (.int j) .eql (.v 2) (.c (.int j 3))),jA],.cond (.v 3) [] [.ops [.i .l (.bin (.int j) .eql (.v 2) (.c (.int j 4))),jA],.cond (.v 3) [] [.ops [.i .l (.bin (.int j) .eql (.v 2) (.c (.int j 21))),jA]]]]],.cond (.v 3) [.ops [B3],.ret] [.ops [.i .l (.bin (.int j) .eql (.v 2) (.c (.int j 9))),je],.cond (.v 4) [] [.ops [.i .l (.bin (.int j) .eql (.v 2) (.c (.int j 10))),je],.cond (.v 4) [] [.ops [.i .l (.bin (.int j) .eql (.v 2) (.c (.int j 11))),je],.cond (.v 4) [] [.ops [.i .l (.bin (.int j) .eql (.v 2) (.c (.int j 12))),je],.cond (.v 4) [] [.ops [.i .l (.bin (.int j) .eql (.v 2) (.c (.int j 13))),je],.cond (.v 4) [] [.ops [.i .l (.bin (.int j) .eql (.v 2) (.c (.int j 15))),je],.cond (.v 4) [] [.ops [.i .l (.bin (.int j) .eql (.v 2) (.c (.int j 16))),je],.cond (.v 4) [] [.ops [.i .l (.bin (.int j) .eql (.v 2) (.c (.int j 17))),je],.cond (.v 4) [] [.ops [.i .l (.bin (.int j) .eql (.v 2) (.c (.int j 18))),je],.cond (.v 4) [] [.ops [.i .l (.bin (.int j) .eql (.v 2) (.c (.int j 20))),je]]]]]]]]]],.cond (.v 4) [.ops [.i (.v 1) HU],.ret] [.ops [.i .l (.bin (.int j) .eql (.v 2) (.c (.int j 5))),d8],.cond (.v 5) [] [.ops [.i .l (.bin (.int j) .eql (.v 2) (.c (.int j 6))),d8],.cond (.v 5) [] [.ops [.i .l (.bin (.int j) .eql (.v 2) (.c (.int j 8))),d8],.cond (.v 5) [] [.ops [.i .l (.bin (.int j) .eql (.v 2) (.c (.int j 14))),d8],.cond (.v 5) [] [.ops [.i .l (.bin (.int j) .eql (.v 2) (.c (.int j 19))),d8]]]]],.cond (.v 5) [.ops [.i (.v 1) HJ],.ret] [.ops [.i .l (.bin (.int j) .eql (.v 2) (.c (.int j 7))),jM],.cond (.v 6) [.ops [.i (.v 1) (.a8 (.c (.int j 3)))],.ret] []]]]],.ops [agq],.ret]
theorem ate:cv aq aa 125 1 7 [0,2,3,4,10,21,27] agJ [(.v 1)] J:=by refine⟨_,_,Tryz.func125,rfl,rfl,?_,?_,?_,?_,?_⟩<;>kernel_rfl
def MZ:List bb:=[.ops [hV,qA,aT,qB,HC,cn,SX,ES,SY,.i (.v 7) Ca],.cond (.v 7) [] [.exit 0],.block 1 [.ops [Q8],.ops [dc,.i (.v 8) ac9],.cond (.v 8) [.ops [qA,aT,hV,wO,mR,dc,nb,.i .l (.call (.c (.fn 109 [] [])) [.l 2,.l 0]),.i .l (.bin (.int j) .add (.c (.int j 1)) (.l 0)),jM]] [],.ops [ky,fu,.i (.v 9) E0],.cond (.v 9) [.ops [ky,je]] []],Cb]
def agK:List bb:=[Ts,u2,xF,.block 0 [.loop MZ],HH,.ret]
theorem atf:cv aq aa 109 2 10 [0,1,2,4,5,6,7,17,21,33] agK [(.v 3)] J:=by refine⟨_,_,Tryz.func109,rfl,rfl,?_,?_,?_,?_,?_⟩<;>kernel_rfl
def M0:List bb:=[.ops [hV,qA,aT,qB,HC,cn,SX,ES,SY,afz],.cond (.v 6) [] [.exit 0],.block 1 [.ops [fu,qA,aT,hV,wO,mR,dc,fu,SZ,.i .l (.call (.c (.fn 81 [] [])) [.l 3,.l 0]),afA,je]],Cb]
def agL:List bb:=[Ts,LS,xF,.block 0 [.loop M0],HH,.ret]
theorem atg:cv aq aa 81 2 7 [0,1,2,4,5,6,16] agL [(.v 3)] J:=by refine⟨_,_,Tryz.func81,rfl,rfl,?_,?_,?_,?_,?_⟩<;>kernel_rfl
def AR:List bb:=[.ops [qt,ky,.i (.v 22) LQ],.cond (.v 22) [] [.exit 1],.block 2 [.ops [hd,va],.ops [tT,aT,CB,cn,.g (.l 0) J .l (.a8 (.v 9)),agz,.i (.v 23) HT],.cond (.v 23) [.ops [tS,oG,va]] [],.ops [EJ,Lz,aT,qt,wO,mR,tS,.i .l (.call (.c (.fn 110 [] [])) [.l 6,.l 1,.l 0]),AN],.ops [xU,.i (.v 24) n5],.cond (.v 24) [.ops [xU,d8],.ret] []],.ops [qt,oG,u']]
def agM:List bb:=[.ops [.i (.v 3) (.box 1 (.v 0)),.i (.v 4) (.box 4 (.v 1)),pJ],.ops [tT,aT,.i .l (.call (.c (.fn 125 [] [])) [.l 0]),jM],.ops [ky,.i (.v 12) Mc],.cond (.v 12) [.ops [.i (.v 5) HJ],.ret] [],.ops [Lz,aT,qB,ky,Ha,cn,.g (.l 0) U .l HM,ld,.g (.l 2) U .l n5,SO,.g (.l 0) J .l (.db 0 (.v 4)),nH,MQ,SP,.i (.v 13) SQ],.cond (.v 13) [.ops [HV],.ret] [],.ops [wv,rX],.ops [tT,.i (.v 14) oD],.block 0 [.ops [.i .l (.bin (.int j) .eql (.v 14) (.c (.int j 4))),Cr],.cond (.v 16) [.ops [hd,nb,kZ]] [.ops [.i .l (.bin (.int j) .eql (.v 14) (.c (.int j 6))),vb],.cond (.v 17) [.ops [.i (.v 7) HU,.i (.v 8) (.a8 (.c (.int j 5)))]] [.ops [.i .l (.bin (.int j) .eql (.v 14) (.c (.int j 15))),Hn],.cond (.v 18) [.ops [.i (.v 8) (.a8 (.c (.int j 15)))]] [.ops [.i .l (.bin (.int j) .eql (.v 14) (.c (.int j 18))),Ho],.cond (.v 19) [.ops [r5,aT,qB,nb,kZ]] [.ops [oE,aT,M1],.cond (.v 15) [.ops [HV],.ret] []]]]]],.ops [oE,aT,kH,Lx,cn,.g (.l 0) U .l (.db 1 (.v 4)),ld,.g (.l 2) U .l (.a8 (.v 8)),.g (.l 3) U .l E0,.i (.v 20) AF],.cond (.v 20) [.ops [GO],.ret] [],.ops [tT,aT,CB,cn,MW,Tu,.i (.v 21) HT],.cond (.v 21) [.ops [.i (.v 5) (.a8 (.c (.int j 3)))],.ret] [],.ops [CE],.block 1 [.loop AR],xF,.ret]
theorem ath:cv aq aa 110 3 25 [0,1,2,3,4,6,7,8,9,10,11,12,17,32,34,37,38,42,44,46,61,68,71,81,93] agM [(.v 5)] J:=by refine⟨_,_,Tryz.func110,rfl,rfl,?_,?_,?_,?_,?_⟩<;>kernel_rfl
def M3:List bb:=[.ops [c6,ii,aT,qB,.i (.v 7) HK],.cond (.v 7) [] [.exit 0],.block 1 [.ops [ii,aT,c6,wO,mR,agB,agC],.ops [EZ,.i .l (.call (.c (.fn 109 [] [])) [.l 0,.c (.int j 30)]),.i (.v 8) (.bin (.int j) .gtr (.l 0) (.c (.int j 30)))],.cond (.v 8) [.ops [c6,.i .l (.call (.c (.fn 108 [] [])) [.c (.int j 4),.l 0]),sX],.ret] [],.ops [EZ,.i .l (.call (.c (.fn 81 [] [])) [.l 0,.c (.int j 120)]),.i (.v 9) (.bin (.int j) .gtr (.l 0) (.c (.int j 120)))],.cond (.v 9) [.ops [c6,.i .l (.call (.c (.fn 108 [] [])) [.c (.int j 3),.l 0]),sX],.ret] [],.ops [To,EZ,.i .l (.call (.c (.fn 110 [] [])) [.l 1,.l 0,.c (.int j 0)]),d8],.ops [hV,.i (.v 10) n5],.cond (.v 10) [.ops [hV,c6,.i .l (.call (.c (.fn 108 [] [])) [.l 1,.l 0]),sX],.ret] []],wr]
def agN:List bb:=[.ops [BT,MY],.ops [ii,aT,qB,HR,cn,CA,ld,agF,agG,agH],.cond (.v 6) [.ops [.i .l (.call (.c (.fn 108 [] [])) [.c (.int j 3),.c (.int j (-1))]),sX],.ret] [],sL,.block 0 [.loop M3],.ops [EU,sX],.ret]
theorem ati:cv aq aa 82 1 11 [0,1,2,3,4,5,15,21,31,36,43] agN [(.cell J 2 2)] J:=by refine⟨_,_,Tryz.func82,rfl,rfl,?_,?_,?_,?_,?_⟩<;>kernel_rfl
def M4:List bb:=[.ops [c6,ii,aT,qB,Tw],.cond (.v 5) [] [.exit 0],.block 1 [.ops [ii,aT,c6,wO,mR,.i .l (.call (.c (.fn 81 [] [])) [.l 0,.c (.int j 600)]),.i (.v 6) (.bin (.int j) .gtr (.l 0) (.c (.int j 600)))],.cond (.v 6) [ER,.ret] []],wr]
def agO:List bb:=[.ops [BT,zo],.ops [ii,aT,qB,.i (.v 4) (.bin (.int j) .gtr (.l 0) (.c (.int j 20)))],.cond (.v 4) [ER,.ret] [],sL,.block 0 [.loop M4],pd,.ret]
theorem atj:cv aq aa 43 1 7 [0,1,2,3,7,12,21] agO [(.v 2)] J:=by refine⟨_,_,Tryz.func43,rfl,rfl,?_,?_,?_,?_,?_⟩<;>kernel_rfl
def M5:List bb:=[.ops [fu,.i .l (.db 3 (.v 1)),aT,qB,Tw],.cond (.v 5) [] [.exit 0],.block 1 [.ops [MV,aT,.i .l (.db 3 (.v 1)),aT,fu,wO,mR,agP,.ca [⟨ag,U,1,.l 7,(.l 6)⟩],agQ,.ca [⟨ag,U,1,.l 8,(.l 7)⟩],agR,MV,ze]],Cz]
def agS:List bb:=[.ops [.i (.v 1) (.box 4 (.v 0)),.i (.v 2) Th],.ops [ii,aT,Mi,aT,wL,aT,.i .l (.build [.int j 0,.int j 0,.int j 0,.aJ] [(0,1),(1,1),(2,1),(3,1)] [(0,(.l 4)),(1,(.l 2)),(2,(.l 0))]),.i (.v 3) Th,agT],u2,.block 0 [.loop M5],.ops [.i .l (.load J 4 (.v 3)),.i .n (.store 4 (.v 2) (.l 0))],.ret]
theorem atk:cv aq aa 111 1 6 [0,1,2,3,4,16] agS [(.cell J 4 2)] J:=by refine⟨_,_,Tryz.func111,rfl,rfl,?_,?_,?_,?_,?_⟩<;>kernel_rfl
def M6:List bb:=[.ops [fu,ii,aT,qB,Tw],.cond (.v 5) [] [.exit 0],.block 1 [.ops [r5,aT,ii,aT,fu,wO,mR,agP,.ca [⟨ag,U,1,.l 7,(.l 6)⟩],agQ,.ca [⟨ag,U,1,.l 8,(.l 7)⟩],agR,r5,ze]],Cz]
def agU:List bb:=[.ops [BT,.i (.v 2) GT],.ops [.i (.v 3) GT],u2,.block 0 [.loop M6],.ops [EJ,.i .n (.store 1 (.v 2) (.l 0))],.ret]
theorem atl:cv aq aa 83 1 6 [0,1,2,3,4,9] agU [(.cell J 1 2)] J:=by refine⟨_,_,Tryz.func83,rfl,rfl,?_,?_,?_,?_,?_⟩<;>kernel_rfl
theorem g3.len:∀{l:List bC} {es:List (List F)},g3 l es->es.length=l.length
 |[],es,h=>by simp only[g3]at h;subst h;rfl
 |x::l,es,h=>by simp only[g3]at h;obtain⟨r,rs,rfl,_,R⟩:=h;simp[g3.len R]
theorem g3.get:∀{l:List bC} {es:List (List F)} {i:Nat} {x:bC},g3 l es->l[i]? =o x->∃r,es[i]? =o r/\hq x r
 |[],es,i,x,h,aF=>by simp at aF
 |y::l,es,i,x,h,aF=>by
   simp only[g3]at h;obtain⟨r,rs,rfl,I,R⟩:=h;cases i with
   |zero=>
     obtain rfl:y=x:=by simpa using aF
     exact⟨r,rfl,I⟩
   |succ i=>simpa using g3.get R (by simpa using aF)
theorem g3.append{l:List bC}{x:bC}{r:List F}(h:g3 l es)(aF:hq x r):g3 (l++[x]) (es++[r]):=by
 induction l generalizing es with
 |nil=>simp only[g3]at h;subst h;simp[g3,aF]
 |cons y l aR=>simp only[g3]at h;obtain⟨q,rs,rfl,I,R⟩:=h;exact⟨q,rs++[r],rfl,I,aR R⟩
theorem hq.row{x:bC}{r:List F}(h:hq x r):∃v es,r=[.int j x.op,.int j x.k,.int j x.n,v]/\e9 gp v es/\g3 x.l es:=by
 cases x with
 |mk op k n l=>simp only[hq]at h;exact h
theorem hq.one{x:bC}{r:List F}(h:hq x r):r.all F.one=J/\r.length=4:=by obtain⟨v,es,rfl,Z,_⟩:=h.row;rcases Z with⟨_,rfl⟩|⟨id,rfl⟩<;>exact⟨rfl,rfl⟩
theorem hq.facts{x:bC}{r:List F}(h:hq x r):∃v es,r=[.int j x.op,.int j x.k,.int j x.n,v]/\gB gp v es/\v.one=J/\es.length=x.l.length/\∀(i:Nat) (y:bC),x.l[i]? =o y->∃q,dY (o gp) ag v (.int j (i:Int))=o (.ip q 0)/\fZ J 4 q 0=o (.agg q)/\hq y q:=by
 obtain⟨v,es,rfl,Z,am⟩:=h.row;refine⟨v,es,rfl,Z.dH,?_,am.len,λi y bH=>?_⟩
 ·rcases Z with⟨_,rfl⟩|⟨id,rfl⟩<;>rfl
 ·obtain⟨q,I,R⟩:=am.get bH;exact⟨q,Z.dH.bJ j i q I,gA R.one.2,R⟩
mutual
theorem agV:∀{x:bC} {r:List F},hq x r->∃br,p6 r=o br/\hq x br
 |.mk op k n l,r,h=>by
   simp only[hq]at h;obtain⟨v,es,rfl,Z,am⟩:=h;obtain⟨gS,I,R⟩:=Tx am;rcases Z with⟨rfl,rfl⟩|⟨id,rfl⟩
   ·exact⟨_,rfl,by simp only[hq];exact⟨_,[],rfl,.inl ⟨rfl,rfl⟩,am⟩⟩
   ·refine⟨[.int j op,.int j k,.int j n,.b5 ag gp gS],?_,?_⟩
    ·simp only[p6,dl,I,i3]
    ·simp only[hq];exact⟨_,gS,rfl,.inr ⟨_,rfl⟩,R⟩
theorem Tx:∀{l:List bC} {es:List (List F)},g3 l es->∃gS,rz es=o gS/\g3 l gS
 |[],es,h=>by simp only[g3]at h;subst h;exact⟨[],rfl,rfl⟩
 |x::l,es,h=>by simp only[g3]at h;obtain⟨r,rs,rfl,I,R⟩:=h;obtain⟨br,bR,bQ⟩:=agV I;obtain⟨tC,da,eS⟩:=Tx R;exact⟨br::tC,by simp only[rz,bR,da],by simp only[g3];exact⟨br,tC,rfl,bQ,eS⟩⟩
end
theorem atm:G6 aq gp=o [3,3,2,78]:=by kernel_rfl
theorem agW:(aq).underlying 3=o (.int j):=by kernel_rfl
theorem atn:(aq).underlying 2=o (.int j):=by kernel_rfl
theorem agX:(aq).underlying 78=o (.slice gp):=by kernel_rfl
theorem ato:∀(n:Nat) (r:List F),n1 aq n gp r->∃x,hq x r:=by
 intro n;induction n using Nat.strongRecOn with
 |ind n aR=>
   intro r h;obtain⟨m,rfl,parts,rfl,am,bo⟩:=R2 atm h;obtain⟨en,jI,_,iy⟩:=bo 0 _ rfl;obtain⟨dB,aP,_,cg⟩:=bo 1 _ rfl;obtain⟨gm,a2,_,c0⟩:=bo 2 _ rfl;obtain⟨iu,bl,_,fq⟩:=bo 3 _ rfl;obtain⟨op,rfl,_⟩:=wC agW iy;obtain⟨k,rfl,_⟩:=wC agW cg;obtain⟨z,rfl,_⟩:=wC atn c0;obtain⟨bf,v,es,rfl,rfl,Z,_,au⟩:=R1 agX fq;obtain⟨cB,aW,bD,cl,rfl⟩:=arA am;simp only[oq,sz,iF]at jI aP a2 bl;subst jI aP a2 bl;have key:∀es:List (List F),(∀r∈es,∃x,hq x r)->∃l,g3 l es:=by
    intro es;induction es with
    |nil=>intro _;exact⟨[],rfl⟩
    |cons r es sr=>intro bA;obtain⟨x,aF⟩:=bA r (by simp);obtain⟨l,am⟩:=sr λq aX=>bA q (by simp[aX]);exact⟨x::l,by simp only[g3];exact⟨r,es,rfl,aF,am⟩⟩
   obtain⟨l,am⟩:=key es λr hR=>aR bf (by omega) r (au r hR).2;exact⟨.mk op k z l,by simp only[hq];exact⟨v,es,rfl,Z.EA,am⟩⟩
def agY(l:List bC)(r:List F):Prop:=∃v es,r=[v]/\e9 gp v es/\g3 l es
theorem atp:G6 aq 80=o [78]:=by kernel_rfl
theorem atq{n:Nat}{r:List F}(h:n1 aq n 80 r):∃l,agY l r:=by
 obtain⟨m,rfl,parts,rfl,am,bo⟩:=R2 atp h;obtain⟨en,jI,_,iy⟩:=bo 0 _ rfl;obtain⟨bf,v,es,rfl,rfl,Z,_,au⟩:=R1 agX iy;obtain⟨cB,rfl⟩:=arx am;simp only[oq,iF]at jI;subst jI;have key:∀es:List (List F),(∀r∈es,∃x,hq x r)->∃l,g3 l es:=by
  intro es;induction es with
  |nil=>intro _;exact⟨[],rfl⟩
  |cons r es sr=>intro bA;obtain⟨x,aF⟩:=bA r (by simp);obtain⟨l,am⟩:=sr λq aX=>bA q (by simp[aX]);exact⟨x::l,by simp only[g3];exact⟨r,es,rfl,aF,am⟩⟩
 obtain⟨l,am⟩:=key es λr hR=>ato bf r (au r hR).2;exact⟨l,v,es,rfl,Z.EA,am⟩
section
variable{h:ai}
theorem agZ{op:Int}(I:¬op<1)(R:¬21<op):op=1\/op=2\/op=3\/op=4\/op=5\/op=6\/op=7\/op=8\/op=9\/op=10\/op=11\/op=12\/op=13\/op=14\/op=15\/op=16\/op=17\/op=18\/op=19\/op=20\/op=21:=by omega
theorem atr(op:Int):aU aq aa 123 [.int j op] h=o (.inl (.int j (gw op)),h):=by
 refine a4 as6 rfl ?_;unfold agp;by_cases I:op<1
 ·have:gw op= -1:=by unfold gw;split<;>omega
  simp only[ao,ar,av,ap,bY,I,this,dE (aG.refl h) (rfl:dl (.int j (-1))=_)]
 ·by_cases R:21<op
  ·have:gw op= -1:=by unfold gw;split<;>omega
   simp only[ao,ar,av,ap,bY,I,R,this,dE (aG.refl h) (rfl:dl (.int j (-1))=_)]
  ·have fv:Gn U (o (22,(1,U))) (.agg [(.int j 0),(.int j 0),(.int j 0),(.int j 0),(.int j 0),(.int j 2),(.int j 2),(.int j 3),(.int j 2),(.int j 1),(.int j 1),(.int j 1),(.int j 1),(.int j 1),(.int j 2),(.int j 1),(.int j 1),(.int j 1),(.int j 1),(.int j 2),(.int j 1),(.int j 0)]) (.int j op)=o (.int j (gw op)):=by rcases agZ I R with rfl|rfl|rfl|rfl|rfl|rfl|rfl|rfl|rfl|rfl|rfl|rfl|rfl|rfl|rfl|rfl|rfl|rfl|rfl|rfl|rfl<;>rfl
   simp only[ao,ar,av,ap,bY,I,R,fv]
end
section
variable{h:ai}
theorem ats(x:bC)(v:F)(es:List (List F))(am:gB gp v es)(aA:es.length=x.l.length)(Z:v.one=J)(df:Int)(ak:0<=df)(hm:df<=100000)(fv:∀(i:Nat) (y:bC),x.l[i]? =o y->∃q,dY (o gp) ag v (.int j (i:Int))=o (.ip q 0)/\fZ J 4 q 0=o (.agg q)/\hq y q)(an:∀y∈x.l,∀(q:List F) (h:ai) (m:Int),hq y q->0<=m->m<=100000->aU aq aa 81 [.agg q,.int j m] h=o (.inl (.int j (min (y.size:Int) (m+1))),h))(fJ eY:F)(K:List j0):∀(l pre:List bC) (cz:F),x.l=pre++l->∃gs hJ,bB (aU aq aa) 7 (.eM M0::.bP []::.cu 0::K) [fJ,.int j df,.ptr h.n 0 0,eY,.int j (min (1+(fW pre:Int)) (df+1)),.int j pre.length,cz] [] (h.push [[.int j x.op,.int j x.k,.int j x.n,v]])=bB (aU aq aa) 7 K [fJ,.int j df,.ptr h.n 0 0,eY,.int j (min (x.size:Int) (df+1)),gs,hJ] [] (h.push [[.int j x.op,.int j x.k,.int j x.n,v]]):=by
 intro l;induction l with
 |nil=>
   intro pre cz e;have dT:x.l=pre:=by simpa using e
   have ba:¬((pre.length:Int)<(es.length:Int)):=by rw[aA,dT];omega
   refine⟨.int j pre.length,.bool U,?_⟩;rw[cy M0.eq_1];have es:(1+(fW pre:Int))=(x.size:Int):=by rw[x.size_eq,dT];omega
   simp only[ao,ar,av,ap,b2,am.len,am.fits,ba,es]
 |cons y l aR=>
   intro pre cz e;have ba:(pre.length:Int)<(es.length:Int):=by rw[aA,e];simp;omega
   obtain⟨q,i1,hh,iM⟩:=fv pre.length y (by rw[e];simp);have fa:(x.size:Int)=1+(fW pre:Int)+(y.size:Int)+(fW l:Int):=by rw[x.size_eq,e,Gx];simp[fW];omega
   have att:=y.size_pos;have hlen:=x.q5;rw[cy M0.eq_1];by_cases hle:min (1+(fW pre:Int)) (df+1)<=df
   ·have qC:min (1+(fW pre:Int)) (df+1)=1+(fW pre:Int):=by omega
    rw[qC]at hle;have iS:(pre.length:Int)<=fW pre:=by
     have:∀l:List bC,l.length<=fW l:=by
      intro l;induction l with
      |nil=>simp
      |cons y l aR=>have:=y.size_pos;simp only[fW,ho];omega
     have:=this pre;omega
    have gT:=ew (n:=df - (1+(fW pre:Int))) (by omega) (by omega);have pO:=ew (n:=(1+(fW pre:Int))+min (y.size:Int) (df - (1+(fW pre:Int))+1)) (by omega) (by omega);have tM:=ew (n:=(pre.length:Int)+1) (by omega) (by omega);have hU:=an y (by rw[e];simp) q (h.push [[.int j x.op,.int j x.k,.int j x.n,v]]) (df - (1+(fW pre:Int))) iM (by omega) (by omega);obtain⟨gs,hJ,bx⟩:=aR (pre++[y]) (.bool J) (by simp[e]);have ay:((pre++[y]).length:Int)=(pre.length:Int)+1:=by simp
    have be:min (1+(fW (pre++[y]):Int)) (df+1)=(1+(fW pre:Int))+min (y.size:Int) (df - (1+(fW pre:Int))+1):=by rw[Gx,abC];omega
    rw[ay,be]at bx;refine⟨gs,hJ,?_⟩;simp only[ao,ar,av,ap,b2,am.len,am.fits,ba,qC,hle,i1,hh,gT,hU,pO,tM];exact bx
   ·have qC:min (1+(fW pre:Int)) (df+1)=df+1:=by omega
    have HW:min (x.size:Int) (df+1)=df+1:=by omega
    have gF:¬(df+1<=df):=by omega
    refine⟨.int j pre.length,.bool U,?_⟩;simp only[ao,ar,av,ap,b2,am.len,am.fits,ba,qC,HW,gF]
theorem ag0:∀(N:Nat) (x:bC),lz x<=N->∀(r:List F) (h:ai) (df:Int),hq x r->0<=df->df<=100000->aU aq aa 81 [.agg r,.int j df] h=o (.inl (.int j (min (x.size:Int) (df+1))),h):=by
 intro N;induction N with
 |zero=>intro x aF;have:=x.m';omega
 |succ N aR=>
   intro x aF r h df he ak hm;obtain⟨v,es,rfl,am,Z,aA,fv⟩:=he.facts;obtain⟨gs,hJ,bx⟩:=ats (h:=h) x v es am aA Z df ak hm fv (λy bH q h m aX=>aR y (by have:=bC.nB bH;omega) q h m aX) (.agg [.int j x.op,.int j x.k,.int j x.n,v]) (.int j 0) [.bP [.ops [fu,jA],.ret]] x.l [] .aD rfl;have em:min (1+(fW []:Int)) (df+1)=1:=by simp only[fW];omega
   rw[em]at bx;simp only[fG,j']at bx;refine a4 atg rfl ?_;unfold agL;simp only[ao,ar,av,ap,Z,bx,dE (aG.push h _) (rfl:dl (.int j (min (x.size:Int) (df+1)))=_)]
theorem atu(x:bC)(v:F)(es:List (List F))(am:gB gp v es)(aA:es.length=x.l.length)(Z:v.one=J)(df:Int)(ak:0<=df)(hm:df<=100000)(bo:x.l.length<=100000)(fv:∀(i:Nat) (y:bC),x.l[i]? =o y->∃q,dY (o gp) ag v (.int j (i:Int))=o (.ip q 0)/\fZ J 4 q 0=o (.agg q)/\hq y q)(an:∀y∈x.l,∀(q:List F) (h:ai) (m:Int),hq y q->0<=m->m<=100000->aU aq aa 109 [.agg q,.int j m] h=o (.inl (.int j (min (y.depth:Int) (m+1))),h))(fJ eY:F)(K:List j0):∀(l pre:List bC) (cz c7 dz eD:F),x.l=pre++l->∃gs hJ iA pT nf,bB (aU aq aa) 10 (.eM MZ::.bP []::.cu 0::K) [fJ,.int j df,.ptr h.n 0 0,eY,.int j (min (j1 pre:Int) (df+1)),.int j pre.length,cz,c7,dz,eD] [] (h.push [[.int j x.op,.int j x.k,.int j x.n,v]])=bB (aU aq aa) 10 K [fJ,.int j df,.ptr h.n 0 0,eY,.int j (min (x.depth:Int) (df+1)),gs,hJ,iA,pT,nf] [] (h.push [[.int j x.op,.int j x.k,.int j x.n,v]]):=by
 intro l;induction l with
 |nil=>
   intro pre cz c7 dz eD e;have dT:x.l=pre:=by simpa using e
   have ba:¬((pre.length:Int)<(es.length:Int)):=by rw[aA,dT];omega
   refine⟨.int j pre.length,cz,.bool U,dz,eD,?_⟩;rw[cy MZ.eq_1];have es:j1 pre=x.depth:=by rw[x.Qp,dT]
   simp only[ao,ar,av,ap,b2,am.len,am.fits,ba,es]
 |cons y l aR=>
   intro pre cz c7 dz eD e;have ba:(pre.length:Int)<(es.length:Int):=by rw[aA,e];simp;omega
   obtain⟨q,i1,hh,iM⟩:=fv pre.length y (by rw[e];simp);have aDL:x.depth=max (j1 pre) (max (1+y.depth) (j1 l)):=by rw[x.Qp,e,Qq];simp[j1]
   have iS:pre.length<=100000:=by rw[e]at bo;simp at bo;omega
   have tM:=ew (n:=(pre.length:Int)+1) (by omega) (by omega);rw[cy MZ.eq_1];by_cases hle:min (j1 pre:Int) (df+1)<=df
   ·have qC:min (j1 pre:Int) (df+1)=(j1 pre:Int):=by omega
    rw[qC]at hle;obtain⟨gs,hJ,iA,pT,nf,bx⟩:=aR (pre++[y]) (.int j (1+min (y.depth:Int) df)) (.bool J) (.bool (decide (0<df))) (.bool (decide ((j1 pre:Int)<1+min (y.depth:Int) df))) (by simp[e]);have ay:((pre++[y]).length:Int)=(pre.length:Int)+1:=by simp
    have be:min (j1 (pre++[y]):Int) (df+1)=max (j1 pre:Int) (1+min (y.depth:Int) df):=by rw[Qq,apW];omega
    rw[ay,be]at bx;have pO:=ew (n:=1+min (y.depth:Int) df) (by omega) (by omega);refine⟨gs,hJ,iA,pT,nf,?_⟩;by_cases az:0<df
    ·have gT:=ew (n:=df - 1) (by omega) (by omega);have hU:=an y (by rw[e];simp) q (h.push [[.int j x.op,.int j x.k,.int j x.n,v]]) (df - 1) iM (by omega) (by omega);rw[show df - 1+1=df by omega]at hU;by_cases ad:(j1 pre:Int)<1+min (y.depth:Int) df
     ·have b1:max (j1 pre:Int) (1+min (y.depth:Int) df)=1+min (y.depth:Int) df:=by omega
      simp only[az,ad,b1,decide_true]at bx;simp only[ao,ar,av,ap,b2,am.len,am.fits,ba,qC,hle,az,i1,hh,gT,hU,pO,ad,tM];exact bx
     ·have b1:max (j1 pre:Int) (1+min (y.depth:Int) df)=(j1 pre:Int):=by omega
      simp only[az,ad,b1,decide_true,decide_false]at bx;simp only[ao,ar,av,ap,b2,am.len,am.fits,ba,qC,hle,az,i1,hh,gT,hU,pO,ad,tM];exact bx
    ·have aB:min (y.depth:Int) df=0:=by omega
     rw[aB]at bx;simp only[Int.add_zero]at bx;by_cases ad:(j1 pre:Int)<1
     ·have b1:max (j1 pre:Int) 1=1:=by omega
      simp only[az,ad,b1,decide_true,decide_false]at bx;simp only[ao,ar,av,ap,b2,am.len,am.fits,ba,qC,hle,az,ad,tM];exact bx
     ·have b1:max (j1 pre:Int) 1=(j1 pre:Int):=by omega
      simp only[az,ad,b1,decide_false]at bx;simp only[ao,ar,av,ap,b2,am.len,am.fits,ba,qC,hle,az,ad,tM];exact bx
   ·have qC:min (j1 pre:Int) (df+1)=df+1:=by omega
    have HW:min (x.depth:Int) (df+1)=df+1:=by omega
    have gF:¬(df+1<=df):=by omega
    refine⟨.int j pre.length,cz,.bool U,dz,eD,?_⟩;simp only[ao,ar,av,ap,b2,am.len,am.fits,ba,qC,HW,gF]
theorem bC.ql{x y:bC}(h:y∈x.l):y.size<x.size:=by
 have:∀l:List bC,y∈l->y.size<=fW l:=by
  intro l;induction l with
  |nil=>intro hm;simp at hm
  |cons z l aR=>
    intro hm;simp only[fW];rcases mJ.1 hm with rfl|hm
    ·omega
    ·have:=aR hm;omega
 have:=this x.l h;rw[x.size_eq];omega
theorem atv:∀(N:Nat) (x:bC),lz x<=N->x.size<=100000->∀(r:List F) (h:ai) (df:Int),hq x r->0<=df->df<=100000->aU aq aa 109 [.agg r,.int j df] h=o (.inl (.int j (min (x.depth:Int) (df+1))),h):=by
 intro N;induction N with
 |zero=>intro x aF;have:=x.m';omega
 |succ N aR=>
   intro x aF fa r h df he ak hm;obtain⟨v,es,rfl,am,Z,aA,fv⟩:=he.facts;have hlen:=x.q5;obtain⟨gs,hJ,iA,pT,nf,bx⟩:=atu (h:=h) x v es am aA Z df ak hm (by omega) fv (λy bH q h m aX=>aR y (by have:=bC.nB bH;omega) (by have:=bC.ql bH;omega) q h m aX) (.agg [.int j x.op,.int j x.k,.int j x.n,v]) (.int j 0) [.bP [.ops [fu,jA],.ret]] x.l [] .aD .aD .aD .aD rfl;have em:min (j1 []:Int) (df+1)=0:=by simp only[j1];omega
   rw[em]at bx;simp only[fG,j']at bx;refine a4 atf rfl ?_;unfold agK;simp only[ao,ar,av,ap,Z,bx,dE (aG.push h _) (rfl:dl (.int j (min (x.depth:Int) (df+1)))=_)]
theorem atw(x:bC)(v:F)(es:List (List F))(am:gB gp v es)(aA:es.length=x.l.length)(Z:v.one=J)(c:Int)(ak:0<=c)(hm:c<=100000)(fv:∀(i:Nat) (y:bC),x.l[i]? =o y->∃q,dY (o gp) ag v (.int j (i:Int))=o (.ip q 0)/\fZ J 4 q 0=o (.agg q)/\hq y q)(an:∀y∈x.l,∀(q:List F) (h:ai) (m:Int),hq y q->0<=m->m<=100000->aU aq aa 105 [.agg q,.int j m] h=o (.inl (.int j (max (m - y.size) (-1))),h))(fJ eY:F)(K:List j0):∀(l pre:List bC) (b4:F),x.l=pre++l->∃h8 gs,bB (aU aq aa) 6 (.eM MP::.bP []::.cu 0::K) [fJ,.int j (max (c - 1 - fW pre) (-1)),.ptr h.n 0 0,eY,.int j pre.length,b4] [] (h.push [[.int j x.op,.int j x.k,.int j x.n,v]])=bB (aU aq aa) 6 K [fJ,.int j (max (c - x.size) (-1)),.ptr h.n 0 0,eY,h8,gs] [] (h.push [[.int j x.op,.int j x.k,.int j x.n,v]]):=by
 intro l;induction l with
 |nil=>
   intro pre b4 e;have dT:x.l=pre:=by simpa using e
   have ba:¬((pre.length:Int)<(es.length:Int)):=by rw[aA,dT];omega
   refine⟨.int j pre.length,.bool U,?_⟩;rw[cy MP.eq_1];have es:c - 1 - (fW pre:Int)=c - x.size:=by rw[x.size_eq,dT];omega
   simp only[ao,ar,av,ap,b2,am.len,am.fits,ba,es]
 |cons y l aR=>
   intro pre b4 e;have ba:(pre.length:Int)<(es.length:Int):=by rw[aA,e];simp;omega
   obtain⟨q,i1,hh,iM⟩:=fv pre.length y (by rw[e];simp);have fa:(x.size:Int)=1+(fW pre:Int)+(y.size:Int)+(fW l:Int):=by rw[x.size_eq,e,Gx];simp[fW];omega
   have att:=y.size_pos;rw[cy MP.eq_1];by_cases hle:0<=max (c - 1 - (fW pre:Int)) (-1)
   ·have qC:max (c - 1 - (fW pre:Int)) (-1)=c - 1 - (fW pre:Int):=by omega
    rw[qC]at hle;have iS:(pre.length:Int)<=fW pre:=by
     have:∀l:List bC,l.length<=fW l:=by
      intro l;induction l with
      |nil=>simp
      |cons y l aR=>have:=y.size_pos;simp only[fW,ho];omega
     have:=this pre;omega
    have tM:=ew (n:=(pre.length:Int)+1) (by omega) (by omega);have hU:=an y (by rw[e];simp) q (h.push [[.int j x.op,.int j x.k,.int j x.n,v]]) (c - 1 - (fW pre:Int)) iM (by omega) (by omega);obtain⟨h8,gs,bx⟩:=aR (pre++[y]) (.bool J) (by simp[e]);have ay:((pre++[y]).length:Int)=(pre.length:Int)+1:=by simp
    have be:max (c - 1 - (fW (pre++[y]):Int)) (-1)=max (c - 1 - (fW pre:Int) - (y.size:Int)) (-1):=by rw[Gx,abC];omega
    rw[ay,be]at bx;refine⟨h8,gs,?_⟩;simp only[ao,ar,av,ap,b2,am.len,am.fits,ba,qC,hle,i1,hh,hU,tM];exact bx
   ·have qC:max (c - 1 - (fW pre:Int)) (-1)= -1:=by omega
    have HW:max (c - (x.size:Int)) (-1)= -1:=by omega
    have gF:¬((0:Int)<= -1):=by omega
    refine⟨.int j pre.length,.bool U,?_⟩;simp only[ao,ar,av,ap,b2,am.len,am.fits,ba,qC,HW,gF]
theorem LT:∀(N:Nat) (x:bC),lz x<=N->∀(r:List F) (h:ai) (c:Int),hq x r->0<=c->c<=100000->aU aq aa 105 [.agg r,.int j c] h=o (.inl (.int j (max (c - x.size) (-1))),h):=by
 intro N;induction N with
 |zero=>intro x aF;have:=x.m';omega
 |succ N aR=>
   intro x aF r h c he ak hm;obtain⟨v,es,rfl,am,Z,aA,fv⟩:=he.facts;obtain⟨h8,gs,bx⟩:=atw (h:=h) x v es am aA Z c ak hm fv (λy bH q h m aX=>aR y (by have:=bC.nB bH;omega) q h m aX) (.agg [.int j x.op,.int j x.k,.int j x.n,v]) (.int j 0) [.bP [.ops [dc,jA],.ret]] x.l [] .aD rfl;have em:max (c - 1 - (fW []:Int)) (-1)=c - 1:=by simp only[fW];omega
   rw[em]at bx;simp only[fG,j']at bx;have hw:=ew (n:=c - 1) (by omega) (by omega);refine a4 ata rfl ?_;unfold agv;simp only[ao,ar,av,ap,Z,hw,bx,dE (aG.push h _) (rfl:dl (.int j (max (c - x.size) (-1)))=_)]
end
structure iW(h:ai)(v:F)(l:List bC):Prop where
 len:hX v=o l.length
 fits:∀s,kE s (o gp) v=J
 one:v.one=J
 bJ:∀(i:Nat) (y:bC),l[i]? =o y->∃a q,dY (o gp) ag v (.int j (i:Int))=o a/\(∀E,aG h E->cR J 4 E a=o (.agg q))/\hq y q
theorem iW.of{h:ai}{v:F}{l:List bC}(Z:e9 gp v es)(am:g3 l es):iW h v l:=by
 refine⟨?_,Z.dH.fits,?_,λi y bH=>?_⟩
 ·rw[<-am.len];exact Z.dH.len
 ·rcases Z with⟨_,rfl⟩|⟨id,rfl⟩<;>rfl
 ·obtain⟨q,I,R⟩:=am.get bH;exact⟨.ip q 0,q,Z.dH.bJ j i q I,λE _=>gA R.one.2,R⟩
section
variable{h:ai}
theorem atx(op:Int):aU aq aa 125 [.int j op] h=o (.inl (.int j (gw op)),h):=by
 refine a4 ate rfl ?_;unfold agJ;by_cases I:op<1
 ·have aA:∀k:Int,1<=k->decide (op=k)=U:=λk ab=>by rw[decide_eq_false_iff_not];omega
  have:gw op= -1:=by unfold gw;split<;>omega
  simp only[ao,ar,av,ap,this,aA 1 (by omega),aA 2 (by omega),aA 3 (by omega),aA 4 (by omega),aA 5 (by omega),aA 6 (by omega),aA 7 (by omega),aA 8 (by omega),aA 9 (by omega),aA 10 (by omega),aA 11 (by omega),aA 12 (by omega),aA 13 (by omega),aA 14 (by omega),aA 15 (by omega),aA 16 (by omega),aA 17 (by omega),aA 18 (by omega),aA 19 (by omega),aA 20 (by omega),aA 21 (by omega)]
 ·by_cases R:21<op
  ·have aA:∀k:Int,k<=21->decide (op=k)=U:=λk ab=>by rw[decide_eq_false_iff_not];omega
   have:gw op= -1:=by unfold gw;split<;>omega
   simp only[ao,ar,av,ap,this,aA 1 (by omega),aA 2 (by omega),aA 3 (by omega),aA 4 (by omega),aA 5 (by omega),aA 6 (by omega),aA 7 (by omega),aA 8 (by omega),aA 9 (by omega),aA 10 (by omega),aA 11 (by omega),aA 12 (by omega),aA 13 (by omega),aA 14 (by omega),aA 15 (by omega),aA 16 (by omega),aA 17 (by omega),aA 18 (by omega),aA 19 (by omega),aA 20 (by omega),aA 21 (by omega)]
  ·rcases agZ I R with rfl|rfl|rfl|rfl|rfl|rfl|rfl|rfl|rfl|rfl|rfl|rfl|rfl|rfl|rfl|rfl|rfl|rfl|rfl|rfl|rfl<;> (simp only[ao,ar,av,ap,cN];rfl)
theorem HX(c a:Int):aU aq aa 108 [.int j c,.int j a] h=o (.inl (.agg [.int j c,.int j a]),h):=by refine a4 atd rfl ?_;unfold agI;simp only[ao,ar,av,ap,bY,dE (aG.push h _) (rfl:dl (.agg [.int j c,.int j a])=_)]
theorem aty(v:F)(L:List bC)(Z:iW h v L)(c1:L.length<=20)(fJ dL:F):∀(l pre:List bC) (b4 cz:F),L=pre++l->m7 J [.v 2] h (bB (aU aq aa) 7 [.eM M4,.bP [],.cu 0,.bP [.ops [zo],.ret]] [fJ,.ptr h.n 0 0,.bool U,.int j pre.length,dL,b4,cz] [] (h.push [[v]]))=o (.inl (.bool (l.any λx=>decide (600<x.size))),h):=by
 intro l;induction l with
 |nil=>
   intro pre b4 cz e;have dT:L=pre:=by simpa using e
   have ba:¬((pre.length:Int)<(L.length:Int)):=by rw[dT];omega
   rw[cy M4.eq_1];simp only[ao,ar,av,ap,b2,Z.len,Z.fits,ba,List.any_nil,dE (aG.push h _) (rfl:dl (.bool U)=_)]
 |cons y l aR=>
   intro pre b4 cz e;have ba:(pre.length:Int)<(L.length:Int):=by rw[e];simp;omega
   obtain⟨a,q,i1,hh,iM⟩:=Z.bJ pre.length y (by rw[e];simp);have ko:=hh _ (aG.push h [[v]]);have hU:=ag0 _ y (b9 _) q (h.push [[v]]) 600 iM (by omega) (by omega);have hw:=ew (n:=(pre.length:Int)+1) (by rw[e]at c1;simp at c1;omega) (by rw[e]at c1;simp at c1;omega);rw[cy M4.eq_1];by_cases ad:600<y.size
   ·have qQ:(600:Int)<min (y.size:Int) (600+1):=by omega
    simp only[ao,ar,av,ap,b2,Z.len,Z.fits,ba,i1,ko,hU,qQ,List.any_cons,ad,dE (aG.push h _) (rfl:dl (.bool J)=_)]
   ·have qQ:¬(600:Int)<min (y.size:Int) (600+1):=by omega
    have bx:=aR (pre++[y]) (.bool J) (.bool U) (by simp[e]);have ay:((pre++[y]).length:Int)=(pre.length:Int)+1:=by simp
    rw[ay]at bx;simp only[ao,ar,av,ap,b2,Z.len,Z.fits,ba,i1,ko,hU,qQ,List.any_cons,ad,hw];exact bx
theorem atz(v:F)(L:List bC)(Z:iW h v L):aU aq aa 43 [.agg [v]] h=o (.inl (.bool (sI L)),h):=by
 refine a4 atj rfl ?_;unfold agO;have I:=Z.one;by_cases ad:20<L.length
 ·have qQ:(20:Int)<(L.length:Int):=by omega
  simp only[ao,ar,av,ap,I,Z.len,Z.fits,qQ,sI,ad,dE (aG.push h _) (rfl:dl (.bool J)=_)]
 ·have qQ:¬(20:Int)<(L.length:Int):=by omega
  have bx:=aty v L Z (by omega) (.agg [v]) (.bool U) L [] .aD .aD rfl;simp only[fG,j']at bx;simp only[ao,ar,av,ap,I,Z.len,Z.fits,qQ,sI,ad];exact bx
end
section
variable{h:ai}
theorem atA(v:F)(L:List bC)(Z:iW h v L)(c1:L.length<=100000)(g:di)(a c:List F)(p:bC->Bool)(bo:∀y∈L,∀q,hq y q->aU aq aa g (a++[.agg q]++c) h=o (.inl (.bool (p y)),h)):∀(l pre:List bC) (b6 eY cz c7:F),L=pre++l->∃n:Int,m7 J [.v 2] h (bB (aU aq aa) 8 [.eM HS,.bP [],.cu 0,.bP [.ops [M7],.ret]] [v,.fn g a c,b6,eY,.int j L.length,.int j pre.length,cz,c7] [] h)=o (.inl (.int j n),h)/\decide (0<=n)=l.any p:=by
 intro l;induction l with
 |nil=>
   intro pre b6 eY cz c7 e;have dT:L=pre:=by simpa using e
   have ba:¬((pre.length:Int)<(L.length:Int)):=by rw[dT];omega
   refine⟨-1,?_,rfl⟩;rw[cy HS.eq_1];simp only[ao,ar,av,ap,b2,ba]
 |cons y l aR=>
   intro pre b6 eY cz c7 e;have ba:(pre.length:Int)<(L.length:Int):=by rw[e];simp;omega
   obtain⟨qO,q,i1,hh,iM⟩:=Z.bJ pre.length y (by rw[e];simp);have ko:=hh _ (aG.refl h);have hU:=bo y (by rw[e];simp) q iM;simp only[kS,nz,l3]at hU;have hw:=ew (n:=(pre.length:Int)+1) (by rw[e]at c1;simp at c1;omega) (by rw[e]at c1;simp at c1;omega);cases ad:p y
   ·obtain⟨n,bx,bL⟩:=aR (pre++[y]) b6 (.int j pre.length) (.bool J) (.bool U) (by simp[e]);have ay:((pre++[y]).length:Int)=(pre.length:Int)+1:=by simp
    rw[ay]at bx;refine⟨n,?_,by rw[bL];simp[ad]⟩;rw[ad]at hU;rw[cy HS.eq_1];simp only[ao,ar,av,ap,b2,bN,kS,ba,i1,ko,hU,hw];exact bx
   ·refine⟨pre.length,?_,?_⟩
    ·rw[ad]at hU;rw[cy HS.eq_1];simp only[ao,ar,av,ap,b2,bN,kS,ba,i1,ko,hU]
    ·simp[ad]
theorem atB(v:F)(L:List bC)(Z:iW h v L)(c1:L.length<=100000)(g:di)(a c:List F)(p:bC->Bool)(bo:∀y∈L,∀q,hq y q->aU aq aa g (a++[.agg q]++c) h=o (.inl (.bool (p y)),h)):aU aq aa 121 [v,.fn g a c] h=o (.inl (.bool (L.any p)),h):=by
 obtain⟨n,bx,bL⟩:=atA v L Z c1 g a c p bo L [] (.int j 0) .aD .aD .aD rfl;simp only[fG,j']at bx;have hi:aU aq aa 141 [v,.fn g a c] h=o (.inl (.int j n),h):=by refine a4 as' rfl ?_;unfold agu;simp only[ao,ar,av,ap,Z.len,Z.fits];exact bx
 refine a4 as9 rfl ?_;unfold agt;simp only[ao,ar,av,ap,hi,bL]
theorem atC:∀(N:Nat) (x:bC),lz x<=N->x.size<=100000->∀(r:List F) (h:ai) (left:Int),hq x r-> -1<=left->left<=100000->aU aq aa 104 [.agg r,.int j left] h=o (.inl (.bool (decide ((x.depth:Int)<=left))),h):=by
 intro N;induction N with
 |zero=>intro x aF;have:=x.m';omega
 |succ N aR=>
   intro x aF fa r h left he ak hm;obtain⟨v,es,e,Z,am⟩:=he.row;have a8:∀E,iW E v x.l:=λE=>iW.of Z am;have o0:=(a8 h).one;subst e;refine a4 as7 rfl ?_;unfold agr;by_cases az:0<=left
   ·have hlen:=x.q5;have ca:=atB (h:=(h.push [[.int j x.op,.int j x.k,.int j x.n,v]]).push [[.int j left]]) v x.l (a8 _) (by omega) 122 [] [.ptr (h.n+1) 0 0] (λy=> !decide ((y.depth:Int)<=left - 1)) (λy bH q aX=>by have hw:=ew (n:=left - 1) (by omega) (by omega);have atD:=aR y (by have:=bC.nB bH;omega) (by have:=bC.ql bH;omega) q (((h.push [[.int j x.op,.int j x.k,.int j x.n,v]]).push [[.int j left]]).push [q]) (left - 1) aX (by omega) (by omega);obtain⟨bR,bQ⟩:=aX.one;refine a4 as8 rfl ?_;unfold ags;simp only[ao,ar,av,ap,bR,bQ,hw,atD,dE (aG.push _ _) (rfl:dl (.bool (!decide ((y.depth:Int)<=left - 1)))=_)]);simp only[ao,ar,av,ap,o0,az,ca,apX x az,dE ((aG.push h _).trans (aG.push _ _)) (rfl:dl (.bool (decide ((x.depth:Int)<=left)))=_)]
   ·have bg:decide ((x.depth:Int)<=left)=U:=by rw[decide_eq_false_iff_not];omega
    rw[bg];simp only[ao,ar,av,ap,o0,az,dE ((aG.push h _).trans (aG.push _ _)) (rfl:dl (.bool U)=_)]
end
section
variable{h:ai}
end
section
variable{h:ai}
theorem atE(L:List bC)(v:F)(m:∀h,iW h v L)(c1:L.length<=100000)(op k n:Int)(bo:∀y∈L,∀q E,hq y q->∃fk,aU aq aa 111 [.agg q] E=o (.inl (.agg fk),E)/\hq y fk)(fJ:F)(K:List j0):∀(l pre:List bC) (E:ai) (acc:F) (rows:List (List F)) (b4:F),L=pre++l->aG h E->h.n+1+1<E.n->E.cell h.n=o [[.int j op,.int j k,.int j n,v]]->E.cell (h.n+1)=o [[.int j 0,.int j 0,.int j 0,.aJ]]->E.cell (h.n+1+1)=o [[.int j op,.int j k,.int j n,acc]]->Acc h E gp acc rows->g3 pre rows->∃cP mS rc h8 gs,bB (aU aq aa) 6 (.eM M5::.bP []::.cu 0::K) [fJ,.ptr h.n 0 0,.ptr (h.n+1) 0 0,.ptr (h.n+1+1) 0 0,.int j pre.length,b4] [] E=bB (aU aq aa) 6 K [fJ,.ptr h.n 0 0,.ptr (h.n+1) 0 0,.ptr (h.n+1+1) 0 0,h8,gs] [] cP/\aG h cP/\cP.cell (h.n+1)=o [[.int j 0,.int j 0,.int j 0,.aJ]]/\cP.cell (h.n+1+1)=o [[.int j op,.int j k,.int j n,mS]]/\Acc h cP gp mS rc/\g3 L rc:=by
 intro l;induction l with
 |nil=>
   intro pre E acc rows b4 e g aA aW bD cl aV au;have dT:L=pre:=by simpa using e
   have ba:¬((pre.length:Int)<(L.length:Int)):=by rw[dT];omega
   refine⟨E,acc,rows,.int j pre.length,.bool U,?_,g,bD,cl,aV,by rw[dT];exact au⟩;rw[cy M5.eq_1];simp only[ao,ar,av,ap,b2,aW,(m h).len,(m h).fits,ba]
 |cons y l aR=>
   intro pre E acc rows b4 e g aA aW bD cl aV au;have ba:(pre.length:Int)<(L.length:Int):=by rw[e];simp;omega
   have iS:pre.length<=100000:=by rw[e]at c1;simp at c1;omega
   obtain⟨a,q,i1,hh,iM⟩:=(m E).bJ pre.length y (by rw[e];simp);have ko:=hh _ (aG.refl E);obtain⟨fk,hU,pA⟩:=bo y (by rw[e];simp) q E iM;obtain⟨bz,bG⟩:=pA.one;have hw:=ew (n:=(pre.length:Int)+1) (by omega) (by omega);have hn:rows.length<=1000000:=by rw[au.len];omega
   obtain⟨k0,R,aw,aP,a2,bl,cr⟩:=y4 aV g (row:=fk) bz hn;have cg:(R.set (h.n+1+1) (o [[.int j op,.int j k,.int j n,k0]])).cell h.n=o [[.int j op,.int j k,.int j n,v]]:=by rw[eN (by omega),bl];exact aW
   have c0:(R.set (h.n+1+1) (o [[.int j op,.int j k,.int j n,k0]])).cell (h.n+1)=o [[.int j 0,.int j 0,.int j 0,.aJ]]:=by rw[eN (by omega),bl];exact bD
   obtain⟨cP,mS,rc,h8,gs,bx,bL⟩:=aR (pre++[y]) (R.set (h.n+1+1) (o [[.int j op,.int j k,.int j n,k0]])) k0 (rows++[fk]) (.bool J) (by simp[e]) (a2.set (by omega)) (by show _<R.n;rw[cr];exact aA) cg c0 lc aP (au.append pA);have be:((pre++[y]).length:Int)=(pre.length:Int)+1:=by simp
   rw[be]at bx;refine⟨cP,mS,rc,h8,gs,?_,bL⟩;have pU:k0.one=J:=by rcases aP with⟨_,rfl⟩|⟨id,_,_,_,_,rfl⟩<;>rfl
   have wP:k0.cells=[k0]:=by rcases aP with⟨_,rfl⟩|⟨id,_,_,_,_,rfl⟩<;>rfl
   rw[cy M5.eq_1];simp only[ao,ar,av,ap,b2,aW,cl,(m h).len,(m h).fits,ba,i1,ko,hU,bz,bG,aw,bl,pU,wP,hw];exact bx
theorem atF:∀(N:Nat) (x:bC),lz x<=N->x.size<=100000->∀(r:List F) (h:ai),hq x r->∃br,aU aq aa 111 [.agg r] h=o (.inl (.agg br),h)/\hq x br:=by
 intro N;induction N with
 |zero=>intro x aF;have:=x.m';omega
 |succ N aR=>
   intro x aF fa r h he;obtain⟨v,es,e,Z,am⟩:=he.row;have m:∀h,iW h v x.l:=λh=>iW.of Z am;have bz:=(m h).one;have cD:=(m h).len;have f1:=(m h).fits;have hlen:=x.q5;subst e;obtain⟨cP,mS,rc,h8,gs,bx,g,bD,cl,aV,au⟩:=atE (h:=h) x.l v m (by omega) x.op x.k x.n (λy bH q E aX=>aR y (by have:=bC.nB bH;omega) (by have:=bC.ql bH;omega) q E aX) (.agg [.int j x.op,.int j x.k,.int j x.n,v]) [.bP [.ops [(.i .l (.load J 4 (.v 3))),(.i .n (.store 4 (.v 2) (.l 0)))],.ret]] x.l [] (((h.push [[.int j x.op,.int j x.k,.int j x.n,v]]).push [[.int j 0,.int j 0,.int j 0,.aJ]]).push [[.int j x.op,.int j x.k,.int j x.n,.aJ]]) .aJ [] .aD rfl (((aG.push h _).trans (aG.push _ _)).trans (aG.push _ _)) (by simp only[eC];omega) tF wd wc (wa _ _ _) rfl;simp only[fG,j']at bx;have vZ:hq x [.int j x.op,.int j x.k,.int j x.n,mS]:=by
    rw[x.eta];simp only[hq];refine⟨mS,rc,rfl,?_,au⟩;rcases aV with⟨bR,bQ⟩|⟨id,_,_,_,_,bQ⟩
    ·exact .inl ⟨bR,bQ⟩
    ·exact .inr ⟨_,bQ⟩
   obtain⟨br,hw,hR⟩:=agV vZ;have pU:=vZ.one.1;simp only[qa,List.all_nil,rN]at pU;have Ty:mS.one=J:=pU;have r6:dl (.agg [.int j x.op,.int j x.k,.int j x.n,mS])=o (.agg br):=by simp only[dl,hw,i3]
   refine⟨br,?_,hR⟩;refine a4 atk rfl ?_;unfold agS;simp only[ao,ar,av,ap,bY,bz,bx,bD,cl,Ty,dE (g.set (show h.n<=h.n+1 by omega)) r6]
theorem atG(L:List bC)(v:F)(m:∀h,iW h v L)(c1:L.length<=100000)(bo:∀y∈L,∀q E,hq y q->∃fk,aU aq aa 111 [.agg q] E=o (.inl (.agg fk),E)/\hq y fk)(fJ:F)(K:List j0):∀(l pre:List bC) (E:ai) (acc:F) (rows:List (List F)) (b4:F),L=pre++l->aG h E->h.n+1+1<E.n->E.cell h.n=o [[v]]->E.cell (h.n+1)=o [[.aJ]]->E.cell (h.n+1+1)=o [[acc]]->Acc h E gp acc rows->g3 pre rows->∃cP mS rc h8 gs,bB (aU aq aa) 6 (.eM M6::.bP []::.cu 0::K) [fJ,.ptr h.n 0 0,.ptr (h.n+1) 0 0,.ptr (h.n+1+1) 0 0,.int j pre.length,b4] [] E=bB (aU aq aa) 6 K [fJ,.ptr h.n 0 0,.ptr (h.n+1) 0 0,.ptr (h.n+1+1) 0 0,h8,gs] [] cP/\aG h cP/\cP.cell (h.n+1)=o [[.aJ]]/\cP.cell (h.n+1+1)=o [[mS]]/\Acc h cP gp mS rc/\g3 L rc:=by
 intro l;induction l with
 |nil=>
   intro pre E acc rows b4 e g aA aW bD cl aV au;have dT:L=pre:=by simpa using e
   have ba:¬((pre.length:Int)<(L.length:Int)):=by rw[dT];omega
   refine⟨E,acc,rows,.int j pre.length,.bool U,?_,g,bD,cl,aV,by rw[dT];exact au⟩;rw[cy M6.eq_1];simp only[ao,ar,av,ap,b2,aW,(m h).len,(m h).fits,ba]
 |cons y l aR=>
   intro pre E acc rows b4 e g aA aW bD cl aV au;have ba:(pre.length:Int)<(L.length:Int):=by rw[e];simp;omega
   have iS:pre.length<=100000:=by rw[e]at c1;simp at c1;omega
   obtain⟨a,q,i1,hh,iM⟩:=(m E).bJ pre.length y (by rw[e];simp);have ko:=hh _ (aG.refl E);obtain⟨fk,hU,pA⟩:=bo y (by rw[e];simp) q E iM;obtain⟨bz,bG⟩:=pA.one;have hw:=ew (n:=(pre.length:Int)+1) (by omega) (by omega);have hn:rows.length<=1000000:=by rw[au.len];omega
   obtain⟨k0,R,aw,aP,a2,bl,cr⟩:=y4 aV g (row:=fk) bz hn;have cg:(R.set (h.n+1+1) (o [[k0]])).cell h.n=o [[v]]:=by rw[eN (by omega),bl];exact aW
   have c0:(R.set (h.n+1+1) (o [[k0]])).cell (h.n+1)=o [[.aJ]]:=by rw[eN (by omega),bl];exact bD
   obtain⟨cP,mS,rc,h8,gs,bx,bL⟩:=aR (pre++[y]) (R.set (h.n+1+1) (o [[k0]])) k0 (rows++[fk]) (.bool J) (by simp[e]) (a2.set (by omega)) (by show _<R.n;rw[cr];exact aA) cg c0 lc aP (au.append pA);have be:((pre++[y]).length:Int)=(pre.length:Int)+1:=by simp
   rw[be]at bx;refine⟨cP,mS,rc,h8,gs,?_,bL⟩;have pU:k0.one=J:=by rcases aP with⟨_,rfl⟩|⟨id,_,_,_,_,rfl⟩<;>rfl
   have wP:k0.cells=[k0]:=by rcases aP with⟨_,rfl⟩|⟨id,_,_,_,_,rfl⟩<;>rfl
   rw[cy M6.eq_1];simp only[ao,ar,av,ap,b2,aW,cl,(m h).len,(m h).fits,ba,i1,ko,hU,bz,bG,aw,bl,pU,wP,hw];exact bx
theorem atH(v:F)(L:List bC)(m:∀h,iW h v L)(c1:L.length<=100000)(aC:∀x∈L,x.size<=100000):∃br,aU aq aa 83 [.agg [v]] h=o (.inl (.agg br),h)/\agY L br:=by
 have bz:=(m h).one;have cD:=(m h).len;have f1:=(m h).fits;obtain⟨cP,mS,rc,h8,gs,bx,g,bD,cl,aV,au⟩:=atG (h:=h) L v m c1 (λy bH q E aX=>atF _ y (b9 _) (aC y bH) q E aX) (.agg [v]) [.bP [.ops [EJ,(.i .n (.store 1 (.v 2) (.l 0)))],.ret]] L [] (((h.push [[v]]).push [[.aJ]]).push [[.aJ]]) .aJ [] .aD rfl (((aG.push h _).trans (aG.push _ _)).trans (aG.push _ _)) (by simp only[eC];omega) tF wd wc (wa _ _ _) rfl;simp only[fG,j']at bx;have eL:e9 gp mS rc:=by
  rcases aV with⟨bR,bQ⟩|⟨id,_,_,_,_,bQ⟩
  ·exact .inl ⟨bR,bQ⟩
  ·exact .inr ⟨_,bQ⟩
 obtain⟨Tz,hw,hR⟩:=Tx au;have Ty:mS.one=J:=(iW.of (h:=h) eL au).one;have r6:∃a2,dl (.agg [mS])=o (.agg [a2])/\e9 gp a2 Tz:=by
  rcases eL with⟨bR,rfl⟩|⟨id,rfl⟩
  ·subst bR;cases hw;exact⟨.aJ,rfl,.inl ⟨rfl,rfl⟩⟩
  ·exact⟨.b5 ag gp Tz,by simp only[dl,p6,hw,i3],.inr ⟨_,rfl⟩⟩
 obtain⟨a2,r6,jy⟩:=r6;refine⟨[a2],?_,a2,Tz,rfl,jy,hR⟩;refine a4 atl rfl ?_;unfold agU;simp only[ao,ar,av,ap,bz,bx,bD,cl,Ty,dE (g.set (show h.n<=h.n+1 by omega)) r6]
end
def lW(c d:Int):Int:=if c=0 then d else c
theorem AS(d:Int):lW 0 d=d:=rfl
theorem TA(c:Int):lW c 0=c:=by unfold lW;split<;>simp_all
theorem zv{c:Int}(h:c≠0)(d:Int):lW c d=c:=if_neg h
theorem atI(a b c:Int):lW (lW a b) c=lW a (lW b c):=by unfold lW;by_cases h:a=0<;>simp[h]
structure k1(b:Nat)(a8:F)(c:Int)(h E:ai):Prop where
 n:h.n<=E.n
 ids:h.ids<=E.ids
 fF:∀k,k<h.n->k≠b->E.cell k=h.cell k
 hw:∀k,k<h.ids->E.hw k=h.hw k
 D:E.cell b=o [[a8,.int j c]]
theorem k1.refl{b:Nat}{a8:F}{c:Int}{h:ai}(ad:h.cell b=o [[a8,.int j c]]):k1 b a8 c h h:=⟨b9 _,b9 _,λ_ _ _=>rfl,λ_ _=>rfl,ad⟩
theorem k1.trans{b:Nat}{a8:F}{c eo:Int}{h E cP:ai}(x:k1 b a8 c h E)(y:k1 b a8 eo E cP):k1 b a8 eo h cP:=⟨e6 x.n y.n,e6 x.ids y.ids,λk ab aA=>(y.fF k (fS ab x.n) aA).trans (x.fF k ab aA),λk ab=>(y.hw k (fS ab x.ids)).trans (x.hw k ab),y.D⟩
theorem k1.push{b:Nat}{a8:F}{c:Int}{h:ai}(ad:h.cell b=o [[a8,.int j c]])(ba:b<h.n)(es:List (List F)):k1 b a8 c h (h.push es):=⟨by simp[ai.push],by simp[ai.push],λk ab _=>hp ab,λ_ _=>rfl,(hp ba).trans ad⟩
theorem k1.h1{b:Nat}{a8:F}{c:Int}{ak h E:ai}(g:aG ak h)(ad:ak.n<=b)(x:k1 b a8 c h E):aG ak E:=⟨e6 g.n x.n,e6 g.ids x.ids,λk ab=>(x.fF k (fS ab g.n) (by omega)).trans (g.cell k ab),λk ab=>(x.hw k (fS ab g.ids)).trans (g.hw k ab)⟩
section
variable{h:ai}{b:Nat}{a8:F}{c:Int}
theorem vk(ad:h.cell b=o [[a8,.int j c]])(bT:Bool)(d:Int):∃E,aU aq aa 103 [.ptr b 0 0,.bool bT,.int j d] h=o (.inl (.bS []),E)/\k1 b a8 (lW c (if bT then d else 0)) h E:=by
 cases bT
 ·refine⟨h,?_,by rw[if_neg (by simp),TA];exact k1.refl ad⟩;refine a4 Tq rfl ?_;unfold MO;simp only[ao,ar,av,ap]
 ·by_cases an:c=0
  ·subst an;refine⟨h.set b (o [[a8,.int j d]]),?_,⟨b9 _,b9 _,λk _ aA=>eN aA,λ_ _=>rfl,by rw[lc];rfl⟩⟩;refine a4 Tq rfl ?_;unfold MO;simp only[ao,ar,av,ap,ad,eq_self]
  ·refine⟨h,?_,by rw[zv an];exact k1.refl ad⟩;refine a4 Tq rfl ?_;unfold MO;simp only[ao,ar,av,ap,ad,an]
def hN(cC op k O:Int):Int:=
 if op=4 then(if k<0\/O<=k then 1 else 0)
 else if op=6 then(if k<1\/5<k then 1 else 0)
 else if op=15 then(if k<0\/15<k then 1 else 0)
 else if op=18 then(if k<0\/cC<=k then 1 else 0)
 else if k≠0 then 5 else 0
theorem ag1(cC op k n O:Int):sG cC op k n O=lW (if n≠0/\op≠2 then 5 else 0) (hN cC op k O):=by
 unfold sG;by_cases I:n≠0/\op≠2
 ·rw[if_pos I,if_pos I];rfl
 ·rw[if_neg I,if_neg I];rfl
theorem atJ(k:Int):aU aq aa 120 [.int j k] h=o (.inl (.bool (!decide (k<0\/15<k))),h):=by
 refine a4 adb rfl ?_;unfold RD;by_cases ak:0<=k
 ·by_cases I:k<=15
  ·have e:decide (k<0\/15<k)=U:=by rw[decide_eq_false_iff_not];omega
   simp only[ao,ar,av,ap,ak,I,e]
  ·have e:decide (k<0\/15<k)=J:=by rw[decide_eq_true_eq];omega
   simp only[ao,ar,av,ap,ak,I,e]
 ·have e:decide (k<0\/15<k)=J:=by rw[decide_eq_true_eq];omega
  simp only[ao,ar,av,ap,ak,e]
end
section
variable{h:ai}{b:Nat}{a8:F}{c:Int}
theorem atK(ad:h.cell b=o [[a8,.int j c]])(op k n:Int)(v:F)(q:Nat)(aX:h.cell q=o [[.int j op,.int j k,.int j n,v]])(cI b6 dL b4 cz c7 dz:F)(rest:List bb)(K:List j0):∃I,bB (aU aq aa) 9 (.bP ((.ops [bc,EP,aT,tP,cn,Tt,nH,MQ,zt,(.i .l (.call (.c (.fn 103 [] [])) [(.l 8),(.l 0),(.c (.int j 5))]))])::rest)::K) [.ptr b 0 0,cI,b6,.ptr q 0 0,dL,b4,cz,c7,dz] [] h=bB (aU aq aa) 9 (.bP rest::K) [.ptr b 0 0,cI,b6,.ptr q 0 0,dL,b4,cz,c7,dz] [] I/\k1 b a8 (lW c (if n≠0/\op≠2 then 5 else 0)) h I:=by
 obtain⟨I,bx,g6⟩:=vk ad (!decide (n=0)&& !decide (op=2)) 5;refine⟨I,?_,?_⟩
 ·cases aw:decide (n=0)<;>cases ay:decide (op=2)<;>simp only[aw,ay,Bool.not_true,Bool.not_false,rN,Bool.and_false]at bx<;>simp only[ao,aX,aw,ay,bx]
 ·have e:(if(!decide (n=0)&& !decide (op=2))=J then(5:Int)else 0)=if n≠0/\op≠2 then 5 else 0:=by simp
  rw[e]at g6;exact g6
theorem atL(ad:h.cell b=o [[a8,.int j c]])(hm:hX a8=o cC)(ng:∀s,kE s (o gp) a8=J)(op k n O:Int)(v:F)(q:Nat)(aF:h.cell q=o [[.int j op,.int j k,.int j n,v]])(H:ai)(cI dL b4 cz c7 dz:F):∃I,m7 U [] H (bB (aU aq aa) 9 [.bP [(.ops [r5,(.i (.v 4) oD)]),(.block 0 [(.ops [LP,d8]),(.cond (.v 5) [(.ops [bc,oH,aT,qp,cn,zu,ld,MR,(.g (.l 3) U .l (.bin (.int j) .geq (.l 1) (.l 0))),(.i .l AF),(.i .l (.call (.c (.fn 103 [] [])) [(.l 9),(.l 0),(.c (.int j 1))]))])] [(.ops [(.i .l (.bin (.int j) .eql (.v 4) (.c (.int j 6)))),jM]),(.cond (.v 6) [(.ops [bc,oH,aT,HR,cn,zu,ld,Mf,CC,(.i .l (.call (.c (.fn 103 [] [])) [(.l 8),(.l 0),(.c (.int j 1))]))])] [(.ops [(.i .l (.bin (.int j) .eql (.v 4) (.c (.int j 15)))),nG]),(.cond (.v 7) [(.ops [bc,oH,aT,K2,wq,(.i .l (.call (.c (.fn 103 [] [])) [(.l 4),(.l 0),(.c (.int j 1))]))])] [(.ops [(.i .l (.bin (.int j) .eql (.v 4) (.c (.int j 18)))),kZ]),(.cond (.v 8) [(.ops [bc,oH,aT,qp,cn,zu,ld,EW,MS,MT,(.g (.l 5) U .l EX),MU,(.g (.l 7) U .l EV),(.g (.l 8) U .l (.bin (.int j) .geq (.l 6) (.l 0))),(.i .l (.pick (.l 9) (.c (.bool J)) (.l 0))),(.i .l (.call (.c (.fn 103 [] [])) [(.l 14),(.l 0),(.c (.int j 1))]))])] [(.ops [bc,oH,aT,tP,(.i .l (.call (.c (.fn 103 [] [])) [(.l 3),(.l 0),(.c (.int j 5))]))])])])])])])]] [.ptr b 0 0,cI,.int j O,.ptr q 0 0,dL,b4,cz,c7,dz] [] h)=o (.inl (.bS []),I)/\k1 b a8 (lW c (hN cC op k O)) h I:=by
 have ae:=ad;have g6:=k1.refl ad;by_cases aH:op=4
 ·subst aH;obtain⟨R,bL,gg⟩:=vk g6.D (decide (k<0\/O<=k)) 1;refine⟨R,?_,?_⟩
  ·by_cases ab:k<0
   ·have e:decide (k<0\/O<=k)=J:=by rw[decide_eq_true_eq];omega
    rw[e]at bL;simp only[ao,cN,aF,ab,bL]
   ·by_cases bV:O<=k
    ·have e:decide (k<0\/O<=k)=J:=by rw[decide_eq_true_eq];omega
     rw[e]at bL;simp only[ao,cN,aF,ae,hm,ng,ab,bV,bL]
    ·have e:decide (k<0\/O<=k)=U:=by rw[decide_eq_false_iff_not];omega
     rw[e]at bL;simp only[ao,cN,aF,ae,hm,ng,ab,bV,bL]
  ·have ay:hN cC 4 k O=if decide (k<0\/O<=k)=J then 1 else 0:=by simp[hN]
   rw[ay];exact g6.trans gg
 by_cases cq:op=6
 ·subst cq;obtain⟨R,bL,gg⟩:=vk g6.D (decide (k<1\/5<k)) 1;refine⟨R,?_,?_⟩
  ·by_cases ab:k<1
   ·have e:decide (k<1\/5<k)=J:=by rw[decide_eq_true_eq];omega
    rw[e]at bL;simp only[ao,cN,aF,ab,bL]
   ·by_cases bV:5<k
    ·have e:decide (k<1\/5<k)=J:=by rw[decide_eq_true_eq];omega
     rw[e]at bL;simp only[ao,cN,aF,ab,bV,bL]
    ·have e:decide (k<1\/5<k)=U:=by rw[decide_eq_false_iff_not];omega
     rw[e]at bL;simp only[ao,cN,aF,ab,bV,bL]
  ·have ay:hN cC 6 k O=if decide (k<1\/5<k)=J then 1 else 0:=by simp[hN]
   rw[ay];exact g6.trans gg
 by_cases tI:op=15
 ·subst tI;obtain⟨R,bL,gg⟩:=vk g6.D (decide (k<0\/15<k)) 1;refine⟨R,?_,?_⟩
  ·have w:=atJ (h:=h) k;simp only[ao,cN,aF,w,Bool.not_not,bL]
  ·have ay:hN cC 15 k O=if decide (k<0\/15<k)=J then 1 else 0:=by simp[hN]
   rw[ay];exact g6.trans gg
 by_cases zw:op=18
 ·subst zw;obtain⟨R,bL,gg⟩:=vk g6.D (decide (k<0\/(cC:Int)<=k)) 1;refine⟨R,?_,?_⟩
  ·by_cases ab:k<0
   ·have e:decide (k<0\/(cC:Int)<=k)=J:=by rw[decide_eq_true_eq];omega
    rw[e]at bL;simp only[ao,cN,aF,ab,bL]
   ·by_cases bV:(cC:Int)<=k
    ·have e:decide (k<0\/(cC:Int)<=k)=J:=by rw[decide_eq_true_eq];omega
     rw[e]at bL;simp only[ao,cN,aF,ae,hm,ng,ab,bV,bL]
    ·have e:decide (k<0\/(cC:Int)<=k)=U:=by rw[decide_eq_false_iff_not];omega
     rw[e]at bL;simp only[ao,cN,aF,ae,hm,ng,ab,bV,bL]
  ·have ay:hN cC 18 k O=if decide (k<0\/(cC:Int)<=k)=J then 1 else 0:=by simp[hN]
   rw[ay];exact g6.trans gg
 obtain⟨R,bL,gg⟩:=vk g6.D (!decide (k=0)) 5;refine⟨R,?_,?_⟩
 ·simp only[ao,aF,aH,cq,tI,zw,bL]
 ·have ay:hN cC op k O=if(!decide (k=0))=J then 5 else 0:=by simp[hN,aH,cq,tI,zw]
  rw[ay];exact g6.trans gg
theorem GE(ad:h.cell b=o [[a8,.int j c]])(ba:b<h.n)(hm:hX a8=o cC)(ng:∀s,kE s (o gp) a8=J)(op k n O:Int)(v:F)(Z:v.one=J):∃E,aU aq aa 124 [.ptr b 0 0,.agg [.int j op,.int j k,.int j n,v],.int j O] h=o (.inl (.bS []),E)/\k1 b a8 (lW c (sG cC op k n O)) h E:=by
 have p:=k1.push (c:=c) ad ba [[.int j op,.int j k,.int j n,v]];obtain⟨I,bx,g6⟩:=atK p.D op k n v h.n hb (.agg [.int j op,.int j k,.int j n,v]) (.int j O) .aD .aD .aD .aD .aD [(.ops [r5,(.i (.v 4) oD)]),(.block 0 [(.ops [LP,d8]),(.cond (.v 5) [(.ops [bc,oH,aT,qp,cn,zu,ld,MR,(.g (.l 3) U .l (.bin (.int j) .geq (.l 1) (.l 0))),(.i .l AF),(.i .l (.call (.c (.fn 103 [] [])) [(.l 9),(.l 0),(.c (.int j 1))]))])] [(.ops [(.i .l (.bin (.int j) .eql (.v 4) (.c (.int j 6)))),jM]),(.cond (.v 6) [(.ops [bc,oH,aT,HR,cn,zu,ld,Mf,CC,(.i .l (.call (.c (.fn 103 [] [])) [(.l 8),(.l 0),(.c (.int j 1))]))])] [(.ops [(.i .l (.bin (.int j) .eql (.v 4) (.c (.int j 15)))),nG]),(.cond (.v 7) [(.ops [bc,oH,aT,K2,wq,(.i .l (.call (.c (.fn 103 [] [])) [(.l 4),(.l 0),(.c (.int j 1))]))])] [(.ops [(.i .l (.bin (.int j) .eql (.v 4) (.c (.int j 18)))),kZ]),(.cond (.v 8) [(.ops [bc,oH,aT,qp,cn,zu,ld,EW,MS,MT,(.g (.l 5) U .l EX),MU,(.g (.l 7) U .l EV),(.g (.l 8) U .l (.bin (.int j) .geq (.l 6) (.l 0))),(.i .l (.pick (.l 9) (.c (.bool J)) (.l 0))),(.i .l (.call (.c (.fn 103 [] [])) [(.l 14),(.l 0),(.c (.int j 1))]))])] [(.ops [bc,oH,aT,tP,(.i .l (.call (.c (.fn 103 [] [])) [(.l 3),(.l 0),(.c (.int j 5))]))])])])])])])] [];obtain⟨R,bL,gg⟩:=atL g6.D hm ng op k n O v h.n (by rw[g6.fF h.n (by simp[ai.push]) (by omega)];exact hb) h (.agg [.int j op,.int j k,.int j n,v]) .aD .aD .aD .aD .aD;refine⟨R,?_,?_⟩
 ·refine a4 In rfl ?_;unfold agw;rw[Qd,D9 (by simp only[ao,ar,av,ap,Z]) (by simp only[ao,ar,av,ap]),Qg];exact(congrArg (m7 U [] h) bx).trans bL
 ·rw[ag1,<-atI];exact(p.trans g6).trans gg
end
theorem bC.Ee(cC:Int)(x:bC)(O:Int):x.fault cC O=lW (nC cC x.op x.k x.n x.l.length O) (rO cC x.op 0 x.l O):=by
 cases x with
 |mk op k n l=>simp only[bC.fault,bC.op,bC.k,bC.n,bC.l,lW];by_cases bA:nC cC op k n l.length O=0<;>simp[bA]
theorem atM(cC k n:Int)(len:Nat):nC cC 5 k n len 12≠0:=by
 unfold nC;split
 ·decide
 ·split
  ·decide
  ·split
   ·assumption
   ·simp
theorem M8(cC op:Int)(i:Nat)(x:bC)(l:List bC)(O:Int):rO cC op i (x::l) O=lW (x.fault cC (if op=5/\i=1 then O+1 else O)) (rO cC op (i+1) l O):=by simp only[rO,lW];by_cases bA:x.fault cC (if op=5/\i=1 then O+1 else O)=0<;>simp[bA]
theorem atN(cC op k n:Int)(len:Nat)(O:Int):nC cC op k n len O=lW (lW (lW (if decide (gw op<0)=J then 2 else 0) (if(!decide ((len:Int)=gw op))=J then 5 else 0)) (sG cC op k n O)) (if(decide (op=5)&&decide (O=12))=J then 3 else 0):=by
 unfold nC lW;by_cases I:gw op<0
 ·simp[I]
 ·by_cases R:(len:Int)=gw op
  ·by_cases aj:sG cC op k n O=0<;>simp[I,R,aj]
  ·simp[I,R]
section
variable{h:ai}{b:Nat}{a8:F}
theorem atO(ie:b<h.n)(cC:Int)(x:bC)(v:F)(m:∀h,iW h v x.l)(c1:x.l.length<=100000)(O:Int)(aK:0<=O)(qS:O<=12)(H:ai)(bo:∀y∈x.l,∀(q:List F) (h:ai) (O:Int),hq y q->0<=O->O<=12->h.cell b=o [[a8,.int j 0]]->b<h.n->∃E,aU aq aa 106 [.ptr b 0 0,.agg q,.int j O] h=o (.inl (.bS []),E)/\k1 b a8 (y.fault cC O) h E)(cI dL:F):∀(l pre:List bC) (E:ai) (c:Int) (b4 cz dU e1 gy:F),x.l=pre++l->k1 b a8 c h E->h.n<E.n->E.cell h.n=o [[.int j x.op,.int j x.k,.int j x.n,v]]->(x.op=5->O=12->c≠0)->∃cP,m7 U [] H (bB (aU aq aa) 13 [.eM EY,.bP [],.cu 0,.bP []] [.ptr b 0 0,cI,.int j O,.ptr h.n 0 0,dL,b4,cz,v,.int j x.l.length,.int j pre.length,dU,e1,gy] [] E)=o (.inl (.bS []),cP)/\k1 b a8 (lW c (rO cC x.op pre.length l O)) h cP:=by
 intro l;induction l with
 |nil=>
   intro pre E c b4 cz dU e1 gy e D aA aF a6;have dT:x.l=pre:=by simpa using e
   have ba:¬((pre.length:Int)<(x.l.length:Int)):=by rw[dT];omega
   refine⟨E,?_,by simp only[rO,TA];exact D⟩;rw[cy EY.eq_1];simp only[ao,ar,av,ap,b2,ba]
 |cons y l aR=>
   intro pre E c b4 cz dU e1 gy e D aA aF a6;have ba:(pre.length:Int)<(x.l.length:Int):=by rw[e];simp;omega
   obtain⟨a,q,i1,hh,iM⟩:=(m E).bJ pre.length y (by rw[e];simp);have ko:=hh _ (aG.refl E);obtain⟨bz,bG⟩:=iM.one;have p:=k1.push D.D (Nat.lt_trans ie aA) [q];have ae:=p.D;have tr:(E.push [q]).cell h.n=o [[.int j x.op,.int j x.k,.int j x.n,v]]:=(hp aA).trans aF;have hw:=ew (n:=(pre.length:Int)+1) (by rw[e]at c1;simp at c1;omega) (by rw[e]at c1;simp at c1;omega);by_cases an:c=0
   ·subst an;have nu:E.n+1=(E.push [q]).n:=rfl;have M9:∀{eo:Int},x.op=5->O=12->eo≠0:=λI R=>absurd rfl (a6 I R);have be:((pre++[y]).length:Int)=(pre.length:Int)+1:=by simp
    have b1:(pre++[y]).length=pre.length+1:=by simp
    have ab:∀(I:ai) (eo:Int),k1 b a8 eo (E.push [q]) I->I.cell h.n=o [[.int j x.op,.int j x.k,.int j x.n,v]]/\h.n<I.n:=λI eo g6=>
     ⟨(g6.fF h.n (by simp only[eC];omega) (by omega)).trans tr,fS (by simp only[eC];omega) g6.n⟩
    by_cases ga:x.op=5/\pre.length=1
    ·obtain⟨iH,ox⟩:=ga;have atP:O<=11:=by
      rcases Int.lt_or_eq_of_le qS with I|I
      ·omega
      ·exact absurd rfl (a6 iH I)
     have atQ:(pre.length:Int)=1:=by omega
     have M':=ew (n:=O+1) (by omega) (by omega);obtain⟨I,bx,g6⟩:=bo y (by rw[e];simp) q (E.push [q]) (O+1) iM (by omega) (by omega) ae (by simp only[eC];omega);obtain⟨R,bL,gg⟩:=aR (pre++[y]) I (y.fault cC (O+1)) (.int j pre.length) (.ptr E.n 0 0) (.bool J) (.bool U) (.bool J) (by simp[e]) ((D.trans p).trans g6) (ab I _ g6).2 (ab I _ g6).1 M9;rw[be]at bL;refine⟨R,?_,?_⟩
     ·rw[iH]at tr;have Na:decide ((pre.length:Int)=1)=J:=by simp[atQ]
      rw[cy EY.eq_1];simp only[ao,ar,av,ap,b2,ba,i1,ko,bz,bG,ae,tr,Na,M',bx,hw];exact bL
     ·rw[M8,if_pos ⟨iH,ox⟩,AS];rw[b1]at gg;exact gg
    ·obtain⟨I,bx,g6⟩:=bo y (by rw[e];simp) q (E.push [q]) O iM (by omega) (by omega) ae (by simp only[eC];omega);have bg:(decide (x.op=5)&&decide ((pre.length:Int)=1))=U:=by
      rw[Bool.and_eq_false_iff,decide_eq_false_iff_not,decide_eq_false_iff_not];by_cases bq:x.op=5
      ·exact .inr (λaz=>ga ⟨bq,by omega⟩)
      ·exact .inl bq
     obtain⟨R,bL,gg⟩:=aR (pre++[y]) I (y.fault cC O) (.int j pre.length) (.ptr E.n 0 0) (.bool J) (.bool U) (.bool U) (by simp[e]) ((D.trans p).trans g6) (ab I _ g6).2 (ab I _ g6).1 M9;rw[be]at bL;refine⟨R,?_,?_⟩
     ·rw[cy EY.eq_1];cases bq:decide (x.op=5)
      ·simp only[ao,ar,av,ap,b2,ba,i1,ko,bz,bG,ae,tr,bq,bx,hw];exact bL
      ·rw[bq,Bool.true_and]at bg;simp only[ao,ar,av,ap,b2,ba,i1,ko,bz,bG,ae,tr,bq,bg,bx,hw];exact bL
     ·rw[M8,if_neg ga,AS];rw[b1]at gg;exact gg
   ·refine⟨E.push [q],?_,by rw[zv an];exact D.trans p⟩;rw[cy EY.eq_1];simp only[ao,ar,av,ap,b2,ba,i1,ko,bz,bG,ae,an]
theorem atS(cC:Nat)(hm:hX a8=o cC)(ng:∀s,kE s (o gp) a8=J):∀(N:Nat) (x:bC),lz x<=N->x.size<=100000->∀(r:List F) (h:ai) (O:Int),hq x r->0<=O->O<=12->h.cell b=o [[a8,.int j 0]]->b<h.n->∃E,aU aq aa 106 [.ptr b 0 0,.agg r,.int j O] h=o (.inl (.bS []),E)/\k1 b a8 (x.fault cC O) h E:=by
 intro N;induction N with
 |zero=>intro x aF;have:=x.m';omega
 |succ N aR=>
   intro x aF fa r h O he aK qS ad ba;obtain⟨v,es,e,Z,am⟩:=he.row;have m:∀h,iW h v x.l:=λh=>iW.of Z am;have bz:=(m h).one;have cD:=(m h).len;have f1:=(m h).fits;have hlen:=x.q5;subst e;have p:=k1.push ad ba [[.int j x.op,.int j x.k,.int j x.n,v]];have atT:(h.push [[.int j x.op,.int j x.k,.int j x.n,v]]).cell h.n=o [[.int j x.op,.int j x.k,.int j x.n,v]]:=hb;have ie:h.n≠b:=by omega
   obtain⟨I,bx,g6⟩:=vk p.D (decide (gw x.op<0)) 2;have cx:=(g6.fF h.n (by simp only[eC];omega) ie).trans atT;have fA:h.n<I.n:=fS (by simp only[eC];omega) g6.n;obtain⟨R,bL,gg⟩:=vk g6.D (!decide ((x.l.length:Int)=gw x.op)) 5;have gn:=(gg.fF h.n fA ie).trans cx;have kX:h.n<R.n:=fS fA gg.n;obtain⟨aj,gE,tX⟩:=GE gg.D (by omega) hm ng x.op x.k x.n O v bz;have iz:=(tX.fF h.n kX ie).trans gn;have mb:h.n<aj.n:=fS kX tX.n;obtain⟨aH,ik,Nb⟩:=vk tX.D (decide (x.op=5)&&decide (O=12)) 3;have h8:=(Nb.fF h.n mb ie).trans iz;have AT:h.n<aH.n:=fS mb Nb.n;rw[AS,<-atN]at Nb;have atU:=(((p.trans g6).trans gg).trans tX).trans Nb;obtain⟨bq,hW,ag2⟩:=atO (h:=h) ba cC x v m (by omega) O aK qS h (λy bH q h O aX=>aR y (by have:=bC.nB bH;omega) (by have:=bC.ql bH;omega) q h O aX) (.agg [.int j x.op,.int j x.k,.int j x.n,v]) (.int j (gw x.op)) x.l [] aH _ .aD .aD .aD .aD .aD rfl atU AT h8 (λbq QI=>by rw[bq,QI];exact atM _ _ _ _);simp only[fG,j']at hW;rw[fG,<-bC.Ee]at ag2;refine⟨bq,?_,ag2⟩;have AU:=atr (h:=h.push [[.int j x.op,.int j x.k,.int j x.n,v]]) x.op;refine a4 atb rfl ?_;unfold agA;cases c4:decide (x.op=5)<;>cases HY:decide (O=12)<;>simp only[c4,HY,rN,Bool.and_false]at ik<;> (simp only[ao,ar,av,ap,bz,AU,bx,cx,cD,f1,bL,gn,gE,iz,c4,HY,ik,h8];exact hW)
end
section
variable{h:ai}{a8:F}
theorem atV(Ai:cC<=100000)(hm:hX a8=o cC)(ng:∀s,kE s (o gp) a8=J)(op k n O:Int)(aK:0<=O)(qS:O<=12)(v:F)(rest:List bb)(fJ cI cz c7 dz eD dU e1 gy g5 j5 ph nJ oL oM vl zx xX vm vn vo:F):(hN cC op k O=0/\∃iA pT wQ tY pV pW AV TB TC,bB (aU aq aa) 25 [.bP ((.ops [wv,rX])::(.ops [tT,(.i (.v 14) oD)])::(.block 0 [(.ops [(.i .l (.bin (.int j) .eql (.v 14) (.c (.int j 4)))),Cr]),(.cond (.v 16) [(.ops [hd,nb,kZ])] [(.ops [(.i .l (.bin (.int j) .eql (.v 14) (.c (.int j 6)))),vb]),(.cond (.v 17) [(.ops [(.i (.v 7) HU),(.i (.v 8) (.a8 (.c (.int j 5))))])] [(.ops [(.i .l (.bin (.int j) .eql (.v 14) (.c (.int j 15)))),Hn]),(.cond (.v 18) [(.ops [(.i (.v 8) (.a8 (.c (.int j 15))))])] [(.ops [(.i .l (.bin (.int j) .eql (.v 14) (.c (.int j 18)))),Ho]),(.cond (.v 19) [(.ops [r5,aT,qB,nb,kZ])] [(.ops [oE,aT,M1]),(.cond (.v 15) [(.ops [HV]),.ret] [])])])])])])::(.ops [oE,aT,kH,Lx,cn,(.g (.l 0) U .l (.db 1 (.v 4))),ld,(.g (.l 2) U .l (.a8 (.v 8))),(.g (.l 3) U .l E0),(.i (.v 20) AF)])::(.cond (.v 20) [(.ops [GO]),.ret] [])::rest)] [fJ,cI,.int j O,.ptr h.n 0 0,.ptr (h.n+1) 0 0,.int j 0,cz,c7,dz,eD,dU,e1,gy,g5,j5,ph,nJ,oL,oM,vl,zx,xX,vm,vn,vo] [] ((h.push [[a8]]).push [[.int j op,.int j k,.int j n,v]])=bB (aU aq aa) 25 [.bP rest] [fJ,cI,.int j O,.ptr h.n 0 0,.ptr (h.n+1) 0 0,.int j 0,cz,iA,pT,eD,dU,e1,gy,g5,wQ,tY,pV,pW,AV,TB,TC,xX,vm,vn,vo] [] ((h.push [[a8]]).push [[.int j op,.int j k,.int j n,v]]))\/(hN cC op k O≠0/\m7 J [.v 5] h (bB (aU aq aa) 25 [.bP ((.ops [wv,rX])::(.ops [tT,(.i (.v 14) oD)])::(.block 0 [(.ops [(.i .l (.bin (.int j) .eql (.v 14) (.c (.int j 4)))),Cr]),(.cond (.v 16) [(.ops [hd,nb,kZ])] [(.ops [(.i .l (.bin (.int j) .eql (.v 14) (.c (.int j 6)))),vb]),(.cond (.v 17) [(.ops [(.i (.v 7) HU),(.i (.v 8) (.a8 (.c (.int j 5))))])] [(.ops [(.i .l (.bin (.int j) .eql (.v 14) (.c (.int j 15)))),Hn]),(.cond (.v 18) [(.ops [(.i (.v 8) (.a8 (.c (.int j 15))))])] [(.ops [(.i .l (.bin (.int j) .eql (.v 14) (.c (.int j 18)))),Ho]),(.cond (.v 19) [(.ops [r5,aT,qB,nb,kZ])] [(.ops [oE,aT,M1]),(.cond (.v 15) [(.ops [HV]),.ret] [])])])])])])::(.ops [oE,aT,kH,Lx,cn,(.g (.l 0) U .l (.db 1 (.v 4))),ld,(.g (.l 2) U .l (.a8 (.v 8))),(.g (.l 3) U .l E0),(.i (.v 20) AF)])::(.cond (.v 20) [(.ops [GO]),.ret] [])::rest)] [fJ,cI,.int j O,.ptr h.n 0 0,.ptr (h.n+1) 0 0,.int j 0,cz,c7,dz,eD,dU,e1,gy,g5,j5,ph,nJ,oL,oM,vl,zx,xX,vm,vn,vo] [] ((h.push [[a8]]).push [[.int j op,.int j k,.int j n,v]]))=o (.inl (.int j (hN cC op k O)),h)):=by
 have cf:aG h ((h.push [[a8]]).push [[.int j op,.int j k,.int j n,v]]):=(aG.push h _).trans (aG.push _ _);have hw:=ew (n:=O - 1) (by omega) (by omega);by_cases aH:op=4
 ·subst aH;by_cases ab:k<0
  ·refine .inr ⟨by simp[hN,ab],?_⟩;have ay:hN cC 4 k O=1:=by simp[hN,ab]
   rw[ay];simp only[ao,cN,hm,ng,hw,ab,dE cf (rfl:dl (.int j 1)=_)]
  ·by_cases bV:O<=k
   ·refine .inr ⟨by simp[hN,bV],?_⟩;have ay:hN cC 4 k O=1:=by simp[hN,bV]
    have nS:(O - 1)<k:=by omega
    rw[ay];simp only[ao,cN,hm,ng,hw,ab,nS,dE cf (rfl:dl (.int j 1)=_)]
   ·refine .inl ⟨by simp[hN,ab,bV],.int j 0,.int j (O - 1),.int j 4,ph,.bool J,oL,oM,vl,.bool U,?_⟩;have nS:¬(O - 1)<k:=by omega
    simp only[ao,cN,hm,ng,hw,ab,nS]
 by_cases cq:op=6
 ·subst cq;by_cases ab:k<1
  ·refine .inr ⟨by simp[hN,ab],?_⟩;have ay:hN cC 6 k O=1:=by simp[hN,ab]
   rw[ay];simp only[ao,cN,hm,ng,hw,ab,dE cf (rfl:dl (.int j 1)=_)]
  ·by_cases bV:5<k
   ·refine .inr ⟨by simp[hN,bV],?_⟩;have ay:hN cC 6 k O=1:=by simp[hN,bV]
    have nS:5<k:=by omega
    rw[ay];simp only[ao,cN,hm,ng,hw,ab,nS,dE cf (rfl:dl (.int j 1)=_)]
   ·refine .inl ⟨by simp[hN,ab,bV],.int j 1,.int j 5,.int j 6,ph,.bool U,.bool J,oM,vl,.bool U,?_⟩;have nS:¬5<k:=by omega
    simp only[ao,cN,hm,ng,hw,ab,nS]
 by_cases tI:op=15
 ·subst tI;by_cases ab:k<0
  ·refine .inr ⟨by simp[hN,ab],?_⟩;have ay:hN cC 15 k O=1:=by simp[hN,ab]
   rw[ay];simp only[ao,cN,hm,ng,hw,ab,dE cf (rfl:dl (.int j 1)=_)]
  ·by_cases bV:15<k
   ·refine .inr ⟨by simp[hN,bV],?_⟩;have ay:hN cC 15 k O=1:=by simp[hN,bV]
    have nS:15<k:=by omega
    rw[ay];simp only[ao,cN,hm,ng,hw,ab,nS,dE cf (rfl:dl (.int j 1)=_)]
   ·refine .inl ⟨by simp[hN,ab,bV],.int j 0,.int j 15,.int j 15,ph,.bool U,.bool U,.bool J,vl,.bool U,?_⟩;have nS:¬15<k:=by omega
    simp only[ao,cN,hm,ng,hw,ab,nS]
 by_cases zw:op=18
 ·subst zw;have hw:=ew (n:=(cC:Int) - 1) (by omega) (by omega);by_cases ab:k<0
  ·refine .inr ⟨by simp[hN,ab],?_⟩;have ay:hN cC 18 k O=1:=by simp[hN,ab]
   rw[ay];simp only[ao,cN,hm,ng,hw,ab,dE cf (rfl:dl (.int j 1)=_)]
  ·by_cases bV:(cC:Int)<=k
   ·refine .inr ⟨by simp[hN,bV],?_⟩;have ay:hN cC 18 k O=1:=by simp[hN,bV]
    have nS:((cC:Int) - 1)<k:=by omega
    rw[ay];simp only[ao,cN,hm,ng,hw,ab,nS,dE cf (rfl:dl (.int j 1)=_)]
   ·refine .inl ⟨by simp[hN,ab,bV],.int j 0,.int j ((cC:Int) - 1),.int j 18,ph,.bool U,.bool U,.bool U,.bool J,.bool U,?_⟩;have nS:¬((cC:Int) - 1)<k:=by omega
    simp only[ao,cN,hm,ng,hw,ab,nS]
 by_cases ab:k=0
 ·subst ab;refine .inl ⟨by simp[hN,aH,cq,tI,zw],.int j 0,.int j 0,.int j op,.bool U,.bool U,.bool U,.bool U,.bool U,.bool U,?_⟩;simp only[ao,Int.lt_irrefl,eq_self,aH,cq,tI,zw]
 ·have ay:hN cC op k O=5:=by simp[hN,aH,cq,tI,zw,ab]
  refine .inr ⟨by rw[ay];decide,?_⟩;rw[ay];simp only[ao,aH,cq,tI,zw,ab,dE cf (rfl:dl (.int j 5)=_)]
theorem atW(cC:Int)(x:bC)(v:F)(m:∀h,iW h v x.l)(c1:x.l.length<=100000)(O:Int)(aK:0<=O)(qS:O<=12)(a6:x.op=5->O≠12)(bo:∀y∈x.l,∀(q:List F) (h:ai) (O:Int),hq y q->0<=O->O<=12->aU aq aa 110 [.agg [a8],.agg q,.int j O] h=o (.inl (.int j (y.fault cC O)),h))(fJ cI c7 dz gy g5 j5 ph nJ oL oM vl zx xX:F):∀(l pre:List bC) (dU e1 vm vn vo:F),x.l=pre++l->m7 J [.v 5] h (bB (aU aq aa) 25 [.eM AR,.bP [],.cu 1,.bP [xF,.ret]] [fJ,cI,.int j O,.ptr h.n 0 0,.ptr (h.n+1) 0 0,.int j 0,.int j (x.l.length:Int),c7,dz,.int j pre.length,dU,e1,gy,g5,j5,ph,nJ,oL,oM,vl,zx,xX,vm,vn,vo] [] ((h.push [[a8]]).push [[.int j x.op,.int j x.k,.int j x.n,v]]))=o (.inl (.int j (rO cC x.op pre.length l O)),h):=by
 have cf:aG h ((h.push [[a8]]).push [[.int j x.op,.int j x.k,.int j x.n,v]]):=(aG.push h _).trans (aG.push _ _);intro l;induction l with
 |nil=>
   intro pre dU e1 vm vn vo e;have dT:x.l=pre:=by simpa using e
   have ba:¬((pre.length:Int)<(x.l.length:Int)):=by rw[dT];omega
   rw[cy AR.eq_1];simp only[ao,ar,av,ap,b2,ba,rO,dE cf (rfl:dl (.int j 0)=_)]
 |cons y l aR=>
   intro pre dU e1 vm vn vo e;have ba:(pre.length:Int)<(x.l.length:Int):=by rw[e];simp;omega
   obtain⟨a,q,i1,hh,iM⟩:=(m ((h.push [[a8]]).push [[.int j x.op,.int j x.k,.int j x.n,v]])).bJ pre.length y (by rw[e];simp);have ko:=hh _ (aG.refl _);have hw:=ew (n:=(pre.length:Int)+1) (by rw[e]at c1;simp at c1;omega) (by rw[e]at c1;simp at c1;omega);have be:((pre++[y]).length:Int)=(pre.length:Int)+1:=by simp
   have b1:(pre++[y]).length=pre.length+1:=by simp
   by_cases ga:x.op=5/\pre.length=1
   ·obtain⟨iH,ox⟩:=ga;have atP:=a6 iH;have Na:decide ((pre.length:Int)=1)=J:=by simp[ox]
    have ag3:decide (x.op=5)=J:=by simp[iH]
    have M':=ew (n:=O+1) (by omega) (by omega);have hU:=bo y (by rw[e];simp) q ((h.push [[a8]]).push [[.int j x.op,.int j x.k,.int j x.n,v]]) (O+1) iM (by omega) (by omega);rw[M8,if_pos ⟨iH,ox⟩];by_cases an:y.fault cC (O+1)=0
    ·have bx:=aR (pre++[y]) (.int j (O+1)) (.int j 0) (.bool J) (.bool J) (.bool U) (by simp[e]);rw[be,b1]at bx;rw[an]at hU;rw[an,AS];rw[cy AR.eq_1];simp only[ao,ar,av,ap,b2,ba,i1,ko,Na,ag3,M',hU,eq_self,hw];exact bx
    ·rw[zv an];rw[cy AR.eq_1];simp only[ao,ar,av,ap,b2,ba,i1,ko,Na,ag3,M',hU,an,dE cf (rfl:dl (.int j (y.fault cC (O+1)))=_)]
   ·have bg:(decide (x.op=5)&&decide ((pre.length:Int)=1))=U:=by
     rw[Bool.and_eq_false_iff,decide_eq_false_iff_not,decide_eq_false_iff_not];by_cases bq:x.op=5
     ·exact .inr (λaz=>ga ⟨bq,by omega⟩)
     ·exact .inl bq
    have hU:=bo y (by rw[e];simp) q ((h.push [[a8]]).push [[.int j x.op,.int j x.k,.int j x.n,v]]) O iM (by omega) (by omega);rw[M8,if_neg ga];by_cases an:y.fault cC O=0
    ·have bx:=aR (pre++[y]) (.int j O) (.int j 0) (.bool J) (.bool U) (.bool U) (by simp[e]);rw[be,b1]at bx;rw[an]at hU;rw[an,AS];rw[cy AR.eq_1];cases bq:decide (x.op=5)
     ·simp only[ao,ar,av,ap,b2,ba,i1,ko,bq,hU,eq_self,hw];exact bx
     ·rw[bq,Bool.true_and]at bg;simp only[ao,ar,av,ap,b2,ba,i1,ko,bq,bg,hU,eq_self,hw];exact bx
    ·rw[zv an];rw[cy AR.eq_1];cases bq:decide (x.op=5)
     ·simp only[ao,ar,av,ap,b2,ba,i1,ko,bq,hU,an,dE cf (rfl:dl (.int j (y.fault cC O))=_)]
     ·rw[bq,Bool.true_and]at bg;simp only[ao,ar,av,ap,b2,ba,i1,ko,bq,bg,hU,an,dE cf (rfl:dl (.int j (y.fault cC O))=_)]
theorem atX(Ai:cC<=100000)(hm:hX a8=o cC)(ng:∀s,kE s (o gp) a8=J)(Nc:a8.one=J):∀(N:Nat) (x:bC),lz x<=N->x.size<=100000->∀(r:List F) (h:ai) (O:Int),hq x r->0<=O->O<=12->aU aq aa 110 [.agg [a8],.agg r,.int j O] h=o (.inl (.int j (x.fault cC O)),h):=by
 intro N;induction N with
 |zero=>intro x aF;have:=x.m';omega
 |succ N aR=>
   intro x aF fa r h O he aK qS;obtain⟨v,es,e,Z,am⟩:=he.row;have m:∀h,iW h v x.l:=λh=>iW.of Z am;have bz:=(m h).one;have cD:=(m h).len;have f1:=(m h).fits;have hlen:=x.q5;subst e;have cf:aG h ((h.push [[a8]]).push [[.int j x.op,.int j x.k,.int j x.n,v]]):=(aG.push h _).trans (aG.push _ _);have AU:=atx (h:=((h.push [[a8]]).push [[.int j x.op,.int j x.k,.int j x.n,v]])) x.op;rw[bC.Ee];refine a4 ath rfl ?_;unfold agM;by_cases I:gw x.op<0
   ·have ay:nC cC x.op x.k x.n x.l.length O=2:=by simp[nC,I]
    rw[ay,zv (by decide)];simp only[ao,ar,av,ap,Nc,bz,AU,I,dE cf (rfl:dl (.int j 2)=_)]
   cases R:decide ((x.l.length:Int)=gw x.op)
   ·have o5:¬(x.l.length:Int)=gw x.op:=by simpa using R
    have ay:nC cC x.op x.k x.n x.l.length O=5:=by simp[nC,I,o5]
    rw[ay,zv (by decide)];simp only[ao,ar,av,ap,Nc,bz,AU,I,cD,f1,R,dE cf (rfl:dl (.int j 5)=_)]
   have o5:(x.l.length:Int)=gw x.op:=by simpa using R
   by_cases aj:x.n≠0/\x.op≠2
   ·have ay:nC cC x.op x.k x.n x.l.length O=5:=by simp[nC,I,o5,sG,aj]
    rw[ay,zv (by decide)];obtain⟨atY,atZ⟩:=aj;simp only[ao,ar,av,ap,Nc,bz,AU,I,cD,f1,R,atY,atZ,dE cf (rfl:dl (.int j 5)=_)]
   have be:sG cC x.op x.k x.n O=hN cC x.op x.k O:=by rw[ag1,if_neg aj,AS]
   have TD:∀K:List bb,bB (aU aq aa) 25 [.bP ((.ops [(.i (.v 3) (.box 1 (.v 0))),(.i (.v 4) (.box 4 (.v 1))),pJ])::(.ops [tT,aT,(.i .l (.call (.c (.fn 125 [] [])) [(.l 0)])),jM])::(.ops [ky,(.i (.v 12) Mc)])::(.cond (.v 12) [(.ops [(.i (.v 5) HJ)]),.ret] [])::K)] [.agg [a8],.agg [.int j x.op,.int j x.k,.int j x.n,v],.int j O,.aD,.aD,.aD,.aD,.aD,.aD,.aD,.aD,.aD,.aD,.aD,.aD,.aD,.aD,.aD,.aD,.aD,.aD,.aD,.aD,.aD,.aD] [] h=bB (aU aq aa) 25 [.bP K] [.agg [a8],.agg [.int j x.op,.int j x.k,.int j x.n,v],.int j O,.ptr h.n 0 0,.ptr (h.n+1) 0 0,.int j 0,.int j (gw x.op),.aD,.aD,.aD,.aD,.aD,.bool U,.aD,.aD,.aD,.aD,.aD,.aD,.aD,.aD,.aD,.aD,.aD,.aD] [] ((h.push [[a8]]).push [[.int j x.op,.int j x.k,.int j x.n,v]]):=by intro K;simp only[ao,ar,Nc,bz,AU,I]
   have first:∀K:List bb,bB (aU aq aa) 25 [.bP ((.ops [Lz,aT,qB,ky,Ha,cn,(.g (.l 0) U .l HM),ld,(.g (.l 2) U .l n5),SO,(.g (.l 0) J .l (.db 0 (.v 4))),nH,MQ,SP,(.i (.v 13) SQ)])::(.cond (.v 13) [(.ops [HV]),.ret] [])::K)] [.agg [a8],.agg [.int j x.op,.int j x.k,.int j x.n,v],.int j O,.ptr h.n 0 0,.ptr (h.n+1) 0 0,.int j 0,.int j (gw x.op),.aD,.aD,.aD,.aD,.aD,.bool U,.aD,.aD,.aD,.aD,.aD,.aD,.aD,.aD,.aD,.aD,.aD,.aD] [] ((h.push [[a8]]).push [[.int j x.op,.int j x.k,.int j x.n,v]])=bB (aU aq aa) 25 [.bP K] [.agg [a8],.agg [.int j x.op,.int j x.k,.int j x.n,v],.int j O,.ptr h.n 0 0,.ptr (h.n+1) 0 0,.int j 0,.int j (gw x.op),.aD,.aD,.aD,.aD,.aD,.bool U,.bool U,.aD,.aD,.aD,.aD,.aD,.aD,.aD,.aD,.aD,.aD,.aD] [] ((h.push [[a8]]).push [[.int j x.op,.int j x.k,.int j x.n,v]]):=by
    intro K;cases CI:decide (x.n=0)
    ·have iH:decide (x.op=2)=J:=by
      have at0:x.n≠0:=by simpa using CI
      simp only[decide_eq_true_eq];exact Classical.byContradiction λbA=>aj ⟨at0,bA⟩
     simp only[ao,cD,f1,R,CI,iH]
    ·simp only[ao,cD,f1,R,CI]
   rcases atV (h:=h) Ai hm ng x.op x.k x.n O aK qS v [(.ops [tT,aT,CB,cn,MW,Tu,(.i (.v 21) HT)]),(.cond (.v 21) [(.ops [(.i (.v 5) (.a8 (.c (.int j 3))))]),.ret] []),(.ops [CE]),(.block 1 [(.loop AR)]),xF,.ret] (.agg [a8]) (.agg [.int j x.op,.int j x.k,.int j x.n,v]) (.int j (gw x.op)) (.aD) (.aD) (.aD) (.aD) (.aD) (.bool U) (.bool U) (.aD) (.aD) (.aD) (.aD) (.aD) (.aD) (.aD) (.aD) (.aD) (.aD) (.aD)with⟨aH,iA,pT,wQ,tY,pV,pW,AV,TB,TC,bx⟩|⟨aH,bx⟩
   ·cases bq:(decide (x.op=5)&&decide (O=12))
    ·have ay:nC cC x.op x.k x.n x.l.length O=0:=by
      simp only[Bool.and_eq_false_iff,decide_eq_false_iff_not]at bq;simp only[nC,I,if_false,o5,ne_eq,not_true,be,aH];rw[if_neg];rintro⟨a,b⟩;rcases bq with bq|bq
      ·exact bq a
      ·exact bq b
     rw[ay,AS];have bL:=atW (h:=h) (a8:=a8) cC x v m (by omega) O aK qS (λa b=>by simp[a,b]at bq) (λy bH q h O aX=>aR y (by have:=bC.nB bH;omega) (by have:=bC.ql bH;omega) q h O aX) (.agg [a8]) (.agg [.int j x.op,.int j x.k,.int j x.n,v]) iA pT (.bool U) (.bool U) wQ tY pV pW AV TB TC (.bool U) x.l [] .aD .aD .aD .aD .aD rfl;simp only[fG,j']at bL;rw[o5]at bL;refine(congrArg (m7 J [.v 5] h) ((TD _).trans ((first _).trans bx))).trans ?_;cases c4:decide (x.op=5)
     ·simp only[ao,c4];exact bL
     ·rw[c4,Bool.true_and]at bq;simp only[ao,c4,bq];exact bL
    ·have ag4:=bq;simp only[gv]at bq;have ay:nC cC x.op x.k x.n x.l.length O=3:=by simp only[nC,I,if_false,o5,ne_eq,not_true,be,aH];simp only[decide_eq_true_eq]at bq;rw[if_pos bq]
     rw[ay,zv (by decide)];refine(congrArg (m7 J [.v 5] h) ((TD _).trans ((first _).trans bx))).trans ?_;simp only[ao,bq,dE cf (rfl:dl (.int j 3)=_)]
   ·have ay:nC cC x.op x.k x.n x.l.length O=hN cC x.op x.k O:=by simp only[nC,I,if_false,o5,ne_eq,not_true,be,aH,not_false_eq_true,if_true]
    rw[ay,zv aH];exact(congrArg (m7 J [.v 5] h) ((TD _).trans (first _))).trans bx
end
theorem TE(cC:Int)(i:Nat)(x:bC)(l:List bC):sH cC i (x::l)=if o' cC x≠0 then(o' cC x,(i:Int))else sH cC (i+1) l:=rfl
section
variable{h:ai}
theorem at1(v:F)(L:List bC)(m:∀h,iW h v L)(c1:L.length<=100000)(aC:∀x∈L,x.size<=100000)(fJ cz:F):∀(l pre:List bC) (E:ai) (dL b4 c7 dz eD dU:F),L=pre++l->aG h E->h.n+1<E.n->E.cell h.n=o [[v]]->E.cell (h.n+1)=o [[.int j 0,.int j 0]]->m7 J [.cell J 2 2] h (bB (aU aq aa) 11 [.eM M3,.bP [],.cu 0,.bP [(.ops [EU,sX]),.ret]] [fJ,.ptr h.n 0 0,.ptr (h.n+1) 0 0,.int j pre.length,dL,b4,cz,c7,dz,eD,dU] [] E)=o (.inl (.agg [.int j (sH L.length pre.length l).1,.int j (sH L.length pre.length l).2]),h):=by
 intro l;induction l with
 |nil=>
   intro pre E dL b4 c7 dz eD dU e g aA aW bD;have dT:L=pre:=by simpa using e
   have ba:¬((pre.length:Int)<(L.length:Int)):=by rw[dT];omega
   rw[cy M3.eq_1];simp only[ao,ar,av,ap,b2,aW,bD,(m E).len,(m E).fits,ba,sH,dE (g.set (show h.n<=h.n+1 by omega)) (rfl:dl (.agg [.int j 0,.int j 0])=_)]
 |cons y l aR=>
   intro pre E dL b4 c7 dz eD dU e g aA aW bD;have ba:(pre.length:Int)<(L.length:Int):=by rw[e];simp;omega
   obtain⟨a,q,i1,hh,iM⟩:=(m E).bJ pre.length y (by rw[e];simp);have ko:=hh _ (aG.refl E);obtain⟨bz,bG⟩:=iM.one;have HZ:=aC y (by rw[e];simp);have d1:(E.push [q]).cell h.n=o [[v]]:=(hp (by omega)).trans aW;have d2:(E.push [q]).cell (h.n+1)=o [[.int j 0,.int j 0]]:=(hp aA).trans bD;have cS:=g.trans (aG.push E [q]);have hw:=ew (n:=(pre.length:Int)+1) (by rw[e]at c1;simp at c1;omega) (by rw[e]at c1;simp at c1;omega);have be:((pre++[y]).length:Int)=(pre.length:Int)+1:=by simp
   have b1:(pre++[y]).length=pre.length+1:=by simp
   have fR:=atv _ y (b9 _) HZ q (E.push [q]) 30 iM (by omega) (by omega);have i6:=ag0 _ y (b9 _) q (E.push [q]) 120 iM (by omega) (by omega);have sY:=atX c1 (m E).len (m E).fits (m E).one _ y (b9 _) HZ q (E.push [q]) 0 iM (by omega) (by omega);have cf:∀es,aG h ((E.push [q]).set (h.n+1) es):=λes=>cS.set (by omega);have r7:∀a b:Int,dl (.agg [.int j a,.int j b])=o (.agg [.int j a,.int j b]):=λa b=>rfl;rw[TE];rw[cy M3.eq_1];by_cases bg:30<y.depth
   ·have n6:(30:Int)<min (y.depth:Int) (30+1):=by omega
    have nK:o' L.length y=4:=by simp[o',bg]
    rw[nK,if_pos (by decide)];simp only[ao,ar,av,ap,b2,aW,(m E).len,(m E).fits,ba,i1,ko,bz,bG,d2,fR,n6,HX,dE (cf _) (r7 _ _)]
   ·have n6:¬(30:Int)<min (y.depth:Int) (30+1):=by omega
    by_cases an:120<y.size
    ·have ja:(120:Int)<min (y.size:Int) (120+1):=by omega
     have nK:o' L.length y=3:=by simp[o',bg,an]
     rw[nK,if_pos (by decide)];simp only[ao,ar,av,ap,b2,aW,(m E).len,(m E).fits,ba,i1,ko,bz,bG,d1,d2,fR,n6,i6,ja,HX,dE (cf _) (r7 _ _)]
    ·have ja:¬(120:Int)<min (y.size:Int) (120+1):=by omega
     have nK:o' L.length y=y.fault L.length 0:=by simp[o',bg,an]
     rw[nK];by_cases bo:y.fault L.length 0=0
     ·rw[if_neg (by simp[bo])];have bx:=aR (pre++[y]) (E.push [q]) (.ptr E.n 0 0) (.int j 0) (.bool J) (.bool U) (.bool U) (.bool U) (by simp[e]) cS (by simp only[eC];omega) d1 d2;rw[be,b1]at bx;rw[bo]at sY;simp only[ao,ar,av,ap,b2,aW,(m E).len,(m E).fits,ba,i1,ko,bz,bG,d1,fR,n6,i6,ja,sY,eq_self,hw];exact bx
     ·rw[if_pos bo];simp only[ao,ar,av,ap,b2,aW,(m E).len,(m E).fits,ba,i1,ko,bz,bG,d1,d2,fR,n6,i6,ja,sY,bo,HX,dE (cf _) (r7 _ _)]
theorem at2(v:F)(L:List bC)(m:∀h,iW h v L)(c1:L.length<=100000)(aC:∀x∈L,x.size<=100000):aU aq aa 82 [.agg [v]] h=o (.inl (.agg [.int j (fl L).1,.int j (fl L).2]),h):=by
 have bz:=(m h).one;have cD:=(m h).len;have f1:=(m h).fits;have cf:aG h ((h.push [[v]]).push [[.int j 3,.int j (-1)]]):=(aG.push h _).trans (aG.push _ _);have r7:∀a b:Int,dl (.agg [.int j a,.int j b])=o (.agg [.int j a,.int j b]):=λa b=>rfl;refine a4 ati rfl ?_;unfold agN;by_cases ak:L.length=0
 ·have tL:(L.length:Int)<1:=by omega
  have e:fl L=(3, -1):=by simp[fl,ak]
  rw[e];simp only[ao,ar,av,ap,bz,cD,f1,tL,HX,dE cf (r7 _ _)]
 ·have tL:¬(L.length:Int)<1:=by omega
  by_cases cq:6<L.length
  ·have CJ:(6:Int)<(L.length:Int):=by omega
   have e:fl L=(3, -1):=by simp[fl,cq]
   rw[e];simp only[ao,ar,av,ap,bz,cD,f1,tL,CJ,HX,dE cf (r7 _ _)]
  ·have CJ:¬(6:Int)<(L.length:Int):=by omega
   have e:fl L=sH L.length 0 L:=by simp only[fl,ak,cq,or_self,if_false]
   rw[e];have bx:=at1 (h:=h) v L m c1 aC (.agg [v]) (.bool U) L [] ((h.push [[v]]).push [[.int j 0,.int j 0]]) .aD .aD .aD .aD .aD .aD rfl ((aG.push h _).trans (aG.push _ _)) (by simp only[eC];omega) o9 uZ;simp only[fG,j']at bx;simp only[ao,ar,av,ap,bz,cD,f1,tL,CJ];exact bx
theorem at3(v:F)(L:List bC)(m:iW h v L)(c1:L.length<=100000)(aC:∀x∈L,x.size<=100000)(fJ cz:F):∀(l pre:List bC) (E:ai) (eY dL b4 dU e1 gy:F),L=pre++l->aG h E->h.n+1<E.n->E.cell h.n=o [[v]]->E.cell (h.n+1)=o [[.int j 0,.int j 0]]->m7 J [.cell J 2 2] h (bB (aU aq aa) 13 [.eM MX,.bP [],.cu 0,.bP [(.ops [EU,sX]),.ret]] [fJ,.ptr h.n 0 0,.ptr (h.n+1) 0 0,eY,dL,b4,cz,v,.int j L.length,.int j pre.length,dU,e1,gy] [] E)=o (.inl (.agg [.int j (sH L.length pre.length l).1,.int j (sH L.length pre.length l).2]),h):=by
 intro l;induction l with
 |nil=>
   intro pre E eY dL b4 dU e1 gy e g aA aW bD;have dT:L=pre:=by simpa using e
   have ba:¬((pre.length:Int)<(L.length:Int)):=by rw[dT];omega
   rw[cy MX.eq_1];simp only[ao,ar,av,ap,b2,bD,ba,sH,dE (g.set (show h.n<=h.n+1 by omega)) (rfl:dl (.agg [.int j 0,.int j 0])=_)]
 |cons y l aR=>
   intro pre E eY dL b4 dU e1 gy e g aA aW bD;have ba:(pre.length:Int)<(L.length:Int):=by rw[e];simp;omega
   obtain⟨a,q,i1,hh,iM⟩:=m.bJ pre.length y (by rw[e];simp);have ko:=hh _ g;obtain⟨bz,bG⟩:=iM.one;have HZ:=aC y (by rw[e];simp);have qD:=m.one;have d1:(E.push [q]).cell h.n=o [[v]]:=(hp (by omega)).trans aW;have hw:=ew (n:=(pre.length:Int)+1) (by rw[e]at c1;simp at c1;omega) (by rw[e]at c1;simp at c1;omega);have be:((pre++[y]).length:Int)=(pre.length:Int)+1:=by simp
   have b1:(pre++[y]).length=pre.length+1:=by simp
   have r7:∀a b:Int,dl (.agg [.int j a,.int j b])=o (.agg [.int j a,.int j b]):=λa b=>rfl;have at4:aG h ((E.push [q]).push [[v,.int j 0]]):=(g.trans (aG.push E [q])).trans (aG.push _ _);have at5:((E.push [q]).push [[v,.int j 0]]).cell (E.n+1)=o [[v,.int j 0]]:=uZ;have fR:=atC _ y (b9 _) HZ q ((E.push [q]).push [[v,.int j 0]]) 30 iM (by omega) (by omega);have g9:∀{I R:ai} {c:Int},k1 (E.n+1) v c I R->E.n+1<I.n->I.cell E.n=o [q]->I.cell h.n=o [[v]]->I.cell (h.n+1)=o [[.int j 0,.int j 0]]->R.cell E.n=o [q]/\R.cell h.n=o [[v]]/\R.cell (h.n+1)=o [[.int j 0,.int j 0]]/\E.n+1<R.n:=λ{I R c} D fA cF cA dK=>
    ⟨(D.fF _ (by omega) (by omega)).trans cF,(D.fF _ (by omega) (by omega)).trans cA,(D.fF _ (by omega) (by omega)).trans dK,fS fA D.n⟩
   have h5:((E.push [q]).push [[v,.int j 0]]).cell E.n=o [q]:=o9;have cF:((E.push [q]).push [[v,.int j 0]]).cell h.n=o [[v]]:=(hp (by simp only[eC];omega)).trans d1;have cA:((E.push [q]).push [[v,.int j 0]]).cell (h.n+1)=o [[.int j 0,.int j 0]]:=(hp (by simp only[eC];omega)).trans ((hp aA).trans bD);have at6:E.n+1<((E.push [q]).push [[v,.int j 0]]).n:=by simp only[eC];omega
   obtain⟨I,bx,g6⟩:=vk at5 (!decide ((y.depth:Int)<=30)) 4;obtain⟨en,dB,gm,ag5⟩:=g9 g6 at6 h5 cF cA;have cS:=k1.h1 at4 (by omega) g6;have i6:=LT _ y (b9 _) q I 120 iM (by omega) (by omega);rw[TE];rw[cy MX.eq_1];by_cases bg:30<y.depth
   ·have n6:¬(y.depth:Int)<=30:=by omega
    have nK:o' L.length y=4:=by simp[o',bg]
    rw[nK,if_pos (by decide)];have aw:lW 0 (if(!decide ((y.depth:Int)<=30))=J then 4 else 0)=4:=by simp[lW,n6]
    rw[aw]at g6;obtain⟨R,bL,gg⟩:=vk g6.D U 3;rw[if_neg (by simp),TA]at gg;obtain⟨fB,bd,aY,TF⟩:=g9 gg ag5 en dB gm;have eQ:=(k1.h1 cS (by have:=g.n;omega) gg).set (b:=h.n+1) (es:=o [[.int j 4,.int j pre.length]]) (by omega);have bR:=g6.D;have bQ:=gg.D;simp only[n6,decide_false,Bool.not_false]at bx;simp only[ao,ar,av,ap,bY,b2,ba,i1,ko,bz,bG,qD,d1,fR,n6,h5,bx,bR,cN,bL,bQ,fB,aY,dE eQ (r7 _ _)]
   ·have n6:(y.depth:Int)<=30:=by omega
    have aw:lW 0 (if(!decide ((y.depth:Int)<=30))=J then 4 else 0)=0:=by simp[lW,n6]
    rw[aw]at g6;have bR:=g6.D;obtain⟨R,bL,gg⟩:=vk g6.D (decide (max (120 - (y.size:Int)) (-1)<0)) 3;rw[AS]at gg;obtain⟨fB,bd,aY,TF⟩:=g9 gg ag5 en dB gm;have cf:=k1.h1 cS (by have:=g.n;omega) gg;simp only[n6,decide_true,Bool.not_true]at bx;by_cases an:120<y.size
    ·have ja:max (120 - (y.size:Int)) (-1)<0:=by omega
     have nK:o' L.length y=3:=by simp[o',bg,an]
     rw[nK,if_pos (by decide)];rw[if_pos (by simpa using ja)]at gg;have bQ:=gg.D;have eQ:=cf.set (b:=h.n+1) (es:=o [[.int j 3,.int j pre.length]]) (by omega);simp only[ja,decide_true]at bL;simp only[ao,ar,av,ap,bY,b2,ba,i1,ko,bz,bG,qD,d1,fR,n6,h5,bx,en,bR,eq_self,i6,ja,cN,bL,bQ,fB,aY,dE eQ (r7 _ _)]
    ·have ja:¬max (120 - (y.size:Int)) (-1)<0:=by omega
     have nK:o' L.length y=y.fault L.length 0:=by simp[o',bg,an]
     rw[nK];rw[if_neg (by simpa using ja)]at gg;have bQ:=gg.D;simp only[ja,decide_false]at bL;obtain⟨aj,gE,tX⟩:=atS (b:=E.n+1) L.length m.len m.fits _ y (b9 _) HZ q R 0 iM (by omega) (by omega) gg.D TF;obtain⟨t0,t1,t2,aDM⟩:=g9 tX TF fB bd aY;have da:=tX.D;have eQ:=k1.h1 cf (by have:=g.n;omega) tX;by_cases bo:y.fault L.length 0=0
     ·rw[if_neg (by simp[bo])];have mo:=aR (pre++[y]) aj (.int j pre.length) (.ptr E.n 0 0) (.ptr (E.n+1) 0 0) (.bool J) (.bool J) (.bool U) (by simp[e]) eQ (by have:=g.n;omega) t1 t2;rw[be,b1]at mo;rw[bo]at da;simp only[ao,ar,av,ap,bY,b2,ba,i1,ko,bz,bG,qD,d1,fR,n6,h5,bx,en,bR,eq_self,i6,ja,bL,bQ,fB,gE,da,hw];exact mo
     ·rw[if_pos bo];have lv:=eQ.set (b:=h.n+1) (es:=o [[.int j (y.fault L.length 0),.int j pre.length]]) (by omega);simp only[ao,ar,av,ap,bY,b2,ba,i1,ko,bz,bG,qD,d1,fR,n6,h5,bx,en,bR,eq_self,i6,ja,bL,bQ,fB,gE,da,bo,t2,dE lv (r7 _ _)]
theorem at7(v:F)(L:List bC)(m:iW h v L)(c1:L.length<=100000)(aC:∀x∈L,x.size<=100000):aU aq aa 78 [.agg [v]] h=o (.inl (.agg [.int j (fl L).1,.int j (fl L).2]),h):=by
 have bz:=m.one;have cD:=m.len;have f1:=m.fits;have cf:aG h ((h.push [[v]]).push [[.int j 3,.int j (-1)]]):=(aG.push h _).trans (aG.push _ _);have r7:∀a b:Int,dl (.agg [.int j a,.int j b])=o (.agg [.int j a,.int j b]):=λa b=>rfl;refine a4 atc rfl ?_;unfold agE;by_cases ak:L.length=0
 ·have tL:decide ((L.length:Int)=0)=J:=by simp[ak]
  have e:fl L=(3, -1):=by simp[fl,ak]
  rw[e];simp only[ao,ar,av,ap,bY,bz,cD,f1,tL,dE cf (r7 _ _)]
 ·have tL:decide ((L.length:Int)=0)=U:=by rw[decide_eq_false_iff_not];omega
  by_cases cq:6<L.length
  ·have CJ:(6:Int)<(L.length:Int):=by omega
   have e:fl L=(3, -1):=by simp[fl,cq]
   rw[e];simp only[ao,ar,av,ap,bY,bz,cD,f1,tL,CJ,dE cf (r7 _ _)]
  ·have CJ:¬(6:Int)<(L.length:Int):=by omega
   have e:fl L=sH L.length 0 L:=by simp only[fl,ak,cq,or_self,if_false]
   rw[e];have bx:=at3 (h:=h) v L m c1 aC (.agg [v]) (.bool U) L [] ((h.push [[v]]).push [[.int j 0,.int j 0]]) .aD .aD .aD .aD .aD .aD rfl ((aG.push h _).trans (aG.push _ _)) (by simp only[eC];omega) o9 uZ;simp only[fG,j']at bx;simp only[ao,ar,av,ap,bY,bz,cD,f1,tL,CJ];exact bx
theorem at8{L:List bC}(a5:sI L=U):L.length<=20/\∀x∈L,x.size<=600:=by simp only[sI,Bool.or_eq_false_iff,decide_eq_false_iff_not,List.any_eq_false]at a5;exact⟨by omega,λx aF=>by have:=a5.2 x aF;simpa using this⟩
end
abbrev k2:a9:=184
abbrev ag6:a9:=174
abbrev gX(x:bv):List F:=[.int j x.op,.int j x.k,.int j x.n]
def ag7(v:F)(l:List bv)(h:ai):Prop:=(l=[]/\v= .aJ)\/∃q,l≠[]/\q<h.n/\v= .bw q 0 l.length k2/\h.cell q=o (l.map gX)
structure r8(b:Nat)(l:List bv)(h:ai):Prop where
 lt:b<h.n
 s:∃v,h.cell b=o [[v]]/\ag7 v l h
structure pi(b:Nat)(h E:ai):Prop where
 n:h.n<=E.n
 ids:h.ids<=E.ids
 hw:∀k,k<h.ids->E.hw k=h.hw k
 fF:∀k,k<h.n->k≠b->(∀m,h.cell b≠o [[.bw k 0 m k2]])->E.cell k=h.cell k
 cur:∀k,k<h.n->∀m,E.cell b=o [[.bw k 0 m k2]]->∃bf,h.cell b=o [[.bw k 0 bf k2]]
theorem pi.trans{b:Nat}{h E cP:ai}(x:pi b h E)(y:pi b E cP):pi b h cP:=by
 refine⟨e6 x.n y.n,e6 x.ids y.ids,λk ab=>(y.hw k (fS ab x.ids)).trans (x.hw k ab),λk ab ad an=>?_,λk ab m e=>?_⟩
 ·refine(y.fF k (fS ab x.n) ad λm e=>?_).trans (x.fF k ab ad an);obtain⟨bf,dT⟩:=x.cur k ab m e;exact an bf dT
 ·obtain⟨bf,dT⟩:=y.cur k (fS ab x.n) m e;exact x.cur k ab bf dT
theorem pi.push{b:Nat}{h:ai}(ad:b<h.n)(es:List (List F)):pi b h (h.push es):=⟨by simp[ai.push],by simp[ai.push],λ_ _=>rfl,λk ab _ _=>hp ab,λk ab m e=>⟨m,(hp ad).symm.trans e⟩⟩
theorem r8.push{b:Nat}{l:List bv}{h:ai}(m:r8 b l h)(es:List (List F)):r8 b l (h.push es):=by
 obtain⟨ad,v,Z,aC⟩:=m;refine⟨by simp only[eC];omega,v,(hp ad).trans Z,?_⟩;rcases aC with aC|⟨q,I,R,aj,aH⟩
 ·exact .inl aC
 ·exact .inr ⟨q,I,by simp only[eC];omega,aj,(hp R).trans aH⟩
structure Own(b c:Nat)(r:List (List F))(h:ai):Prop where
 lt:c<h.n
 ne:c≠b
 H0:∀m,h.cell b≠o [[.bw c 0 m k2]]
 c:h.cell c=o r
theorem Own.on{b c:Nat}{r:List (List F)}{h E:ai}(O:Own b c r h)(x:pi b h E):Own b c r E:=⟨fS O.lt x.n,O.ne,λm e=>(x.cur c O.lt m e).elim λbf dT=>O.H0 bf dT,(x.fF c O.lt O.ne O.H0).trans O.c⟩
theorem Own.new{b:Nat}{l:List bv}{h:ai}(m:r8 b l h)(r:List (List F)):Own b h.n r (h.push r):=by
 obtain⟨ad,v,Z,aC⟩:=m;refine⟨by simp[ai.push],by omega,λD e=>?_,hb⟩;rw[hp ad,Z]at e;rcases aC with⟨_,rfl⟩|⟨q,I,R,rfl,aH⟩
 ·simp at e
 ·simp only[iF,yY,F.bw.injEq,and_true]at e;omega
section
variable{h:ai}
theorem at9{b:Nat}{l:List bv}{v:F}(ad:b<h.n)(Z:h.cell b=o [[v]])(aC:ag7 v l h)(am:l.length<=1000000)(x:bv):∃E,eH J k2 v (.bw h.n 0 1 k2) (h.push [gX x])=o (.bw (h.n+1) 0 (l.length+1) k2,E)/\E.cell b=o [[v]]/\r8 b (l++[x]) (E.set b (o [[.bw (h.n+1) 0 (l.length+1) k2]]))/\pi b h (E.set b (o [[.bw (h.n+1) 0 (l.length+1) k2]])):=by
 rcases aC with⟨rfl,rfl⟩|⟨q,I,R,rfl,aH⟩
 ·have aW:((h.push [gX x]).push [gX x]).cell b=o [[.aJ]]:=(hp (by simp only[eC];omega)).trans ((hp ad).trans Z);refine⟨(h.push [gX x]).push [gX x],?_,aW,⟨by simp only[nY,eC];omega,_,lc,.inr ⟨h.n+1,by simp,by simp only[nY,eC];omega,rfl,?_⟩⟩,?_⟩
  ·simp[eH,js,kA,hb,eC,F.one]
  ·rw[eN (by omega)];exact uZ
  ·refine⟨by simp only[nY,eC];omega,b9 _,λ_ _=>rfl,λk ab aA _=>(eN aA).trans ((hp (by simp only[eC];omega)).trans (hp ab)),λk ab m e=>?_⟩;rw[lc]at e;simp at e;omega
 ·have Aa:q≠b:=by
   intro e;rw[e,Z]at aH;cases l with
   |nil=>exact I rfl
   |cons y l=>simp at aH
  have hlen:(l.map gX).length=l.length:=by simp
  have cB:((h.push [gX x]).cell q)=o (l.map gX):=(hp R).trans aH;refine⟨((h.push [gX x]).set q ag).push (l.map gX++[gX x]),?_,?_,⟨by simp only[nY,eC];omega,_,lc,.inr ⟨h.n+1,by simp,by simp only[nY,eC];omega,by simp,?_⟩⟩,?_⟩
  ·simp only[eH,js,if_true,hb,du,hj,ir,b9,List.drop_zero,List.take_succ_cons,List.take_zero,tE,if_false,kA];rw[if_pos ⟨by omega,by omega,by simp[F.one]⟩,if_pos ⟨trivial,trivial,am⟩,cB];have a6:List.take l.length (l.map gX)=l.map gX:=by rw[<-hlen,List.take_length]
   simp[eC,a6]
  ·rw[hp (by simp only[nY,eC];omega),eN (mG Aa),hp ad];exact Z
  ·rw[eN (by omega)];have:=hb (h:=(h.push [gX x]).set q ag) (es:=l.map gX++[gX x]);simpa[nY,eC]using this
  ·refine⟨by simp only[nY,eC];omega,b9 _,λ_ _=>rfl,λk ab aA an=>?_,λk ab m e=>?_⟩
   ·have:k≠q:=by rintro rfl;exact an l.length Z
    rw[eN aA,hp (by simp only[nY,eC];omega),eN this,hp ab]
   ·rw[lc]at e;simp at e;omega
theorem CK{b:Nat}{l:List bv}(m:r8 b l h)(am:l.length<=1000000)(op k n:Int):∃E,aU aq aa 80 [.ptr b 0 0,.int j op,.int j k,.int j n] h=o (.inl (.int j l.length),E)/\r8 b (l++[⟨op,k,n⟩]) E/\pi b h E:=by
 obtain⟨ad,v,Z,aC⟩:=m;obtain⟨E,aw,aW,cO,t1⟩:=at9 ad Z aC am ⟨op,k,n⟩;refine⟨_,?_,cO,t1⟩;have hw:=ew (n:=((l.length+1:Nat):Int) - 1) (by omega) (by omega);have ay:((l.length+1:Nat):Int) - 1=(l.length:Int):=by omega
 rw[ay]at hw;refine a4 as4 rfl ?_;unfold agc;simp only[ao,ar,av,ap,bY,Z,aw,aW,ay,hw]
theorem ag8{b:Nat}{A B:List bv}{x:bv}(m:r8 b (A++x::B) h)(am:(A++x::B).length<=1000000):∃E,aU aq aa 107 [.ptr b 0 0,.int j A.length] h=o (.inl (.bS []),E)/\r8 b (A++⟨x.op,((A++x::B).length:Nat),x.n⟩::B) E/\pi b h E:=by
 obtain⟨ad,v,Z,aC⟩:=m;rcases aC with⟨e,rfl⟩|⟨q,I,R,rfl,aH⟩
 ·simp at e
 ·have Aa:q≠b:=by intro e;rw[e,Z]at aH;cases A<;>simp at aH
  have fv:dY (o k2) ag (.bw q 0 (A++x::B).length k2) (.int j (A.length:Int))=o (.ptr q A.length 0):=by rw[Au rfl (by simp),ir]
  have a5:((A++x::B).map gX)[A.length]? =o (gX x):=by simp
  have H2:((A++x::B).map gX).set A.length [.int j x.op,.int j ((A++x::B).length:Int),.int j x.n]=(A++⟨x.op,((A++x::B).length:Nat),x.n⟩::B).map gX:=by simp
  refine⟨h.set q (o ((A++⟨x.op,((A++x::B).length:Nat),x.n⟩::B).map gX)),?_,⟨ad,_,(eN (mG Aa)).trans Z,.inr ⟨q,by simp,R,by simp,lc⟩⟩,?_⟩
  ·refine a4 as5 rfl ?_;unfold age;simp only[ao,ar,av,ap,bY,Z,fv,aH,a5,H2]
  ·refine⟨b9 _,b9 _,λ_ _=>rfl,λk ab aA an=>eN (by rintro rfl;exact an _ Z),λk ab m e=>?_⟩;rw[eN (mG Aa)]at e;exact⟨m,e⟩
end
theorem ag9(f:Nat->List bv):∀(dN:List (Nat->List bv)) (p:Nat),l7 (dN++[f]) p=l7 dN p++f (p+(l7 dN p).length)
 |[],p=>by simp[l7]
 |g::dN,p=>by simp only[nz,l7,ag9 f dN,fz,kS];rw[show p+(g p).length+(l7 dN (p+(g p).length)).length=p+((g p).length+(l7 dN (p+(g p).length)).length) by omega]
theorem at'{l:List bC}:∀{i:Nat} {y:bC},l[i]? =o y->fW (l.take i)+y.size<=fW l:=by
 induction l with
 |nil=>intro i y h;simp at h
 |cons x l aR=>
   intro i y h;cases i with
   |zero=>
     obtain rfl:x=y:=by simpa using h
     simp[fW]
   |succ i=>have:=aR (i:=i) (y:=y) (by simpa using h);simp only[List.take_succ_cons,fW];omega
theorem ag'(l:List bC)(p:Nat):(l7 (l.map cW) p).length<=3*fW l:=Qt l p λy _ p=>y5 _ y (b9 _) p
section
variable{h:ai}
theorem aua(cC:Int):∀(N:Nat) (x:bC),lz x<=N->∀(O:Int),x.fault cC O=0->∀(r:List F) (h:ai) (b:Nat) (l:List bv),hq x r->r8 b l h->l.length+3*x.size<=100000->∃E,aU aq aa 79 [.ptr b 0 0,.agg r] h=o (.inl (.bS []),E)/\(r8 b (l++cW x l.length) E/\pi b h E):=by
 intro N;induction N with
 |zero=>intro x aF;have:=x.m';omega
 |succ N aR=>
   intro x aF O bo r h b l he m am;obtain⟨v,es,rfl,eL,Z,aA,fv⟩:=he.facts;obtain⟨f1,f2,f3,f4,f5⟩:=KI bo;have aC:=x.size_eq;obtain⟨R,ay,c8,t2⟩:=CK (m.push [[.int j x.op,.int j x.k,.int j x.n,v]]) (by omega) 100 0 0;have bG:=(Own.new m [[.int j x.op,.int j x.k,.int j x.n,v]]).on t2;have t2:=(pi.push m.lt [[.int j x.op,.int j x.k,.int j x.n,v]]).trans t2;have E1:∀y∈x.l,∀(O:Int),y.fault cC O=0->∀(r:List F) (h:ai) (l:List bv),hq y r->r8 b l h->l.length+3*y.size<=100000->∃E,aU aq aa 79 [.ptr b 0 0,.agg r] h=o (.inl (.bS []),E)/\(r8 b (l++cW y l.length) E/\pi b h E):=λy bH O bo r h l=>aR y (by have:=bC.nB bH;omega) O bo r h b l;rw[mp];have eM:∀(i:Nat) (y:bC),x.l[i]? =o y->y∈x.l:=λi y bH=>o6 bH;by_cases bq:x.op=5
   ·rw[bq]at f2 f5 ay bG;have uI:x.l.length=2:=by simp[gw]at f2;omega
    obtain⟨a,c,iT⟩:=ary uI;rw[iT]at f5 aC;obtain⟨cS,cf⟩:=BZ f5;obtain⟨eQ,_⟩:=BZ cf;simp only[Nat.zero_ne_one,and_false,if_false,and_self,if_true,ir]at cS eQ;simp only[fW]at aC;obtain⟨bR,i1,d1,cb⟩:=fv 0 a (by rw[iT];rfl);obtain⟨bQ,hh,d2,dF⟩:=fv 1 c (by rw[iT];rfl);have i1:dY (o gp) ag v (.int j 0)=o (.ip bR 0):=i1;have hh:dY (o gp) ag v (.int j 1)=o (.ip bQ 0):=hh;obtain⟨aj,be,hK,t3⟩:=E1 a (by rw[iT];simp) O (by simpa using cS) bR R _ cb c8 (by simp only[fz,hj];omega);have fA:=y5 _ a (b9 _) (l++[(⟨100,0,0⟩:bv)]).length;have et:=bG.on t3;obtain⟨aH,b1,d',t4⟩:=CK hK (by simp only[fz,hj]at fA ⊢;omega) 101 0 0;have e8:=et.on t4;obtain⟨ag4,c4,sZ,t5⟩:=E1 c (by rw[iT];simp) (O+1) eQ bQ aH _ dF d' (by simp only[fz,hj]at fA ⊢;omega);have kX:=y5 _ c (b9 _) (l++[(⟨100,0,0⟩:bv)]++cW a (l++[(⟨100,0,0⟩:bv)]).length++[(⟨101,0,0⟩:bv)]).length;obtain⟨cq,mn,zy,t6⟩:=CK sZ (by simp only[fz,hj]at fA kX ⊢;omega) 102 0 0;refine RH Tk rfl λQ cQ=>?_;unfold MM;simp only[ao,ar,av,ap,Z,ay,bG.c,bq,cN,i1,d1,be,b1,e8.c,hh,d2,c4,mn];refine cQ _ _ rfl ⟨?_,(((t2.trans t3).trans t4).trans t5).trans t6⟩;have aw:(l++[(⟨100,0,0⟩:bv)]).length=l.length+1:=by simp
    rw[aw]at zy;have b1:(l++[(⟨100,0,0⟩:bv)]++cW a (l.length+1)++[(⟨101,0,0⟩:bv)]).length=l.length+1+(cW a (l.length+1)).length+1:=by simp;omega
    rw[b1]at zy;rw[iT,bq];simpa only[wg,Qr,if_true,kf,pt,kS,nz,l3]using zy
   ·have oo:=Ed bq f5;by_cases de:x.op=7
    ·rw[de]at f2 ay bG;have uI:x.l.length=3:=by simp[gw]at f2;omega
     obtain⟨a,c,d,iT⟩:=arz uI;rw[iT]at aC oo;simp only[fW]at aC;obtain⟨bR,i1,d1,cb⟩:=fv 0 a (by rw[iT];rfl);obtain⟨bQ,hh,d2,dF⟩:=fv 1 c (by rw[iT];rfl);obtain⟨da,iM,d3,gH⟩:=fv 2 d (by rw[iT];rfl);have i1:dY (o gp) ag v (.int j 0)=o (.ip bR 0):=i1;have hh:dY (o gp) ag v (.int j 1)=o (.ip bQ 0):=hh;have iM:dY (o gp) ag v (.int j 2)=o (.ip da 0):=iM;obtain⟨aj,be,hK,t3⟩:=E1 a (by rw[iT];simp) O (oo a (by simp)) bR R _ cb c8 (by simp only[fz,hj];omega);have fA:=y5 _ a (b9 _) (l++[(⟨100,0,0⟩:bv)]).length;generalize eA:l++[(⟨100,0,0⟩:bv)]++cW a (l++[(⟨100,0,0⟩:bv)]).length=A at hK;have AW:A.length<=l.length+1+3*a.size:=by rw[<-eA];simp only[fz,hj]at fA ⊢;omega
     have et:=bG.on t3;obtain⟨aH,b1,d',t4⟩:=CK hK (by omega) 103 0 0;have e8:=et.on t4;obtain⟨ag4,c4,sZ,t5⟩:=E1 c (by rw[iT];simp) O (oo c (by simp)) bQ aH _ dF d' (by simp only[fz,hj];omega);have kX:=y5 _ c (b9 _) (A++[(⟨103,0,0⟩:bv)]).length;generalize sq:cW c (A++[(⟨103,0,0⟩:bv)]).length=B at sZ kX;have hL:=e8.on t5;obtain⟨cq,mn,zy,t6⟩:=CK sZ (by simp only[fz,hj];omega) 104 0 0;have rI:=hL.on t6;obtain⟨TG,j3,CL,t7⟩:=ag8 (A:=A) (x:=(⟨103,0,0⟩:bv)) (B:=B++[(⟨104,0,0⟩:bv)]) (by simpa using zy) (by simp only[fz,ho,fG];omega);have m4:=rI.on t7;obtain⟨hu,pj,TH,t8⟩:=E1 d (by rw[iT];simp) O (oo d (by simp)) da TG _ gH CL (by simp only[fz,ho,fG];omega);obtain⟨rR,qE,H3,t9⟩:=ag8 (A:=A++⟨103,((A++(⟨103,0,0⟩:bv)::(B++[(⟨104,0,0⟩:bv)])).length:Nat),0⟩::B) (x:=(⟨104,0,0⟩:bv)) (B:=cW d (A++⟨103,((A++(⟨103,0,0⟩:bv)::(B++[(⟨104,0,0⟩:bv)])).length:Nat),0⟩::(B++[(⟨104,0,0⟩:bv)])).length) (by simpa using TH) (by have:=y5 _ d (b9 _) (A++⟨103,((A++(⟨103,0,0⟩:bv)::(B++[(⟨104,0,0⟩:bv)])).length:Nat),0⟩::(B++[(⟨104,0,0⟩:bv)])).length;simp only[fz,ho,fG]at this ⊢;omega);have AX:((A++⟨103,((A++(⟨103,0,0⟩:bv)::(B++[(⟨104,0,0⟩:bv)])).length:Nat),0⟩::B).length:Int)=((A++[(⟨103,0,0⟩:bv)]++B).length:Int):=by simp
     rw[AX]at qE;refine RH Tk rfl λQ cQ=>?_;unfold MM;simp only[ao,ar,av,ap,Z,ay,bG.c,de,cN,i1,d1,be,b1,e8.c,hh,d2,c4,mn,j3,m4.c,iM,d3,pj,qE];refine cQ _ _ rfl ⟨?_,(((((((t2.trans t3).trans t4).trans t5).trans t6).trans t7).trans t8).trans t9)⟩;rw[iT];have TI:A.length=l.length+1+(cW a (l.length+1)).length:=by rw[<-eA];simp;omega
     have Nd:cW c (l.length+1+(cW a (l.length+1)).length+1)=B:=by rw[<-sq];congr 1;simp only[fz,hj,TI]
     have nh:q6 (cW a) (cW c) l.length=A.length+1+B.length+1:=by unfold q6;rw[Nd,TI]
     have s0:∀X:List bv,A++X=l++(⟨100,0,0⟩:bv)::(cW a (l.length+1)++X):=λX=>by rw[<-eA];simp
     have aub:(A++(⟨103,0,0⟩:bv)::(B++[(⟨104,0,0⟩:bv)])).length=A.length+1+B.length+1:=by simp;omega
     rw[de];simp only[wg,show ¬((7:Int)=5) by decide,if_false,if_true,kf,pt,Qs,nh,Nd];rw[aub]at H3;have auc:(A++⟨103,((A.length+1+B.length+1:Nat):Int),0⟩::(B++[(⟨104,0,0⟩:bv)])).length=A.length+1+B.length+1:=by simp;omega
     rw[auc]at H3;have ki:l++(⟨100,0,0⟩:bv)::(cW a (l.length+1)++⟨103,((A.length+1+B.length+1:Nat):Int),0⟩::(B++⟨104,((A.length+1+B.length+1+(cW d (A.length+1+B.length+1)).length:Nat):Int),0⟩::cW d (A.length+1+B.length+1)))=A++⟨103,((A.length+1+B.length+1:Nat):Int),0⟩::B++⟨104,((A++⟨103,((A.length+1+B.length+1:Nat):Int),0⟩::B++(⟨104,0,0⟩:bv)::cW d (A.length+1+B.length+1)).length:Nat),0⟩::cW d (A.length+1+B.length+1):=by
      rw[kS,nz,s0];have:A.length+1+B.length+1+(cW d (A.length+1+B.length+1)).length=(A++⟨103,((A.length+1+B.length+1:Nat):Int),0⟩::B++(⟨104,0,0⟩:bv)::cW d (A.length+1+B.length+1)).length:=by simp;omega
      rw[this]
     rw[ki];exact H3
    ·have c1:x.l.length<=100000:=by have:=x.q5;omega
     refine RH Tk rfl λQ cQ=>?_;unfold MM;simp only[ao,ar,av,ap,Z,ay,bG.c,bq,de,eL.len,eL.fits];refine pN (λi V E=>∃b4 dU,V=[.ptr b 0 0,.agg [.int j x.op,.int j x.k,.int j x.n,v],.ptr h.n 0 0,.aD,.aD,b4,.int j x.op,v,.int j es.length,.int j (i:Nat),dU,.bool U,.bool U]/\r8 b (l++(⟨100,0,0⟩:bv)::l7 ((x.l.take i).map cW) (l.length+1)) E/\pi b h E/\Own b h.n [[.int j x.op,.int j x.k,.int j x.n,v]] E) x.l.length ⟨_,_,rfl,by simpa[l7]using c8,t2,bG⟩ ?_ ?_
     ·rintro i V E af ⟨b4,dU,rfl,hK,t3,et⟩ next
      obtain⟨y,bH⟩:∃y,x.l[i]? =o y:=⟨_,fT af⟩;obtain⟨q,i1,d1,cb⟩:=fv i y bH;have ba:(i:Int)<(es.length:Int):=by rw[aA];omega
      have hw:=ew (n:=(i:Int)+1) (by omega) (by omega);have fa:=at' bH;have TJ:=ag' (x.l.take i) (l.length+1);obtain⟨aW,bD⟩:=cb.one;obtain⟨aH,b1,d',t4⟩:=E1 y (eM i y bH) O (by have:=oo y (eM i y bH);simpa using this) q (E.push [q]) _ cb (hK.push [q]) (by simp only[fz,ho];omega);have e8:=(et.on (pi.push hK.lt [q])).on t4;rw[cy Tf.eq_1];simp only[ao,ar,av,ap,reduceCtorEq,b2,ba,i1,d1,aW,bD,b1,hw];refine next _ _ ⟨_,_,rfl,?_,(t3.trans (pi.push hK.lt [q])).trans t4,e8⟩
      rw[Ce bH,u5,kf,pt,ag9];have e:l.length+1+(l7 ((x.l.take i).map cW) (l.length+1)).length=(l++(⟨100,0,0⟩:bv)::l7 ((x.l.take i).map cW) (l.length+1)).length:=by simp;omega
      rw[e];simpa using d'
     ·rintro V E ⟨b4,dU,rfl,hK,t3,et⟩;have ba:¬((x.l.length:Int)<(es.length:Int)):=by rw[aA];omega
      rw[List.take_length]at hK;have TJ:=ag' x.l (l.length+1);obtain⟨aH,b1,d',t4⟩:=CK hK (by simp only[fz,ho];omega) x.op x.k x.n;rw[cy Tf.eq_1];simp only[ao,ar,av,ap,reduceCtorEq,b2,ba,et.c,b1];refine cQ _ _ rfl ⟨?_,t3.trans t4⟩;simpa[wg,bq,de]using d'
end
theorem aud(l:List bv):∀r∈l.map gX,r.all wb=J:=by intro r au;obtain⟨x,_,rfl⟩:=nt.1 au;rfl
section
variable{h:ai}
end
def lD(x:bC):List bv:=cW x 0++[⟨105,0,0⟩]
structure aue(ak h:ai)(v:F)(rows:List (List F))(L:List bC):Prop where
 acc:Acc ak h ag6 v rows
 g:aG ak h
 len:rows.length=L.length
 bJ:∀(i:Nat) (x:bC),L[i]? =o x->∃q,rows[i]? =o [.bw q 0 (lD x).length k2]/\ak.n<=q/\q<h.n/\h.cell q=o ((lD x).map gX)/\∀D fk m,D<i->rows[D]? =o [.bw fk 0 m k2]->fk≠q
theorem pi.h1{b:Nat}{ak h E:ai}(g:aG ak h)(ad:ak.n<=b)(an:∀k,k<ak.n->∀m,h.cell b≠o [[.bw k 0 m k2]])(x:pi b h E):aG ak E:=⟨e6 g.n x.n,e6 g.ids x.ids,λk ab=>(x.fF k (fS ab g.n) (by omega) (an k ab)).trans (g.cell k ab),λk ab=>(x.hw k (fS ab g.ids)).trans (g.hw k ab)⟩
theorem Acc.on{ak h E:ai}{e:a9}{v:F}{acc:List (List F)}(a:Acc ak h e v acc)(I:h.ids<=E.ids)(R:∀k,k<h.ids->E.hw k=h.hw k):Acc ak E e v acc:=by
 rcases a with a|⟨id,jI,aP,a2,bl,cr⟩
 ·exact .inl a
 ·exact .inr ⟨id,jI,aP,fS a2 I,(R id a2).trans bl,cr⟩
theorem aha{cC:Int}:∀{L:List bC} {i:Nat},(sH cC i L).1=0->sH cC i L=(0,0)/\∀x∈L,o' cC x=0
 |[],i,_=>⟨rfl,by simp⟩
 |x::L,i,h=>by
   rw[TE]at h ⊢;by_cases bo:o' cC x=0
   ·rw[if_neg (by simp[bo])]at h ⊢;obtain⟨a,b⟩:=aha h;refine⟨a,λy bH=>?_⟩;rcases mJ.1 bH with e|bH
    ·rw[e];exact bo
    ·exact b y bH
   ·rw[if_pos bo]at h;exact absurd h bo
theorem TK{L:List bC}(h:(fl L).1=0):fl L=(0,0)/\L.length<=6/\∀x∈L,x.fault L.length 0=0/\x.size<=120:=by
 unfold fl at h ⊢;split at h
 ·cases h
 ·rename_i am;rw[if_neg am];obtain⟨a,b⟩:=aha h;refine⟨a,by omega,λx aF=>?_⟩;have:=b x aF;unfold o' at this;split at this
  ·cases this
  ·split at this
   ·cases this
   ·exact⟨this,by omega⟩
theorem auf{L:List bC}(h:(fl L).1=0):L≠[]:=by rintro rfl;simp[fl]at h
section
variable{P:c'}
theorem AC.aug{g:di}{args:List F}{id:Option Nat}{e:a9}{gS:List (List F)}{b6:F}{h E:ai}{N:Nat}(iT:AC P g args h (.inl (.bS [.b5 id e es,b6]),E))(bo:wJ N E es=o (gS,R)):AC P g args h (.inl (.bS [.b5 ag e gS,b6]),R):=by
 intro m w bI hw fQ;refine(iT m w bI hw fQ).mono λdj bj ⟨bf,cb,dF,gH,u,he,bV⟩=>?_;simp only at cb dF bV;cases bV with
 |bS _ ch bR bQ=>
   obtain⟨jw,hD,rfl⟩:∃jw hD,ch=[jw,hD]:=by
    match ch,bR with
    |[a,b],_=>exact⟨a,b,rfl⟩
   have cI:=bQ 0 (by simp) (by simp);have AY:=bQ 1 (by simp) (by simp);simp only[List.getElem_cons_zero,List.getElem_cons_succ]at cI AY;have key:∃c8,Ext bf E c8 R/\cp P c8 R bj/\b8 P c8 R (.b5 ag e gS) jw:=by
    cases cI with
    |b5 _ _ _ g O cap ah am af Z an a6=>
      obtain⟨c8,fU,jV,ls,ot,m5⟩:=(ae1 N).2.2 bf E bj es ah gS R dF Z bo;refine⟨c8,fU,jV,?_⟩;have me:∀i (af:i<gS.length),gS[i].length=P.cellsOf e:=λi af=>by rw[ot i af (by omega)];exact am _ (jl _)
      have key:=b8.b5 (P:=P) (m:=c8) (h:=R) ag e gS g O cap ah (λr au=>by obtain⟨i,af,rfl⟩:=List.getElem_of_mem au;exact me i af) (λi fb D ae=>fU.eP _ _ _ (af i (by omega) D ae)) m5 (by omega) (λk ab=>by cases ab);rwa [ls]at key
    |oY _ a cap=>obtain⟨c8,fU,jV,ls,ot,m5⟩:=(ae1 N).2.2 bf E bj [] (λ_ _=>g0) gS R dF (λi af=>by simp at af) bo;have:gS=[]:=sy.1 (by simpa using ls);subst this;exact⟨c8,fU,jV,.oY e a cap⟩
   obtain⟨c8,fU,jV,ls⟩:=key;refine⟨c8,cb.trans fU,jV,gH,_,he,?_⟩;exact .bS _ _ rfl λD ae dM=>by
    match D,ae with
    |0,_=>exact ls
    |1,_=>exact AY.ext fU
end
theorem auh:ae0 aq aa 40 1 13 [0,1,2,3,4,5,7,8,13,16,17,18,19] MN [(.v 2),(.cell J 2 3)]:=⟨_,_,Tryz.func40,rfl,by kernel_rfl,by kernel_rfl,by kernel_rfl,by kernel_rfl⟩
theorem aui:∀(N:Nat),(∀(x y:bC) (r:List F),lz x<=N->hq x r->hq y r->x=y)/\(∀(l ch:List bC) (es:List (List F)),lz l<=N->g3 l es->g3 ch es->l=ch):=by
 intro N;induction N with
 |zero=>exact⟨λx _ _ aF=>by have:=x.m';omega,λl _ _ am=>by cases l<;>simp at am⟩
 |succ N aR=>
   refine⟨λx y r aF I R=>?_,λl ch es am I R=>?_⟩
   ·cases x with
    |mk op k n l=>
      cases y with
      |mk aDN ee cj ch=>
        obtain⟨v,es,aw,bd,bR⟩:=I;obtain⟨a',gS,ay,aY,bQ⟩:=R;rw[aw]at ay;simp only[yY,F.int.injEq,true_and,and_true]at ay;obtain⟨rfl,rfl,rfl,rfl⟩:=ay;have:es=gS:=by
         rcases bd with⟨rfl,rfl⟩|⟨i,rfl⟩<;>rcases aY with⟨rfl,e⟩|⟨D,e⟩
         ·rfl
         ·cases e
         ·cases e
         ·injection e
        subst this;simp only[bC.mk.sizeOf_spec]at aF;rw[aR.2 l ch es (by omega) bR bQ]
   ·cases l with
    |nil=>
      simp only[g3]at I;subst I;cases ch with
      |nil=>rfl
      |cons y ch=>obtain⟨_,_,e,_⟩:=R;cases e
    |cons x l=>
      obtain⟨r,rs,rfl,aP,a2⟩:=I;cases ch with
      |nil=>simp only[g3]at R;cases R
      |cons y ch=>obtain⟨br,tC,e,cg,c0⟩:=R;injection e with aw ay;subst aw;subst ay;simp only[List.cons.sizeOf_spec]at am;rw[aR.1 x y r (by omega) aP cg,aR.2 l ch rs (by omega) a2 c0]
section
variable{h:ai}
theorem ahb:∀(rows:List (List F)) (L:List bC) (h:ai) (N:Nat),rows.length=L.length->5*L.length+3000<=N->(∀(i:Nat) (x:bC),L[i]? =o x->∃q,rows[i]? =o [.bw q 0 (lD x).length k2]/\h.cell q=o ((lD x).map gX)/\(lD x).length<=1000/\∀D fk m,D<i->rows[D]? =o [.bw fk 0 m k2]->fk≠q)->∃R,wJ N h rows=o (L.map λx=>[.b5 ag k2 ((lD x).map gX)],R)/\R.n=h.n/\R.ids=h.ids/\R.hw=h.hw/\∀k,(∀(i m:Nat),rows[i]?≠o [F.bw k 0 m k2])->R.cell k=h.cell k
 |[],L,h,N,am,e5,_=>by have:L=[]:=sy.1 (by simpa using am.symm);subst this;obtain⟨N,rfl⟩:∃CM,N=CM+1:=⟨N - 1,by omega⟩;exact⟨h,rfl,rfl,rfl,rfl,λ_ _=>rfl⟩
 |r::rows,[],h,N,am,e5,_=>by simp at am
 |r::rows,x::L,h,N,am,e5,aF=>by
   obtain⟨N,rfl⟩:∃CM,N=CM+3:=⟨N - 3,by omega⟩;obtain⟨q,dj,cB,hT,_⟩:=aF 0 x rfl;simp only[oq,iF]at dj;subst dj;have ne:(lD x).length≠0:=by simp[lD]
   have flat:∀(l:List bv) (M:Nat) (g:ai),5+l.length<=M->wJ M g (l.map gX)=o (l.map gX,g):=by
    intro l;induction l with
    |nil=>intro M g kJ;obtain⟨M,rfl⟩:∃CM,M=CM+1:=⟨M - 1,by omega⟩;rfl
    |cons y l aR=>intro M g kJ;simp only[ho]at kJ;obtain⟨M,rfl⟩:∃CM,M=CM+5:=⟨M - 5,by omega⟩;have:=aR (M+4) g (by omega);simp only[kf,wJ,wK,xT,du,i3,this]
   have Nf:((lD x).map gX).take (lD x).length=(lD x).map gX:=List.take_of_length_le (by simp);have eA:xT (N+1) h (.bw q 0 (lD x).length k2)=o (.b5 ag k2 ((lD x).map gX),h.set q ag):=by simp only[xT,if_true,cB,du,fM];rw[if_pos ⟨b9 _,ne⟩,Nf,flat (lD x) N _ (by simp only[ho]at e5;omega)];rfl
   obtain⟨R,f1,f2,f3,f4,f5⟩:=ahb rows L (h.set q ag) (N+2) (by simpa using am) (by simp only[ho]at e5;omega) λi y bH=>by obtain⟨bQ,ay,bD,c9,d2⟩:=aF (i+1) y (by simpa using bH);refine⟨bQ,by simpa using ay,?_,c9,λD fk m ae aX=>d2 (D+1) fk m (by omega) (by simpa using aX)⟩;rw[eN (mG (d2 0 q _ (by omega) rfl))];exact bD
   refine⟨R,?_,f2,f3,f4,λk ab=>?_⟩
   ·have auj:wK (N+2) h [.bw q 0 (lD x).length k2]=o ([.b5 ag k2 ((lD x).map gX)],h.set q ag):=by simp only[wK,eA,du,i3]
    simp only[wJ,auj,du,f1,i3,kf]
   ·rw[f5 k λi m hm=>ab (i+1) m (by simpa using hm),eN λe=>ab 0 (lD x).length (by rw[e];rfl)]
def CN(h:ai)(L:List bC)(hi:F)(E:ai):Prop:=if(fl L).1=0 then ∃rows,(∃id,hi= .b5 id ag6 rows)/\rows.length=L.length/\∀(i:Nat) (x:bC),L[i]? =o x->∃q,rows[i]? =o [.bw q 0 (lD x).length k2]/\h.n<=q/\E.cell q=o ((lD x).map gX)/\∀(D fk m:Nat),D<i->rows[D]? =o [.bw fk 0 m k2]->fk≠q else hi= .aJ
theorem auk(v:F)(L:List bC)(m:∀h,iW h v L)(c1:L.length<=100000)(aC:∀x∈L,x.size<=100000):∃gI E hi,bB (aU aq aa) 13 [.bP MN] ([.agg [v]]++ap ([0,1,2,3,4,5,7,8,13,16,17,18,19].length - [F.agg [v]].length) .aD) [] h=o (.ret,gI,E)/\(jc gI E [(.v 2),(.cell J 2 3)]).map ju=o (.bS [hi,.agg [.int j (fl L).1,.int j (fl L).2]])/\aG h E/\CN h L hi E:=by
 suffices key:∀Q:mi->Prop,(∀gI E hi,(jc gI E [(.v 2),(.cell J 2 3)]).map ju=o (.bS [hi,.agg [.int j (fl L).1,.int j (fl L).2]])->aG h E->CN h L hi E->Q (o (.ret,gI,E)))->Q (bB (aU aq aa) 13 [.bP MN] ([.agg [v]]++ap ([0,1,2,3,4,5,7,8,13,16,17,18,19].length - [F.agg [v]].length) .aD) [] h) from key (λx=>∃gI E hi,x=o (.ret,gI,E)/\(jc gI E [(.v 2),(.cell J 2 3)]).map ju=o (.bS [hi,.agg [.int j (fl L).1,.int j (fl L).2]])/\aG h E/\CN h L hi E) λgI E hi a b c=>⟨gI,E,hi,rfl,a,b,c⟩;intro Q cQ;have bz:=(m h).one;have cD:=(m h).len;have f1:=(m h).fits;have ca:=λh=>at7 (h:=h) v L (m h) c1 aC;unfold MN;by_cases ak:(fl L).1=0
 ·obtain⟨e,aul,aF⟩:=TK ak;have dw:=auf ak;rw[e]at ca cQ;unfold CN at cQ;rw[e]at cQ;simp only[if_true]at cQ;simp only[ao,ar,av,ap,bz,cD,f1,ca,eq_self];refine pN (λi V E=>∃b4 cz c7 gy rows,V=[.agg [v],.ptr h.n 0 0,.aJ,.ptr (h.n+1) 0 0,.ptr (h.n+1+1) 0 0,b4,cz,c7,.bool U,v,.int j L.length,.int j (i:Nat),gy]/\aue h E b4 rows (L.take i)/\h.n+1<E.n/\E.cell (h.n+1)=o [[.int j 0,.int j 0]]) L.length ⟨_,_,_,_,[],rfl,⟨wa _ _ _,(by repeat (first|exact aG.refl _|refine aG.trans ?_ (aG.push _ _)|refine aG.trans ?_ (aG.fresh _ _))),by simp,λi x aF=>by simp at aF⟩,by simp only[eC];omega,?_⟩ ?_ ?_
  ·simp only[ao,hp,arf]
  ·rintro i V E af ⟨b4,cz,c7,gy,rows,rfl,oN,aA,aW⟩ next
   obtain⟨y,bH⟩:∃y,L[i]? =o y:=⟨_,fT af⟩;have TL:y∈L:=o6 bH;obtain⟨AZ,af8⟩:=aF y TL;obtain⟨a,q,i1,hh,iM⟩:=(m E).bJ i y bH;have ko:=hh _ (aG.refl E);obtain⟨dB,gm⟩:=iM.one;have ba:(i:Int)<(L.length:Int):=by omega
   have hw:=ew (n:=(i:Int)+1) (by omega) (by omega);have nD:r8 (E.n+1) [] ((E.push [q]).push [[.aJ]]):=⟨by simp[ai.push],.aJ,uZ,.inl ⟨rfl,rfl⟩⟩;have H0:∀k m,((E.push [q]).push [[.aJ]]).cell (E.n+1)≠o [[.bw k 0 m k2]]:=λk m e=>by rw[uZ]at e;simp at e
   obtain⟨aH,b1,d',t4⟩:=aua L.length _ y (b9 _) 0 AZ q _ _ _ iM nD (by simp only[fG];omega);have A0:=y5 _ y (b9 _) 0;obtain⟨bq,c4,sZ,t5⟩:=CK d' (by simp only[fz,fG];omega) 105 0 0;have t:=t4.trans t5;have nK:([]:List bv)++cW y ([]:List bv).length++[⟨105,0,0⟩]=lD y:=rfl;rw[nK]at sZ;obtain⟨O6,w,fV,b3⟩:=sZ;obtain⟨fk, -,pA,rfl,aum⟩:∃fk,lD y≠[]/\fk<bq.n/\w= .bw fk 0 (lD y).length k2/\bq.cell fk=o ((lD y).map gX):=by
    rcases b3 with⟨e,_⟩|b3
    ·simp[lD]at e
    ·exact b3
   have aDO:E.n+2<=fk:=by
    rcases oj fk ((E.push [q]).push [[.aJ]]).n with aun|vV
    ·obtain⟨bf,dT⟩:=t.cur fk aun _ fV;exact absurd dT (H0 _ _)
    ·simpa[ai.push]using vV
   have sE:aG E ((E.push [q]).push [[.aJ]]):=(by repeat (first|exact aG.refl _|refine aG.trans ?_ (aG.push _ _)|refine aG.trans ?_ (aG.fresh _ _)));have pE:aG E bq:=pi.h1 sE (by omega) (λk _ m=>H0 k m) t;have ej:=oN.acc.on pE.ids pE.hw;have hn:rows.length<=1000000:=by rw[oN.len,pv];omega
   obtain⟨aDP,cq,mn,jB,jC,iJ,aDQ⟩:=y4 ej (oN.g.trans pE) (row:=[.bw fk 0 (lD y).length k2]) rfl hn;have h9:cq.cell (h.n+1)=o [[.int j 0,.int j 0]]:=by rw[iJ,pE.cell _ aA];exact aW
   rw[cy Tl.eq_1];simp only[ao,ar,av,ap,b2,ba,i1,ko,dB,gm,b1,c4,fV,mn,hw];refine next _ _ ⟨_,_,_,_,_,rfl,⟨jB,jC,?_,λD x ae=>?_⟩,by have:=pE.n;omega,h9⟩
   ·rw[Ce bH,fz,fz,oN.len];rfl
   ·rw[Ce bH]at ae;by_cases tz:D<(L.take i).length
    ·rw[l0 tz]at ae;obtain⟨p,ei,qx,fd,ha,l4⟩:=oN.bJ D x ae;refine⟨p,by rw[l0 (by rw[oN.len];exact tz)];exact ei,qx,by have:=pE.n;omega,by rw[iJ,pE.cell _ fd];exact ha,λgg bQ c8 rD rE=>l4 gg bQ c8 rD ?_⟩;rwa [l0 (by rw[oN.len];omega)]at rE
    ·rw[l1 (by omega)]at ae;have tt:D - (L.take i).length=0:=by have:=(fO.1 ae).1;simp at this;simp;omega
     rw[tt]at ae;obtain rfl:y=x:=by simpa using ae
     refine⟨fk,by rw[l1 (by rw[oN.len];omega),oN.len,tt];rfl,by have:=oN.g.n;omega,by omega,by rw[iJ];exact aum,λgg bQ c8 rD rE=>?_⟩;have ahc:gg<rows.length:=by rw[oN.len];omega
     rw[l0 ahc]at rE;obtain⟨z,aB⟩:∃z,(L.take i)[gg]? =o z:=⟨_,fT (by rw[<-oN.len];exact ahc)⟩;obtain⟨p,ei,qx,fd,ha,l4⟩:=oN.bJ gg z aB;rw[ei]at rE;simp only[iF,yY,F.bw.injEq,and_true]at rE;omega
  ·rintro V E ⟨b4,cz,c7,gy,rows,rfl,oN,aA,aW⟩;have ba:¬((L.length:Int)<(L.length:Int)):=by omega
   rw[List.take_length]at oN;have auo:rows≠[]:=λe=>dw (sy.1 (by rw[<-oN.len,e];rfl));rw[cy Tl.eq_1];simp only[ao,ar,av,ap,b2,ba,aW];refine cQ _ _ b4 (by simp only[ao,i3,du,ho,fG]) (oN.g.set (by omega)) ⟨rows,?_,oN.len,λi x aF=>?_⟩
   ·rcases oN.acc with⟨e,_⟩|⟨id,_,_,_,_,e⟩
    ·exact absurd e auo
    ·exact⟨_,e⟩
   ·obtain⟨q,ei,qx,fd,ha,l4⟩:=oN.bJ i x aF;have aup:q≠h.n+1:=by
     rintro rfl;rw[aW]at ha;unfold lD at ha;cases an:cW x 0 with
     |nil=>rw[an]at ha;simp[gX]at ha
     |cons y l=>rw[an]at ha;simp[gX]at ha
    exact⟨q,ei,qx,(eN aup).trans ha,l4⟩
 ·unfold CN at cQ;simp only[ak,if_false]at cQ;simp only[ao,ar,av,ap,bz,cD,f1,ca,ak];exact cQ _ _ .aJ (by simp only[ao,i3,du,ho,fG]) (by refine aG.set ?_ (by omega);exact(by repeat (first|exact aG.refl _|refine aG.trans ?_ (aG.push _ _)|refine aG.trans ?_ (aG.fresh _ _)))) rfl
theorem auq(L:List bC):dl (mP L)=o (mP L):=by
 unfold mP;simp only[dl];have key:∀L:List bC,rz (L.map λx=>[F.b5 ag k2 ((cW x 0++[(⟨105,0,0⟩:bv)]).map λi:bv=>[.int j i.op,.int j i.k,.int j i.n])])=o (L.map λx=>[F.b5 ag k2 ((cW x 0++[(⟨105,0,0⟩:bv)]).map λi:bv=>[.int j i.op,.int j i.k,.int j i.n])]):=by
  intro L;induction L with
  |nil=>rfl
  |cons x L aR=>have xJ:rz ((cW x 0++[(⟨105,0,0⟩:bv)]).map λi:bv=>[F.int j i.op,.int j i.k,.int j i.n])=o ((cW x 0++[(⟨105,0,0⟩:bv)]).map λi:bv=>[F.int j i.op,.int j i.k,.int j i.n]):=BV (aud _);simp only[kf,rz,p6,dl,xJ,i3,aR]
 rw[key L];rfl
theorem aur(v:F)(L:List bC)(m:∀h,iW h v L)(c1:L.length<=100000)(aC:∀x∈L,x.size<=100000):AC aq 40 [.agg [v]] h (.inl (B2 L),h):=by
 obtain⟨gI,E,hi,aw,ay,g,be⟩:=auk (h:=h) v L m c1 aC;have iT:AC aq 40 [.agg [v]] h (.inl (.bS [hi,.agg [.int j (fl L).1,.int j (fl L).2]]),E):=aso dx auh rfl (by rw[aw,At,ay,z6,yB]);unfold B2;by_cases ak:(fl L).1=0
 ·unfold CN at be;rw[if_pos ak]at be ⊢;obtain⟨rows,⟨id,rfl⟩,am,aF⟩:=be;obtain⟨_,aul,fa⟩:=TK ak;obtain⟨R,f1,f2,f3,f4,f5⟩:=ahb rows L E 100000 am (by omega) λi x af=>by obtain⟨q,ei,qx,fd,ha⟩:=aF i x af;have A0:=y5 _ x (b9 _) 0;have:=(fa x (o6 af)).2;exact⟨q,ei,fd,by simp only[lD,fz,hj];omega,ha⟩
  have a2:=AC.aug iT f1;have yW:aG h R:=⟨by rw[f2];exact g.n,by rw[f3];exact g.ids,λk ab=>by
   refine(f5 k λi m hm=>?_).trans (g.cell k ab)
   ·obtain⟨x,af⟩:∃x,L[i]? =o x:=⟨_,fT (by rw[<-am];exact(fO.1 hm).1)⟩;obtain⟨q,ei,qx,_⟩:=aF i x af;rw[ei]at hm;simp only[iF,yY,F.bw.injEq,and_true]at hm;omega,λk ab=>by rw[f4];exact g.hw k ab⟩
  refine AC.forget (p:=J) a2 (dE yW ?_);have:=auq L;unfold mP lD at*;simp only[dl,p6,i3]at this ⊢;rw[this];rfl
 ·unfold CN at be;rw[if_neg ak]at be ⊢;subst be;exact AC.forget (p:=J) iT (dE g rfl)
theorem aus{v:F}{L:List bC}(Z:e9 gp v es)(am:g3 L es)(m:∀h,iW h v L)(c1:L.length<=100000)(aC:∀x∈L,x.size<=100000):aU aq aa 40 [.agg [v]] h=o (.inl (B2 L),h):=by
 have H:∃L:List bC,(∃a' es,[F.agg [v]]=[.agg [a']]/\e9 gp a' es/\g3 L es)/\AC aq 40 [.agg [v]] h (.inl (B2 L),h):=⟨L,⟨v,es,rfl,Z,am⟩,aur v L m c1 aC⟩;have aF:aa.ext 40=o KT:=by show sK 40=_;unfold sK;rw[if_neg (by decide),if_neg (by decide),if_pos rfl]
 unfold aU;rw[aF];simp only[KT];rw[dif_pos H];obtain⟨⟨a',gS,aw,bd,bR⟩,_⟩:=Classical.choose_spec H;have:L=Classical.choose H:=by
  injection aw with aw;injection aw with aw;injection aw with aw;subst aw;have:es=gS:=by
   rcases Z with⟨rfl,rfl⟩|⟨i,rfl⟩<;>rcases bd with⟨rfl,e⟩|⟨D,e⟩
   ·rfl
   ·cases e
   ·cases e
   ·injection e
  subst this;exact(aui _).2 _ _ _ (b9 _) am bR
 rw[<-this]
end
open Go.RowKit
theorem aut:(aq.info? 2).map (λi=>(i.zero,i.size,i.bytes))=o (o (.int j 0),1,8):=by kernel_rfl
theorem auu(A:Option Addr)(n cap:Nat)(xs:List b')(w:dO)(au:md w 1 A n cap xs)(I:∀u∈xs,u.oneCell'=J)(aA:n<=1000000):Calls aq 55 #[.slice A n cap] w λe bj=>∃xY tk,e= .returned (.slice xY n tk)/\bj.ownsRow w.heap.size 2 1 (.slice xY n tk) n xs/\oi w bj:=by
 obtain⟨i0,af,pw,Pt,lX⟩:=info_parts aut;have aX:∀(w:dO) (a:Option Addr) (l c:Nat),(binOp .eql 60 (.slice a l c) (.slice ag 0 0)).run aq w= .ok (.bool a.isNone) w:=λw a l c=>Lib.run_eql_slice_nil w _ _ a l c 0 0 Tryz.underlying60;rcases A with _|a
 ·have an:=au.2.2.1 rfl;have hle:=au.2.1;obtain rfl:n=0:=by omega
  subst an;obtain rfl:xs=[]:=List.eq_nil_of_length_eq_zero (by simpa using au.1)
  go_enter Tryz.func55,Tryz.ntmps55
  go_wp2
  go_ret
  exact⟨_,_,rfl,World.ownsRow_nil _ _ _ _,iR.refl _ _⟩
 ·have auv:(w.alloc (.cells #[] 2)).ownsRow w.heap.size 2 1 (.slice (o ⟨w.heap.size,0,ag⟩) 0 0) 0 []:=World.ownsRow_lit w #[] 0 (b9 _) (by unfold maxLen;omega) (by simp);have mH:md (w.alloc (.cells #[] 2)) 1 (o a) n cap xs:=au.new ((iR.refl _ _).alloc _)
  go_enter Tryz.func55,Tryz.ntmps55
  go_wp2_with (at_builtin;refine anC rfl (.tmp 5) (.tmp 6) 60 rfl w.heap.size 2 i0 _ 1 8 Tryz.underlying60 af pw Pt lX rfl (by decide) _ 0 [] _ rfl auv (o a) n cap xs rfl mH I (by unfold maxLen;omega) (by omega) (by simp) ?_)
  intro v cx TM auw Z auy;have aK:oi w cx:=((iR.refl _ w).alloc (.cells #[] 2)).step auw (by intro k ab;simp;omega)
  try simp only[ir,l3]at TM
  obtain⟨xY,tk,rfl⟩:∃xY tk,v= .slice xY n tk:=by
   rcases TM.2 with⟨rfl,rfl⟩|⟨g,tk,_,rfl,_⟩
   ·exact⟨_,_,rfl⟩
   ·exact⟨_,_,rfl⟩
  clear auy Z
  go_wp2
  go_ret
  exact⟨_,_,rfl,TM,aK⟩
open Go Go.RowKit
theorem auz(g O:Nat)(xs:List b')(w:dO)(au:md w 1 (o ⟨g,O,ag⟩) 12 12 xs)(I:∀u∈xs,u.oneCell'=J):Calls aq 21 #[.pointer (o ⟨g,O,ag⟩)] w λe bj=>∃xY tk,e= .returned (.slice xY 12 tk)/\bj.ownsRow w.heap.size 2 1 (.slice xY 12 tk) 12 xs/\oi w bj:=by
 go_enter Tryz.func21,Tryz.ntmps21
 go_wp2_with (go_at_call 55;refine(auu _ 12 12 _ _ au I (by omega)).mono ?_;rintro e bj ⟨xY,tk,rfl,jv,aK⟩)
 go_ret
 exact⟨_,_,rfl,jv,aK⟩
section
variable{P:c'}{m:ey}{h:ai}{w bj:dO}
theorem cp.auA(hw:cp P m h w)(aK:oi w bj){g:Nat}(a5:w.heap.size<=g){bK:Nat->Option b'}(ds:∀O v,bK O=o v->bj.cell? ⟨g,O,ag⟩=o v):∃bf,Ext m h bf h/\cp P bf h bj/\∀O v,bK O=o v->bf.eP g O=o v:=by
 have gT:=hw.new aK;have aF:Ext m h {m with eP:=λfH O=>if fH=g then bK O else m.eP fH O} h:=by refine⟨rfl,b9 _,b9 _,λ_ _=>⟨rfl,rfl,rfl⟩,λfH O v af=>?_,λ_ _=>⟨rfl,b9 _,λ_=>⟨rfl,rfl⟩⟩,λ_ _ h=>h⟩;have:=hw.tl af;show(if fH=g then bK O else m.eP fH O)=o v;rw[if_neg (by omega)];exact af
 refine⟨_,aF,?_,λO v af=>by show(if g=g then bK O else _)=_;rw[if_pos rfl];exact af⟩;refine{gT with live:=λb es ad=>?_,eP:=λfH O v af=>?_,sep:=λb es ad O=>?_,p8:=λk ab O aK=>?_,gN:=λfH x ae=>?_}
 ·obtain⟨cs,I,R,aj,aH,bq⟩:=gT.live b es ad;exact⟨cs,I,R,aj,aH,λi af D ae=>by obtain⟨v,a,c⟩:=bq i af D ae;exact⟨v,a,c.ext aF⟩⟩
 ·have af:(if fH=g then bK O else m.eP fH O)=o v:=af;by_cases e:fH=g
  ·rw[if_pos e]at af;rw[e];exact ds O v af
  ·rw[if_neg e]at af;exact gT.eP fH O v af
 ·have:=hw.below ad;show(if m.cu b=g then bK O else m.eP (m.cu b) O)=ag;rw[if_neg (by omega)];exact gT.sep b es ad O
 ·have:=(hw.tm ab).2;show(if m.jU k=g then bK O else m.eP (m.jU k) O)=ag;rw[if_neg (by omega)];exact gT.p8 k ab O aK
 ·obtain⟨aP,a2,bl,cr,ej⟩:=gT.gN fH x ae;refine⟨aP,a2,bl,cr,λO=>?_⟩;have:=hw.xf ae;show(if fH=g then bK O else m.eP fH O)=ag;rw[if_neg (by omega)];exact ej O
end
theorem ahd:(aq).cellsOf 2=1:=by kernel_rfl
theorem auB{h:ai}{b:Nat}(an:h.cell b=o [cs.map (.int j)++[bn]])(am:cs.length=12):AC aq 21 [.ptr b 0 0] h (.inl (.b5 ag 2 (cs.map λx=>[.int j x])),h):=by
 intro m w bI hw fQ;obtain⟨u,rfl⟩:∃u,bI=[u]:=by
  match bI,fQ.1 with
  |[u],_=>exact⟨u,rfl⟩
 have fJ:=fQ.2 0 (by simp) (by simp);simp only[List.getElem_cons_zero]at fJ;obtain⟨aDR,aW,bD,cl,eg,fV⟩:=hw.live b _ an;have xg:md w 1 (o ⟨m.cu b,0,ag⟩) 12 12 (cs.map (Value.int j)):=md.anA aW (b9 _) (by simp[am]) λD u bV=>by
  have ae:D<cs.length:=by have:=(fO.1 bV).1;simpa using this
  have rD:D<(cs.map (F.int j)++[bn]).length:=by simp;omega
  obtain⟨v,cF,cA⟩:=fV 0 (by simp) D rD;have cA:b8 aq m h ((cs.map (F.int j)++[bn])[D]'rD) v:=cA;rw[List.getElem_append_left (by simpa using ae),List.getElem_map]at cA;cases cA;simp only[xl,fT ae,i3,iF]at bV;rw[<-bV];simpa using cF
 cases fJ with
 |ptr _ _ _ ad=>
   have DW:=auz (m.cu b) 0 (cs.map (Value.int j)) w xg (by intro u bV;obtain⟨x,_,rfl⟩:=nt.1 bV;rfl);have dj:(0*(aq).cellsOf (m.hQ b)+0)=0:=by omega
   simp only[dj];refine DW.mono ?_;rintro e bj ⟨xY,tk,rfl,jv,aK⟩;have eL:=md.anz jv;obtain⟨g,O,rfl⟩:=eL.some_ (by omega);have a5:w.heap.size<=g:=(jv.lt g rfl).1;have ds:∀(p:Nat) (v:b'),(if O<=p then(cs.map (Value.int j))[p - O]? else ag)=o v->bj.cell? ⟨g,p,ag⟩=o v:=by
    intro p v Z;split at Z
    ·rename_i iH;have:=eL.anx (p:=p - O) Z;rw[show O+(p - O)=p by omega]at this;exact this
    ·cases Z
   obtain⟨bf,cb,dF,gH⟩:=hw.auA aK a5 (bK:=λp=>if O<=p then(cs.map (Value.int j))[p - O]? else ag) ds;refine⟨bf,cb,dF,iR.below aK (λ_ h=>h.elim) hw.size,_,rfl,?_⟩;have key:=b8.b5 (P:=aq) (m:=bf) (h:=h) ag 2 (cs.map λx=>[.int j x]) g O tk (λi _=>.int j (cs.getD i 0)) (λr au=>by
     obtain⟨x,_,rfl⟩:=nt.1 au;rw[ahd];rfl) (λi af D ae=>by
     rw[ahd]at ae ⊢;have tt:D=0:=by omega
     subst tt;refine gH _ _ ?_;have fb:i<cs.length:=by simpa using af
     show(if O<=O+(i*1+0)then(cs.map (Value.int j))[O+(i*1+0) - O]? else ag)=_;rw[if_pos (by omega),show O+(i*1+0) - O=i by omega];simp[fb,cZ]) (λi af D ae=>by
     have fb:i<cs.length:=by simpa using af
     have tt:D=0:=by simp only[List.getElem_map,hj]at ae;omega
     subst tt;have e:(cs.map λx=>[F.int j x])[i][0]= .int j (cs.getD i 0):=by simp[cZ,fb]
     rw[e];exact .int _ _) (by rw[fM,am];exact eL.2.1) (λk ab=>by cases ab)
   rw[fM,am]at key;exact key
theorem auC{hB:List Int}{A1:F}(I:cs.length=12)(R:hB.length=12)(e:cs.map (F.int j)++[bn]=hB.map (F.int j)++[A1]):cs=hB:=by have:=List.append_inj_left e (by simp[I,R]);refine List.ext_getElem? λi=>?_;have aj:=congrArg (·[i]?) this;simp only[xl]at aj;cases aF:cs[i]? <;>cases bH:hB[i]? <;>simp_all
theorem auD{h:ai}{b:Nat}(an:h.cell b=o [cs.map (.int j)++[bn]])(am:cs.length=12):aU aq aa 21 [.ptr b 0 0] h=o (.inl (.b5 ag 2 (cs.map λx=>[.int j x])),h):=by
 have H:∃cs:List Int,(∃gl bn,[F.ptr b 0 0]=[.ptr gl 0 0]/\h.cell gl=o [cs.map (.int j)++[bn]]/\cs.length=12)/\AC aq 21 [.ptr b 0 0] h (.inl (.b5 ag 2 (cs.map λx=>[.int j x])),h):=⟨cs,⟨b,bn,rfl,an,am⟩,auB an am⟩;have aF:aa.ext 21=o KU:=by show sK 21=_;unfold sK;rw[if_neg (by decide),if_neg (by decide),if_neg (by decide),if_pos rfl]
 unfold aU;rw[aF];simp only[KU];rw[dif_pos H];obtain⟨⟨gl,A1,aw,ay,be⟩,_⟩:=Classical.choose_spec H;have:cs=Classical.choose H:=by injection aw with aw;injection aw with aw;subst aw;rw[an]at ay;injection ay with ay;injection ay with ay;exact auC am be ay
 rw[<-this]
section
variable{h:ai}{ah al:Nat->Prop}{b:Nat}{G:aI}
theorem auE(g:fm h ah al b G)(ck:G.dg)(c r k:Int):∃E,aU aq aa 58 [.ptr b 0 0,.int j c,.int j r,.int j k] h=o (.inl (.bS [.int j (G.iv c r k).2.1,.int j (G.iv c r k).2.2]),E)/\gx h ah al b E (G.iv c r k).1:=by
 unfold aI.iv;cases an:sJ c
 ·rw[if_neg (by simp)];refine⟨h,?_,gx.same g⟩;refine a4 aco rfl ?_;unfold Q5;simp only[ao,ar,av,ap,bY,Lj,an]
 ·rw[if_pos rfl];obtain⟨E,e,d⟩:=RU g ck ⟨-1,k,r,c, -1,0⟩;simp only[dv]at e;refine⟨E,?_,d⟩;refine a4 aco rfl ?_;unfold Q5;simp only[ao,ar,av,ap,bY,Lj,an,e]
theorem auF(g:fm h ah al b G)(ck:G.dg)(c r k:Int):∃E,aU aq aa 66 [.ptr b 0 0,.int j c,.int j r,.int j k] h=o (.inl (.bS [.int j (G.iv c r k).2.1,.int j (G.iv c r k).2.2]),E)/\gx h ah al b E (G.iv c r k).1:=by
 unfold aI.iv;cases an:sJ c
 ·rw[if_neg (by simp)];refine⟨h,?_,gx.same g⟩;have kY:decide (c<0)=J\/decide (c<0)=U/\decide (12<=c)=J:=by simp[sJ]at an;simp only[decide_eq_true_eq,decide_eq_false_iff_not];omega
  refine a4 acX rfl ?_;unfold Ro;rcases kY with kY|⟨kY,ja⟩
  ·simp only[ao,ar,av,ap,bY,kY]
  ·simp only[ao,ar,av,ap,bY,kY,ja]
 ·rw[if_pos rfl];have z7:decide (c<0)=U:=by simp[sJ]at an;simp;omega
  have nR:decide (12<=c)=U:=by simp[sJ]at an;simp;omega
  obtain⟨E,e,d⟩:=RV g ck ⟨-1,k,r,c, -1,0⟩;simp only[dv]at e;refine⟨E,?_,d⟩;refine a4 acX rfl ?_;unfold Ro;simp only[ao,ar,av,ap,bY,z7,nR,e]
theorem ahe(p f:Int):(Aw p f=J/\decide (p<0)=U/\decide (4<=p)=U/\decide (f<0)=U/\decide (6<=f)=U)\/(Aw p f=U/\(decide (p<0)=J\/decide (p<0)=U/\decide (4<=p)=J\/decide (p<0)=U/\decide (4<=p)=U/\decide (f<0)=J\/decide (p<0)=U/\decide (4<=p)=U/\decide (f<0)=U/\decide (6<=f)=J)):=by simp only[Aw,decide_eq_true_eq,decide_eq_false_iff_not];omega
theorem auG(g:fm h ah al b G)(ck:G.dg)(p f r k:Int):∃E,aU aq aa 60 [.ptr b 0 0,.int j p,.int j f,.int j r,.int j k] h=o (.inl (.bS [.int j (G.ih p f r k).2.1,.int j (G.ih p f r k).2.2]),E)/\gx h ah al b E (G.ih p f r k).1:=by
 unfold aI.ih;rcases ahe p f with⟨an,I,R,aj,aH⟩|⟨an,aF⟩
 ·rw[if_pos an];obtain⟨E,e,d⟩:=RU g ck ⟨-1,k,r,0,p,f⟩;simp only[dv]at e;refine⟨E,?_,d⟩;refine a4 acr rfl ?_;unfold Q7;simp only[ao,ar,av,ap,bY,I,R,aj,aH,e]
 ·rw[if_neg (by simp[an])];refine⟨h,?_,gx.same g⟩;refine a4 acr rfl ?_;unfold Q7;rcases aF with I|⟨I,R⟩|⟨I,R,aj⟩|⟨I,R,aj,aH⟩
  ·simp only[ao,ar,av,ap,bY,I]
  ·simp only[ao,ar,av,ap,bY,I,R]
  ·simp only[ao,ar,av,ap,bY,I,R,aj]
  ·simp only[ao,ar,av,ap,bY,I,R,aj,aH]
theorem auH(g:fm h ah al b G)(ck:G.dg)(p f r k:Int):∃E,aU aq aa 64 [.ptr b 0 0,.int j p,.int j f,.int j r,.int j k] h=o (.inl (.bS [.int j (G.ih p f r k).2.1,.int j (G.ih p f r k).2.2]),E)/\gx h ah al b E (G.ih p f r k).1:=by
 unfold aI.ih;rcases ahe p f with⟨an,I,R,aj,aH⟩|⟨an,aF⟩
 ·rw[if_pos an];obtain⟨E,e,d⟩:=RV g ck ⟨-1,k,r,0,p,f⟩;simp only[dv]at e;refine⟨E,?_,d⟩;refine a4 acY rfl ?_;unfold Rq;simp only[ao,ar,av,ap,bY,I,R,aj,aH,e]
 ·rw[if_neg (by simp[an])];refine⟨h,?_,gx.same g⟩;refine a4 acY rfl ?_;unfold Rq;rcases aF with I|⟨I,R⟩|⟨I,R,aj⟩|⟨I,R,aj,aH⟩
  ·simp only[ao,ar,av,ap,bY,I]
  ·simp only[ao,ar,av,ap,bY,I,R]
  ·simp only[ao,ar,av,ap,bY,I,R,aj]
  ·simp only[ao,ar,av,ap,bY,I,R,aj,aH]
theorem ahf(g:fm h ah al b G)(ck:G.dg)(p r k:Int):∃E,aU aq aa 84 [.ptr b 0 0,.int j p,.int j r,.int j k] h=o (.inl (.bS [.int j (G.derive p r k).2.1,.int j (G.derive p r k).2.2]),E)/\gx h ah al b E (G.derive p r k).1:=by
 unfold aI.derive;cases an:G.has p
 ·rw[if_neg (by simp)];refine⟨h,?_,gx.same g⟩;refine a4 acv rfl ?_;unfold Q9;simp only[ao,ar,av,ap,bY,GZ g,an]
 ·rw[if_pos rfl];obtain⟨E,e,d⟩:=RU g ck ⟨p,k,r,0, -1,0⟩;simp only[dv]at e;refine⟨E,?_,d⟩;refine a4 acv rfl ?_;unfold Q9;simp only[ao,ar,av,ap,bY,GZ g,an,e]
theorem TN(g:fm h ah al b G)(ck:G.dg)(p r k:Int):∃E,aU aq aa 85 [.ptr b 0 0,.int j p,.int j r,.int j k] h=o (.inl (.bS [.int j (G.derive p r k).2.1,.int j (G.derive p r k).2.2]),E)/\gx h ah al b E (G.derive p r k).1:=by
 obtain⟨aZ,dS,I,R, -⟩:=g.ex;unfold aI.derive;cases an:G.has p
 ·rw[if_neg (by simp)];refine⟨h,?_,gx.same g⟩;have kY:decide (p<0)=J\/decide (p<0)=U/\decide ((G.nodes.length:Int)<=p)=J:=by simp[aI.has]at an;simp only[decide_eq_true_eq,decide_eq_false_iff_not];omega
  refine a4 ac3 rfl ?_;unfold Rr;rcases kY with kY|⟨kY,ja⟩
  ·simp only[ao,ar,av,ap,bY,kY]
  ·simp only[ao,ar,av,ap,bY,kY,ja,I,R.dH.len,R.dH.fits,fM]
 ·rw[if_pos rfl];have z7:decide (p<0)=U:=by simp[aI.has]at an;simp;omega
  have nR:decide ((G.nodes.length:Int)<=p)=U:=by simp[aI.has]at an;simp;omega
  obtain⟨E,e,d⟩:=RV g ck ⟨p,k,r,0, -1,0⟩;simp only[dv]at e;refine⟨E,?_,d⟩;refine a4 ac3 rfl ?_;unfold Rr;simp only[ao,ar,av,ap,bY,z7,nR,I,R.dH.len,R.dH.fits,fM,e]
theorem auI:∃E,aU aq aa 76 [] h=o (.inl (.ptr h.n 0 0),E)/\E=h.push [[.aJ,.aJ]]:=by refine⟨_,?_,rfl⟩;refine a4 aqv rfl ?_;unfold acK;simp only[ao,ar,av,ap]
theorem auJ(h:ai):fm (h.push [[.aJ,.aJ]]) (λk=>k=h.n) (λ_=>False) h.n ⟨[],[]⟩:=⟨⟨rfl,by simp[ai.push]⟩,⟨λk ab=>by rw[ab];simp[ai.push],λ_=>False.elim⟩,.aJ,.aJ,hb,.inl ⟨rfl,rfl⟩,.inl ⟨rfl,rfl⟩⟩
end
end Go.Proofs.YtkdbjfncchmmpaaGreat
